/- -/
import Derived.Test.YtdkimcnlhmhpgaaGreatM24
set_option maxHeartbeats 32000000
set_option maxRecDepth 100000
namespace Go.Proofs.YtdkimcnlhmhpgaaGreat
open Go.Proofs.Tryz Go.RowKit
variable {d:DK} {w:World} {A:Prop}
theorem mr (h:bk d) {i:Nat} (hi:i<d.stand.length) {s:List UInt8} (hs:s.length=128):OW d i s=0:=by
 unfold OW OM
 rw[h.down]
 simp only[Bool.false_eq_true,if_false]
 rw[if_neg (show ¬((i:Int)<0\/(d.stand.length:Int)<=i)by omega)]
 simp only[ne_eq,not_true_eq_false,if_false]
 rw[if_neg _a,if_neg _Q]
theorem wU (h:bk d) {l:List (Int×Int)} {s:List UInt8} (hX:dO l d.stand.length s.length):(OQ d l s).2=0:=by
 have⟨d',e1,_⟩:=CA (NY l) d s h.fit h.down h.fuse (fun a ha=>by have:=(hX.lt ha).1;omega) (mo hX.2.2.1)
 unfold OQ
 rw[if_pos hX,if_neg a!,e1]
theorem sL (h:bk d) {j u:Int} {s:List UInt8} (hf:bo d.stand.length j u=0) (hs:(s.length:Int)<=128*j-u):(Oa d j u s).2=0:=by
 have⟨f1,f2,f3,f4⟩:=jX hf
 unfold Oa
 rw[if_neg (by rw[hf];simp),if_neg _a,if_neg a!]
 split
 .rfl
 .have h2:((seen d (2+u.toNat/128)).take (u.toNat%128)).length<=u.toNat%128:=_w
  have⟨d',e1,_⟩:=Kh _ d (2+u.toNat/128) ((seen d (2+u.toNat/128)).take (u.toNat%128)++s) (MG _) h.fit h.down h.fuse ab!
  rw[e1]
theorem pg (h:bk d) {s:SB} (hs:s.aT.length=128) (hn:2<=d.stand.length):(cN s d).2=0:=by
 have h1:(aM ((s.seq%2:Nat):Int) s.aT d).2=0:=mr h _a hs
 have h2:=(jK (P:=fun _=>False) h ((s.seq%2:Nat):Int) s.aT (fun k hk=>hk.elim)).1.quiet
 show(if(aM ((s.seq%2:Nat):Int) s.aT d).2=0 then(if(aA (aM ((s.seq%2:Nat):Int) s.aT d).1).2=0 then((aA (aM ((s.seq%2:Nat):Int) s.aT d).1).1,(0:Int))else aA (aM ((s.seq%2:Nat):Int) s.aT d).1)else aM ((s.seq%2:Nat):Int) s.aT d).2=0
 rw[if_pos h1]
 have h3:(aA (aM ((s.seq%2:Nat):Int) s.aT d).1).2=0:=h2.th
 rw[if_pos h3]
theorem sK (h:bk d) {s:SB} (hs:s.aT.length=128) (hn:2<=d.stand.length):(aG [aA,cN s] d).2=0:=by
 have h1:(aA d).2=0:=h.th
 have h2:=(fH (P:=fun _=>False) h).1
 show(if(aA d).2=0 then(if(cN s (aA d).1).2=0 then((cN s (aA d).1).1,(0:Int))else cN s (aA d).1)else aA d).2=0
 rw[if_pos h1,if_pos (pg h2.quiet hs (by rw[h2.len];exact hn))]
theorem rz {v:VS} (h:bk v.d) {c:au} {tx:List UInt8} (hf:bo v.d.stand.length v.s.journal v.s.used=0) (hs:(tx.length:Int)<=128*v.s.journal-v.s.used) (hr:v.s.runs.length<=16):(bg c tx v).2=0/\(bg c tx v).1.s=dH v.s (v.s.used+tx.length):=by
 have⟨f1,f2,f3,f4⟩:=jX hf
 have h1:=sL h hf hs
 have h2:=(pj (P:=fun _=>False) h v.s.journal v.s.used tx (fun k hk=>hk.elim)).1
 have h3:=sK h2.quiet (sy (dH v.s (v.s.used+tx.length)) hr) (by rw[h2.len];omega)
 unfold bg
 rw[if_pos h1,if_pos h3]
 exact⟨rfl,rfl⟩
theorem J1 (h:bk d) (j:Int) (hn:2<=d.stand.length):(du j d).2=0/\bk (du j d).1/\(du j d).1.stand.length=d.stand.length:=by
 have hz:N9.length=128:=by unfold N9;exact Np
 have q1:=(jK (P:=fun _=>False) h 0 N9 (fun k hk=>hk.elim)).1
 have c1:(aM 0 N9 d).2=0:=mr h (i:=0) _a hz
 have q2:=(jK (P:=fun _=>False) q1.quiet 1 N9 (fun k hk=>hk.elim)).1
 have c2:(aM 1 N9 (aM 0 N9 d).1).2=0:=mr q1.quiet (i:=1) (by rw[q1.len];omega) hz
 have q3:=(fH (P:=fun _=>False) q2.quiet).1
 have c3:(aA (aM 1 N9 (aM 0 N9 d).1).1).2=0:=q2.quiet.th
 have q4:=(ph (P:=fun _=>False) (dX d.stand.length j) (fun k hk=>hk.elim) q3.quiet).1
 have c4:=pg q3.quiet (sy (dX d.stand.length j) (by show 0<=16;omega)) (by rw[q3.len,q2.len,q1.len];exact hn)
 have e:du j d=if(aM 0 N9 d).2=0 then(if(aM 1 N9 (aM 0 N9 d).1).2=0 then(if(aA (aM 1 N9 (aM 0 N9 d).1).1).2=0 then(if(cN (dX d.stand.length j) (aA (aM 1 N9 (aM 0 N9 d).1).1).1).2=0 then((cN (dX d.stand.length j) (aA (aM 1 N9 (aM 0 N9 d).1).1).1).1,(0:Int))else cN (dX d.stand.length j) (aA (aM 1 N9 (aM 0 N9 d).1).1).1)else aA (aM 1 N9 (aM 0 N9 d).1).1)else aM 1 N9 (aM 0 N9 d).1)else aM 0 N9 d:=rfl
 rw[e,if_pos c1,if_pos c2,if_pos c3,if_pos c4]
 exact⟨rfl,q4.quiet,q4.len.trans (q3.len.trans (q2.len.trans q1.len))⟩
theorem kZ (a n m:Nat):OE [((a:Int),(n:Int))] m=decide (a<=m/\m<a+n):=by
 unfold OE
 simp only[List.any_cons,List.any_nil,Bool.or_false]
 by_cases h:a<=m/\m<a+n
 .rw[MV h,MV _a,MV _a];rfl
 .rw[MS h]
  by_cases h1:a<=m
  .rw[MV _a,MS _a];rfl
  .rw[MS _a,Bool.false_and]
theorem CF (a n:Nat) (hn:1<=n) (h:a+n<=8192):Pl 0 [((a:Int),(n:Int))]:=⟨by show(0:Int)<=a;omega,by show(1:Int)<=n;omega,by show(a:Int)+n<=8192;omega,trivial⟩
theorem pV {f:Nat->Bool} (a n:Nat) (hn:1<=n) (h:a+n<=8192) (hf:∀m,m<8192->f m=decide (a<=m/\m<a+n)):eh f=[((a:Int),(n:Int))]:=
 (lL (CF a n hn h) (fun m hm=>by rw[<-dr,kZ,hf m hm])).symm
theorem mh (a n:Nat) (hn:1<=n) (h:a+n<=8192):OV [((a:Int),(n:Int))]=n:=by
 have h1:=uP [((a:Int),(n:Int))]
 rw[AL (CF a n hn h)]at h1
 have e:NZ [((a:Int),(n:Int))]=n:=by unfold NZ;simp
 omega
theorem AV (a n:Nat) (hn:1<=n) (h:a+n<=8192):Pr [((a:Int),(n:Int))] []=[((a:Int),(n:Int))]:=
 pV a n hn h (fun m _=>by rw[kZ];simp[OE])
theorem CY (a n k:Nat) (hn:k+1<=n) (h:a+n<=8192):Pr [((a:Int),(n:Int))] [((a:Int),(k:Int))]=[(((a+k:Nat):Int),((n-k:Nat):Int))]:=
 pV (a+k) (n-k) _a _a (fun m _=>by
  rw[kZ,kZ]
  by_cases h1:a<=m/\m<a+n
  .by_cases h2:a<=m/\m<a+k
   .rw[MV h1,MV h2,MS _a];rfl
   .rw[MV h1,MS h2,MV _a];rfl
  .rw[MS h1,MS (show ¬(a<=m/\m<a+k)by omega),MS (show ¬(a+k<=m/\m<a+k+(n-k))by omega)];rfl)
theorem zw (a n k:Nat) (hk:1<=k) (hn:k<=n) (h:a+n<=8192):Om [((a:Int),(n:Int))] k=[((a:Int),(k:Int))]:=
 pV a k hk _a (fun m _=>by
  unfold A9
  have hc:∀j,PM (OE [((a:Int),(n:Int))]) j=min j (a+n)-min j a:=fun j=>by
   rw[<-xL a n j]
   exact tj j (fun m _=>kZ a n m)
  rw[kZ,hc]
  by_cases h1:a<=m/\m<a+n
  .rw[MV h1,Bool.true_and]
   by_cases h2:m<a+k
   .rw[MV _a,MV _a]
   .rw[MS _a,MS _a]
  .rw[MS h1,Bool.false_and,MS (show ¬(a<=m/\m<a+k)by omega)])
def cK:List UInt8:=List.replicate 200 0
def eR:VC:=⟨3,0,[97],cK⟩
def fV:ag:=⟨3,0,[97],200,[(4,2)]⟩
theorem AX:az fV=true:=_d
theorem JR:az eR.told=true:=_d
theorem pG:OL cf:=⟨⟨_d,fun a ha=>V!,List.Pairwise.nil⟩,⟨_d,fun a ha=>by cases ha⟩,⟨_d,fun a ha=>V!,List.Pairwise.nil⟩,⟨_d,fun a ha=>by cases ha⟩,⟨_d,fun a ha=>V!,List.Pairwise.nil⟩⟩
theorem M77 {A:Prop}(h:A:=by
 unfold Oc
 rw[if_neg _b,if_neg (by
  rintro(hh|hh)
  .have⟨y,hy,_⟩:=SO.1 hh
   cases hy
  .exact absurd hh (by show ¬(0:Int)<0;decide)),if_neg _b]
 rfl):A:=h
theorem Lk:aW cf eR.told=(⟨1,1,[],[],[⟨0,[97],0,[]⟩]⟩,0):=by
 have e:Oc [] (ag.item eR.told) 0 256 false=([⟨0,[97],0,[]⟩],0):=by
  exact M77
 show(if(3:Int)=1 then _ else if(3:Int)=2 then _ else if(3:Int)=3 then({cf with names:=(Oc [] (ag.item eR.told) 0 256 false).1},(Oc [] (ag.item eR.told) 0 256 false).2)else _)=_
 rw[if_neg _d,if_neg _d,if_pos rfl,e]
 rfl
theorem Ll:aW cf fV=(⟨1,1,[],[],[⟨0,[97],200,[(4,2)]⟩]⟩,0):=by
 have e:Oc [] (ag.item fV) 0 256 false=([⟨0,[97],200,[(4,2)]⟩],0):=by
  exact M77
 show(if(3:Int)=1 then _ else if(3:Int)=2 then _ else if(3:Int)=3 then({cf with names:=(Oc [] (ag.item fV) 0 256 false).1},(Oc [] (ag.item fV) 0 256 false).2)else _)=_
 rw[if_neg _d,if_neg _d,if_pos rfl,e]
 rfl
theorem II:N8 cf [eR.told]=(⟨1,1,[],[],[⟨0,[97],0,[]⟩]⟩,0):=by
 unfold N8
 rw[if_pos pG]
 show(if az eR.told=true then if(aW cf eR.told).2=0 then cH (aW cf eR.told).1 []else _ else _)=_
 rw[if_pos JR,Lk,if_pos rfl]
 rfl
theorem zX:N8 cf [fV]=(⟨1,1,[],[],[⟨0,[97],200,[(4,2)]⟩]⟩,0):=by
 unfold N8
 rw[if_pos pG]
 show(if az fV=true then if(aW cf fV).2=0 then cH (aW cf fV).1 []else _ else _)=_
 rw[if_pos AX,Ll,if_pos rfl]
 rfl
theorem wH (d:DK) (dead:Bool):Oh ⟨d,dX 12 2,cf,dead⟩=[(4,8)]:=AV 4 8 _a _a
theorem Jo (d:DK) (dead:Bool) (s:SB) (h1:s.journal=2) (h2:s.sectors=12) (h3:s.runs=[]):Oh ⟨d,s,⟨1,1,[],[],[⟨0,[97],200,[(4,2)]⟩]⟩,dead⟩=[(6,6)]:=by
 unfold Oh
 rw[h1,h2,h3]
 exact CY 4 8 2 _a _a
theorem J2:dO [(4,2)] (12:Nat) (cK.length:Nat):=by
 refine⟨_a,_d,⟨fun a ha=>?_,List.pairwise_singleton _ _⟩,?_⟩
 .obtain rfl:=Nm.1 ha
  unfold gQ
  omega
 .have:=mh 4 2 _a _a
  rw[show(([(4,2)]:List (Int×Int)))=[(((4:Nat):Int),((2:Nat):Int))]from rfl,this]
  show((2:Nat):Int)=On ((List.replicate 200 (0:UInt8)).length:Int)
  rw[Np]
  decide
theorem tI:cX [fV]=0/\(Pv [fV]).length<=256:=by
 have h1:cX [fV]=0:=by
  unfold cX
  rw[if_neg _d,if_pos (by simp[AX])]
 refine⟨h1,?_⟩
 unfold Pv
 rw[if_pos h1]
 have hb:=vC (l:=[fV]) (fun r hr=>by
  obtain rfl:=Nm.1 hr
  exact jU AX ⟨_d,_d,by unfold maxLen;decide,_d⟩)
 have e1:[fV].length=1:=rfl
 unfold fZ
 simp only[tN,ak]
 omega
theorem ui (d:DK):P5 cf [eR]=0/\gW (Oh ⟨d,dX 12 2,cf,false⟩) [eR]/\Ob (Oh ⟨d,dX 12 2,cf,false⟩) [eR] [eR].length=([fV],Pr [(4,8)] [(4,2)]):=by
 have hp:Ob (Oh ⟨d,dX 12 2,cf,false⟩) [eR] [eR].length=([fV],Pr [(4,8)] [(4,2)]):=by
  rw[wH]
  have e1:On (eR.bytes.length:Int)=2:=by show On ((List.replicate 200 (0:UInt8)).length:Int)=2;rw[Np];decide
  have e2:Om [(4,8)] 2=[(4,2)]:=zw 4 8 2 _a _a _a
  show jL ([],[(4,8)]) eR=_
  unfold jL
  rw[if_pos _d,e1,e2]
  rfl
 have Wm:gW (Oh ⟨d,dX 12 2,cf,false⟩) [eR]:=by
  intro k hk _
  obtain rfl:k=0:=by simpa using hk
  rw[wH]
  have e1:On (eR.bytes.length:Int)=2:=by show On ((List.replicate 200 (0:UInt8)).length:Int)=2;rw[Np];decide
  show OT [(4,8)] (On (eR.bytes.length:Int))=0
  rw[e1]
  have e2:Om [(4,8)] 2=[(4,2)]:=zw 4 8 2 _a _a _a
  have e3:OV [(4,8)]=8:=mh 4 8 _a _a
  exact(zA _a (by rw[e3];decide) (by rw[e2];decide)).1
 have hw:P5 cf [eR]=0:=by
  unfold P5
  rw[if_neg _b,if_pos _d]
  show(N8 cf [eR.told]).2=0
  rw[II]
 exact⟨hw,Wm,hp⟩
open Classical in
theorem Ge (h:bk d) (hn:d.stand.length=12):(eX ⟨d,dX 12 2,cf,false⟩ [eR]).2=0/\OV (Oh (eX ⟨d,dX 12 2,cf,false⟩ [eR]).1)=6/\(eX ⟨d,dX 12 2,cf,false⟩ [eR]).1.s.may/\cQ (eX ⟨d,dX 12 2,cf,false⟩ [eR]).1.c<=1000:=by
 have⟨hw,Wm,hp⟩:=ui d
 have Q0:=wU h (l:=[(4,2)]) (s:=cK) (by rw[hn];exact J2)
 have hq1:=(ns (P:=fun _=>False) h [(4,2)] cK (fun k hk=>hk.elim)).1
 have hf:=hq1.quiet.th
 have Wu:=(fH (P:=fun _=>False) hq1.quiet).1
 have Qf:=rz (v:=⟨(aA (OQ d [(4,2)] cK).1).1,dX 12 2,cf,false⟩) Wu.quiet (c:=⟨1,1,[],[],[⟨0,[97],200,[(4,2)]⟩]⟩) (tx:=Pv [fV]) (by
  show bo (aA (OQ d [(4,2)] cK).1).1.stand.length 2 0=0
  rw[Wu.len,hq1.len,hn];decide) (by have:=tI.2;show _<=128*(2:Int)-0;omega) (by show 0<=16;omega)
 have hc:=tz Qf.1
 have P9:OH (gP [eR] [fV]++[aZ aA,bg ⟨1,1,[],[],[⟨0,[97],200,[(4,2)]⟩]⟩ (Pv [fV])]) ⟨d,dX 12 2,cf,false⟩=((bg ⟨1,1,[],[],[⟨0,[97],200,[(4,2)]⟩]⟩ (Pv [fV]) ⟨(aA (OQ d [(4,2)] cK).1).1,dX 12 2,cf,false⟩).1,0):=by
  show(if(OQ d [(4,2)] cK).2=0 then(if(aA (OQ d [(4,2)] cK).1).2=0 then(if(bg ⟨1,1,[],[],[⟨0,[97],200,[(4,2)]⟩]⟩ (Pv [fV]) ⟨(aA (OQ d [(4,2)] cK).1).1,dX 12 2,cf,false⟩).2=0 then _ else _)else _)else _)=_
  rw[if_pos Q0,if_pos (show(aA (OQ d [(4,2)] cK).1).2=0 from hf),if_pos Qf.1]
  rfl
 have hch:eX ⟨d,dX 12 2,cf,false⟩ [eR]=Qk ((bg ⟨1,1,[],[],[⟨0,[97],200,[(4,2)]⟩]⟩ (Pv [fV]) ⟨(aA (OQ d [(4,2)] cK).1).1,dX 12 2,cf,false⟩).1,0):=by
  unfold eX
  rw[hp]
  simp only
  rw[if_neg _b,if_neg (by rw[hw];simp),if_neg (by simpa using Wm),zX]
  simp only
  rw[if_neg _b,if_neg (by rw[tI.1];simp),if_pos (by have:=tI.2;show _<=(2:Int)*128-0;omega),P9]
 rw[hch]
 refine⟨rfl,?_,?_,?_⟩
 rotate_left
 .show(bg _ _ _).1.s.may
  rw[Qf.2]
  have:=tI.2
  exact uW (qh _a _a _a _a) (by show(0:Int)<=0+(Pv [fV]).length;omega) (by show(0:Int)+(Pv [fV]).length<=2*128;omega)
 .show cQ (bg _ _ _).1.c<=1000
  rw[hc.1]
  decide
 have e:Oh (Qk ((bg ⟨1,1,[],[],[⟨0,[97],200,[(4,2)]⟩]⟩ (Pv [fV]) ⟨(aA (OQ d [(4,2)] cK).1).1,dX 12 2,cf,false⟩).1,0)).1=[(6,6)]:=by
  generalize hA:bg ⟨1,1,[],[],[⟨0,[97],200,[(4,2)]⟩]⟩ (Pv [fV]) ⟨(aA (OQ d [(4,2)] cK).1).1,dX 12 2,cf,false⟩=A at Qf hc ⊢
  obtain⟨⟨d',s',c',dd'⟩,code⟩:=A
  obtain rfl:c'=_:=hc.1
  obtain rfl:s'=_:=Qf.2
  exact Jo _ _ _ rfl rfl rfl
 rw[e]
 exact mh 6 6 _a _a
def le (l:List UInt8) (at_ n:Nat):Nat:=RN ((l.drop at_).take n)
def Pd (l:List UInt8):Nat->List (Int×Int)
 |0=>[]
 |k+1=>Pd l k++[(((le l (36+4*k) 2:Nat):Int),((le l (38+4*k) 2:Nat):Int))]
theorem jP (l:List UInt8) (k:Nat):(Pd l k).length=k:=by
 induction k with
 |zero=>rfl
 |succ k ih=>rw[Pd,tN,ih];rfl
def PS (l:List UInt8):SB:=⟨le l 8 8,(le l 16 4:Nat),(le l 20 4:Nat),(le l 24 4:Nat),(le l 28 4:Nat),Pd l (le l 32 2)⟩
def ff (l:List UInt8):Prop:=l.length=128/\le l 32 2<=16/\(PS l).may/\(PS l).aT=l
theorem iN (l:List UInt8) (a n:Nat):le l a n<256^n:=by
 unfold le
 refine MR (mO _) (Nat.pow_le_pow_right _d ?_)
 rw[MO];omega
theorem Lm (A B:List UInt8) (n k a:Nat) (h:n<256^k) (ha:A.length=a):le (A++(NT n k++B)) a k=n:=by
 subst ha
 unfold le
 rw[List.drop_left,List.take_left' (ak n k),xA,Nat.mod_eq_of_lt h]
theorem wu (s:SB):∃T,s.aT=fe++(NT s.seq 8++(NT s.sectors.toNat 4++(NT s.journal.toNat 4++(NT s.used.toNat 4++(NT s.size.toNat 4++(NT s.runs.length 2++(NT 0 2++(eB s.runs++T)))))))):=by
 refine⟨List.replicate (124-(s.body.length:Int)).toNat 0++NT (PE (Pg s.body 124)) 4,?_⟩
 unfold SB.aT dF
 have e:Pg s.body 124=s.body++List.replicate (124-(s.body.length:Int)).toNat 0:=rfl
 rw[e]
 generalize List.replicate (124-(s.body.length:Int)).toNat (0:UInt8)=Z
 generalize NT (PE (s.body++Z)) 4=C
 unfold SB.body
 simp only[MW]
theorem Cb (s:SB) (h:s.runs.length<65536):le s.aT 32 2=s.runs.length:=by
 have⟨T,e⟩:=wu s
 have:=Lm (fe++NT s.seq 8++NT s.sectors.toNat 4++NT s.journal.toNat 4++NT s.used.toNat 4++NT s.size.toNat 4) (NT 0 2++(eB s.runs++T)) s.runs.length 2 32 _a (by simp[ak,fe])
 rw[e];simpa only[MW]using this
def gF:SB:=⟨0,0,0,0,0,[]⟩
def lJ (l:List UInt8):Prop:=ff l/\(PS l).seq%2=0
def nT (l:List UInt8):Prop:=ff l/\(PS l).seq%2=1
def tC (a b:List UInt8) (o:Option (List UInt8)):Prop:=
 (o=none/\¬lJ a/\¬nT b)\/(o=some a/\lJ a/\¬(nT b/\(PS a).seq<(PS b).seq))\/(o=some b/\nT b/\¬(lJ a/\(PS b).seq<(PS a).seq))
def mK:Option (List UInt8)->SB
 |none=>gF
 |some l=>PS l
theorem SB.Ce (s:SB):s.same s=true:=by
 unfold SB.same;simp
def fO (ok bad:Value) (a b:List UInt8) (w:World) (e:Ending) (w':World):Prop:=
 (∃o v,tC a b o/\e=.returned (.tuple #[.agg ((mK o).cells v),if o.isSome then ok else bad])/\af w' v (mK o).runs w w')/\NP [] w w'
def jH (ok bad:Value) (l:List UInt8) (w:World) (e:Ending) (w':World):Prop:=
 ((ff l/\∃v,e=.returned (.tuple #[.agg ((PS l).cells v),ok])/\af w' v (PS l).runs w w')\/(¬ff l/\e=.returned (.tuple #[.agg (gF.cells ()),bad])))/\NP [] w w'
theorem ji {ok bad:Value} {l:List UInt8} {w':World} (h:¬ff l) (hk:NP [] w w'):jH ok bad l w (.returned (.tuple #[.agg #[.int .u64 0,(0:Int),(0:Int),(0:Int),(0:Int),()],bad])) w':=⟨Or.inr ⟨h,rfl⟩,hk⟩
theorem yQ (l:List UInt8):(PS l).runs=Pd l (le l 32 2):=rfl
theorem sM (k:Int) (x:NS) (xv:Value) (w:World) (hs:fP xv):am! 256 #[k,.agg (x.cells xv)] w fun e w'=>e=.returned (.agg ((x.told k).cells xv))/\NP [] w w':=by
 obtain⟨p,n,c,rfl⟩:=hs
 have oX:=ae.new w (x.cells (p,n,c)) 113
 unfold NS.cells at oX
 have⟨x0,x1,x2,x3⟩:=oX.c4
 clear oX
 unfold NS.told ag.cells NS.cells
 go_enter func256,ntmps256
 go_wp2_with fail
 have o2:=ae.new (w.alloc (.cells #[(x.id,()),x.name,x.size,(p,n,c)] 113)) #[k,(x.id,()),x.name,x.size,(p,n,c)] 102
 simp only[Nd]at o2
 refine MN (v:=.agg #[k,(x.id,()),x.name,x.size,(p,n,c)]) (iu results256 rfl (t:=102) ?_ underlying102 rfl _c) rfl ⟨rfl,?_⟩
 .exact o2
 .exact((NP.refl _ _).alloc _).alloc _
theorem M88 (h:A:=by
 go_enter func126,ntmps126
 go_wp2_with fail
 go_ret
 exact⟨rfl,K0.out⟩):A:=h
theorem Cv (a b:NS) (va vb:Value) (w:World) (h:bd w (a,va)) (h':bd w (b,vb)) (hl:a.runs.length<=1000000) (hm:b.runs.length<=1000000):
  am! 126 #[.agg (a.cells va),.agg (b.cells vb)] w fun e w'=>e=.returned (.bool (a.same b))/\NP [] w w':=by
 have hc:=NS.four a b
 have hq:=fun w' (hk:NP [] w w')=>uG va vb a.runs b.runs _ _ _ _ w' (h.1.kept0 hk) (h'.1.kept0 hk) hl hm
 have HQ:=tK hq
 have⟨pa,ca,e1⟩:=h.1.shape
 have⟨pb,cb,e2⟩:=h'.1.shape
 simp only at e1 e2
 subst e1 e2
 have⟨aid,an,asz,ar⟩:=a
 have⟨bid,bn,bsz,br⟩:=b
 simp only at hc HQ hl hm
 unfold NS.cells
 simp only
 generalize NS.same ⟨aid,an,asz,ar⟩ ⟨bid,bn,bsz,br⟩=SM at*
 have k0:=((NP.refl [] w).alloc (.cells #[(aid,()),an,asz,(pa,ar.length,ca)] 113)).alloc (.cells #[(bid,()),bn,bsz,(pb,br.length,cb)] 113)
 have⟨oA,oB⟩:=ch w #[(aid,()),an,asz,(pa,ar.length,ca)] #[(bid,()),bn,bsz,(pb,br.length,cb)] 113 113
 have⟨a0,a1,a2,a3⟩:=oA.c4
 have⟨b0,b1,b2,b3⟩:=oB.c4
 have K0:=tK k0
 have hq0:=HQ.out _ k0
 have HQ0:=tK hq0
 clear h h' hq oA oB k0 hq0 HQ
 rcases hc with⟨h1,rfl⟩|⟨h1,h2,rfl⟩|⟨h1,h2,h3,rfl⟩|⟨h1,h2,h3,rfl⟩
 .skip
  exact M88
 .have⟨g1,g2⟩:=iY an bn h2
  exact M88
 .have⟨g1,g2⟩:=iY an bn h2
  exact M88
 .have⟨g1,g2⟩:=iY an bn h2
  go_enter func126,ntmps126
  go_wp2_with fail
  refine HQ0.out.mono ?_;rintro e w2 ⟨rfl,k2⟩
  have KK:=tK (K0.out.trans k2)
  go_wp2_with fail
  go_ret
  exact⟨rfl,KK.out⟩
def qX (l:List NS) (x:NS):Int:=if PJ l x<l.length then(PJ l x:Int)else -1
def fY (l:List NS) (x:NS) (w:World) (e:Ending) (w':World):Prop:=e=(qX l x:Int)/\NP [] w w'
theorem JG {l:List NS} {x:NS} {w w':World} (h:∀j (hj:j<l.length),cO l[j] x=false) (q:NP [] w w'):fY l x w (.returned (-1:Int)) w':=by
 have e:PJ l x=l.length:=zH (MG _) (fun j hj=>h j hj) (fun hh=>absurd hh (Nat.lt_irrefl _))
 unfold fY qX
 rw[if_neg _a]
 exact⟨rfl,q⟩
theorem Hp {l:List NS} {x:NS} {k:Nat} {w w':World} (hk:k<l.length) (h:∀j (hj:j<l.length),j<k->cO l[j] x=false) (hx:cO l[k] x=true) (q:NP [] w w'):fY l x w (.returned (k:Int)) w':=by
 have e:PJ l x=k:=zH (Nat.le_of_lt hk) (fun j hj=>h j _a hj) (fun _=>hx)
 unfold fY qX
 rw[e,if_pos hk]
 exact⟨rfl,q⟩
theorem DE (a b:NS):((a.id==b.id)=false/\cO a b=false)\/((a.id==b.id)=true/\(a.name==b.name)=false/\cO a b=false)\/((a.id==b.id)=true/\(a.name==b.name)=true/\cO a b=true):=by
 unfold cO
 cases a.id==b.id<;>cases a.name==b.name<;>simp
theorem M95 (h:A:=by
 go_wp2_with fail
 go_roundw
 case rel=>exact⟨k+1,Of.out,_j,HN.out,SI.out⟩
 case measure=>(have h:=Of.out;simp[intOf];omega)):A:=h
theorem L0 (v:Value) (l:List NS) (x:NS) (w:World) (h:aU w v l) (hl:l.length<=1000000):
  am! 216 #[v,(x.id,()),x.name] w (fY l x w):=by
 obtain⟨pa,ca,rfl⟩:=h.shape
 have H:=tK h
 have Tg:(l.length:Int)<=1000000:=_a
 clear h
 go_enter func216,ntmps216
 go_wp2_with fail
 go_loopw [7] (fun i wr=>∃k:Nat,k<=l.length/\i=(k:Int)/\(∀j (hj:j<l.length),j<k->cO l[j] x=false)/\NP [] w wr) (fun i _=>l.length-(intOf i).toNat)
 case atStart=>exact⟨0,Nb _,rfl,fun j hj h=>absurd h (Nat.not_lt_zero j),NP.refl _ _⟩
 case round=>
  obtain⟨k,hk,rfl,OF,hK⟩:=hrel
  by_cases NV:k<l.length
  .obtain⟨b,off,kv,rfl,hia,hb,RU,hc2,HA⟩:=H.out.ja k NV
   have⟨x0,x1,x2,x3⟩:=HA wr hK
   have hc:=DE (l[k]'NV) x
   have⟨Pk,SI,Of⟩:=gg! OF hK NV
   have i1:(k:Int)<l.length:=_a
   have Wv:Hid (cO (l[k]'NV) x=true->∀w',NP [] w w'->fY l x w (.returned (k:Int)) w'):=tK (fun he w' q=>Hp NV OF he q)
   have RA:Hid (cO (l[k]'NV) x=false->∀j (hj:j<l.length),j<k+1->cO l[j] x=false):=tK (fun he j hj hjk=>by
    by_cases e:j=k
    .subst e;exact he
    .exact OF j hj _a)
   clear hia OF HA hb hK
   generalize hLA:l[k]'NV=A at*
   clear hLA NV
   rcases hc with⟨h1,h2⟩|⟨h1,h2,h3⟩|⟨h1,h2,h3⟩
   .have HN:=tK (RA.out h2)
    clear h2
    exact M95
   .have HN:=tK (RA.out h3)
    have⟨g1,g2⟩:=iY _ _ h2
    clear h2 h3
    exact M95
   .have HY:=tK (Wv.out h3)
    have⟨g1,g2⟩:=iY _ _ h2
    clear h2 h3
    go_wp2_with fail
    go_ret
    exact HY.out _ SI.out
  .obtain rfl:k=l.length:=_a
   have HN:Hid (fY l x w (.returned (-1:Int)) wr):=tK (JG (fun j hj=>OF j hj hj) hK)
   have i1:¬(l.length:Int)<l.length:=_a
   clear OF hK
   go_wp2_with fail
   go_ret
   exact HN.out
theorem nt (va vb:Value) (l m:List NS) (w:World) (h:aU w va l) (h':aU w vb m) (hl:jk l) (hm:jk m):
  am! 66 #[va,vb] w (bG (l=m) w):=by
 obtain⟨pa,ca,rfl⟩:=h.shape
 obtain⟨pb,cb,rfl⟩:=h'.shape
 have⟨H,H2,HL,HM⟩:=gh! h h' hl hm
 have j1:(l.length:Int)<=1000000:=by have:=hl.1;omega
 have j2:(m.length:Int)<=1000000:=by have:=hm.1;omega
 have S2:=Cv
 have ZP:=tK S2
 clear h h' hl hm S2
 by_cases Pb:l.length=m.length
 .have abX:Hid (l.length=m.length):=tK Pb
  rw[<-Pb]
  clear Pb j2
  go_enter func66,ntmps66
  go_wp2_with fail
  go_loopw [5] (fun i wr=>∃k:Nat,k<=l.length/\i=(k:Int)/\l.take k=m.take k/\NP [] w wr) (fun i _=>l.length-(intOf i).toNat)
  case atStart=>exact⟨0,Nb _,rfl,rfl,NP.refl _ _⟩
  case round=>
   obtain⟨k,hk,rfl,PF,hK⟩:=hrel
   by_cases NV:k<l.length
   .have TZ:k<m.length:=by have:=abX.out;omega
    obtain⟨b,off,kva,rfl,hia,hb,RU,hc2,HA⟩:=H.out.ja k NV
    obtain⟨b',off',kvb,rfl,Rr,UR,hc1',hc2',HB⟩:=H2.out.ja k TZ
    have W9:=fun W (q:NP [] w W)=>ZP.out (l[k]'NV) (m[k]'TZ) kva kvb W (hia.kept0 q) (Rr.kept0 q) (HL.out.2 _ (MJ NV)) (HM.out.2 _ (MJ TZ))
    obtain⟨p1,n1,c1,rfl⟩:=hia.fz
    obtain⟨p2,n2,c2,rfl⟩:=Rr.fz
    obtain⟨S,hS⟩:∃S,NS.same (l[k]'NV) (m[k]'TZ)=S:=⟨_,rfl⟩
    have hSe:S=true↔l[k]'NV=m[k]'TZ:=by rw[<-hS];exact NS.Ep
    simp only[hS]at W9
    have i1:(k:Int)<l.length:=_a
    unfold NS.cells at W9
    have⟨HSA,HSE,Sm,SI,V9,Zd⟩:=gj! W9 hSe PF hK HA HB
    clear hia Rr W9 hS hSe PF hK HA HB hb UR
    generalize hLA:l[k]'NV=A at*
    generalize hLB:m[k]'TZ=B at*
    have⟨HLA,HLB⟩:=_f hLA hLB
    have Of:=tK (And.intro NV TZ)
    clear hLA hLB
    go_wp2_with fail
    refine MK (S:=(fun W=>W.cell? (aa b (off+k*4))=(A.id,())/\W.cell? (aa b (off+k*4+1))=A.name/\W.cell? (aa b (off+k*4+2))=A.size/\W.cell? (aa b (off+k*4+3))=(p1,n1,c1)/\W.cell? (aa b' (off'+k*4))=(B.id,())/\W.cell? (aa b' (off'+k*4+1))=B.name/\W.cell? (aa b' (off'+k*4+2))=B.size/\W.cell? (aa b' (off'+k*4+3))=(p2,n2,c2))) _c (by(have⟨x0,x1,x2,x3⟩:=V9.out _ SI.out.drew;have⟨y0,y1,y2,y3⟩:=Zd.out _ SI.out.drew;exact⟨x0,x1,x2,x3,y0,y1,y2,y3⟩)) (fun hHeld=>?_)
    refine tS ?_
    refine rD 8 (fun K hK=>?_)
    go_simp
    ((with_reducible refine(HSA.out _ SI.out.drew).mono ?_));rintro e w2 ⟨rfl,k2⟩
    have KK:=tK (SI.out.drew.trans k2)
    go_wp2_with fail
    refine hK.out _ _ ?_ (fun hHeld=>nM ?_)
    ·(have⟨x0,x1,x2,x3⟩:=V9.out _ KK.out;have⟨y0,y1,y2,y3⟩:=Zd.out _ KK.out;exact⟨x0,x1,x2,x3,y0,y1,y2,y3⟩)
    clear hK K
    refine tS ?_
    refine Ng _c ?_ _
    cases S with
    |true=>
     go_wp2_with fail
     go_roundw
     case rel=>exact⟨k+1,Of.out.1,_j,B6 Of.out.1 Of.out.2 Sm.out (by rw[HLA.out,HLB.out];exact HSE.out.1 _b),KK.out⟩
     case measure=>(have h:=Of.out.1;simp[intOf];omega)
    |false=>
     go_wp2_with fail
     go_ret
     exact aX (fun e=>by subst e;have h1:=HLA.out;have h2:=HLB.out;rw[h1]at h2;have:=HSE.out.2 h2;cases this) KK.out
   .obtain rfl:k=l.length:=_a
    have he:l=m:=by
     rw[MU,abX.out,MU]at PF
     exact PF
    have HE:=tK he
    have i1:¬(l.length:Int)<l.length:=_a
    clear PF he
    go_wp2_with fail
    go_ret
    exact gu HE.out hK
 .have afw:¬(l.length:Int)=m.length:=_a
  have WJ:=tK Pb
  clear Pb
  go_enter func66,ntmps66
  go_wp2_with fail
  go_ret
  exact aX (fun e=>WJ.out (by rw[e])) (NP.refl _ _)
theorem EH (va vb:Value) (a b:au) (w:World) (h:dJ w va a) (h':dJ w vb b) (hl:ie a) (hm:ie b):
  am! 18 #[va,vb] w (bG (a=b) w):=by
 have hc:=au.qG a b
 obtain⟨b1,m1,n1,rfl,TG,Ty,QX,_⟩:=h
 obtain⟨b2,m2,n2,rfl,Q3,QL,QU,_⟩:=h'
 have HB:Hid (∀W,NP [] w W->am! 66 #[b1,b2] W (bG (a.boxes=b.boxes) W)):=tK (fun W q=>nt _ _ _ _ W (TG.kept0 q) (Q3.kept0 q) hl.1 hm.1)
 have HM:Hid (∀W,NP [] w W->am! 66 #[m1,m2] W (bG (a.mans=b.mans) W)):=tK (fun W q=>nt _ _ _ _ W (Ty.kept0 q) (QL.kept0 q) hl.2.1 hm.2.1)
 have HN:Hid (∀W,NP [] w W->am! 66 #[n1,n2] W (bG (a.names=b.names) W)):=tK (fun W q=>nt _ _ _ _ W (QX.kept0 q) (QU.kept0 q) hl.2.2 hm.2.2)
 obtain⟨p1,c1,rfl⟩:=TG.shape
 obtain⟨p2,c2,rfl⟩:=Ty.shape
 obtain⟨p3,c3,rfl⟩:=QX.shape
 obtain⟨q1,d1,rfl⟩:=Q3.shape
 obtain⟨q2,d2,rfl⟩:=QL.shape
 obtain⟨q3,d3,rfl⟩:=QU.shape
 unfold bG at HB HM HN
 clear TG Ty QX Q3 QL QU hl hm
 obtain⟨Q,hQ⟩:∃Q:Prop,(a=b)=Q:=⟨_,rfl⟩
 obtain⟨QB,hQB⟩:∃Q:Prop,(a.boxes=b.boxes)=Q:=⟨_,rfl⟩
 obtain⟨QM,hQM⟩:∃Q:Prop,(a.mans=b.mans)=Q:=⟨_,rfl⟩
 obtain⟨QN,hQN⟩:∃Q:Prop,(a.names=b.names)=Q:=⟨_,rfl⟩
 have HQ0:Hid (((a.nextBox==b.nextBox)=false/\¬Q)\/((a.nextBox==b.nextBox)=true/\(a.nextMan==b.nextMan)=false/\¬Q)\/((a.nextBox==b.nextBox)=true/\(a.nextMan==b.nextMan)=true/\(Q↔QB/\QM/\QN))):=by
  rw[<-hQ,<-hQB,<-hQM,<-hQN];exact hc
 rw[hQ]
 rw[hQB]at HB
 rw[hQM]at HM
 rw[hQN]at HN
 clear hc hQ hQB hQM hQN
 generalize a.nextBox=nb at*
 generalize a.nextMan=nm at*
 generalize b.nextBox=nb2 at*
 generalize b.nextMan=nm2 at*
 generalize a.boxes.length=l1 at*
 generalize a.mans.length=l2 at*
 generalize a.names.length=l3 at*
 generalize b.boxes.length=l4 at*
 generalize b.mans.length=l5 at*
 generalize b.names.length=l6 at*
 have⟨oA,oB⟩:=ch w #[(nb,()),(nm,()),(p1,l1,c1),(p2,l2,c2),(p3,l3,c3)] #[(nb2,()),(nm2,()),(q1,l4,d1),(q2,l5,d2),(q3,l6,d3)] 52 52
 have k0:=((NP.refl [] w).alloc (.cells #[(nb,()),(nm,()),(p1,l1,c1),(p2,l2,c2),(p3,l3,c3)] 52)).alloc (.cells #[(nb2,()),(nm2,()),(q1,l4,d1),(q2,l5,d2),(q3,l6,d3)] 52)
 have K0:=tK k0
 have⟨x0,x1,x2,x3,x4⟩:=oA.k5
 have⟨y0,y1,y2,y3,y4⟩:=oB.k5
 have⟨OA,OB⟩:=_f oA oB
 clear k0 oA oB
 rcases HQ0.out with⟨h1,h2⟩|⟨h1,h3,h2⟩|⟨h1,h3,h2⟩
 .have Rs:=tK h2
  clear h2 HQ0
  go_enter func18,ntmps18
  go_wp2_with fail
  go_ret
  exact aX Rs.out K0.out
 .have Rs:=tK h2
  clear h2 HQ0
  go_enter func18,ntmps18
  go_wp2_with fail
  go_ret
  exact aX Rs.out K0.out
 .have HQ2:=tK h2
  clear h2 HQ0
  go_enter func18,ntmps18
  go_wp2_with fail
  refine(HB.out _ K0.out).mono ?_;rintro e w2 ⟨r1,rfl,e1,k2⟩
  have K2:=tK (K0.out.trans k2)
  have E1:=tK e1
  have oA2:=k2.own OA.out _b
  have oB2:=k2.own OB.out _b
  have⟨x0,x1,x2,x3,x4⟩:=oA2.k5
  have⟨y0,y1,y2,y3,y4⟩:=oB2.k5
  have⟨UW,XS⟩:=_f oA2 oB2
  clear e1 oA2 oB2
  cases r1 with
  |false=>
   go_wp2_with fail
   go_ret
   exact aX (fun q=>by have:=E1.out.2 (HQ2.out.1 q).1;cases this) K2.out
  |true=>
   go_wp2_with fail
   refine(HM.out _ K2.out).mono ?_;rintro e w3 ⟨r2,rfl,e2,k3⟩
   have K3:=tK (K2.out.trans k3)
   have E2:=tK e2
   have oA3:=k3.own UW.out _b
   have oB3:=k3.own XS.out _b
   have⟨x0,x1,x2,x3,x4⟩:=oA3.k5
   have⟨y0,y1,y2,y3,y4⟩:=oB3.k5
   clear e2 oA3 oB3
   cases r2 with
   |false=>
    go_wp2_with fail
    go_ret
    exact aX (fun q=>by have:=E2.out.2 (HQ2.out.1 q).2.1;cases this) K3.out
   |true=>
    go_wp2_with fail
    refine(HN.out _ K3.out).mono ?_;rintro e w4 ⟨r3,rfl,e3,k4⟩
    have K4:=tK (K3.out.trans k4)
    have E3:=tK e3
    clear e3
    go_wp2_with fail
    go_ret
    exact⟨r3,rfl,⟨fun q=>HQ2.out.2 ⟨E1.out.1 _b,E2.out.1 _b,E3.out.1 q⟩,fun q=>E3.out.2 (HQ2.out.1 q).2.2⟩,K4.out⟩
def dB (w0 w:World) (v:Value) (l:List ag):Prop:=
 ∃vs,vs.map (·.1)=l/\w.ownsRow w0 102 5 v vs.length (bw vs)/\(∀x∈vs,af w0 x.2 x.1.runs 0 w0.heap.size/\x.1.fits)/\NP [] w0 w
theorem dB.nil (w:World):dB w w () []:=⟨[],rfl,Nf _ _ _ _,fun x hx=>J!,NP.refl _ _⟩
theorem dB.val {w0:World} {v:Value} {l:List ag} (h:dB w0 w v l):bX w v l 0 w:=by
 obtain⟨vs,rfl,h3,h4,h5⟩:=h
 exact M22
theorem dB.snoc {w0 w6:World} {v6 kv:Value} {vs:List (ag×Value)} {r:ag} (hvr:∀x∈vs,af w0 x.2 x.1.runs 0 w0.heap.size/\x.1.fits) (hn:af w0 kv r.runs 0 w0.heap.size/\r.fits)
  (ho:w6.ownsRow w0 102 5 v6 (vs.length+1) (bw vs++[Value.int .i64 r.kind,Value.int .u32 r.id,Value.string (bs r.name),Value.int .i64 r.size,kv])) (k:NP [] w0 w6) {L:List ag} (hL:vs.map (·.1)=L):dB w0 w6 v6 (L++[r]):=by
 refine⟨vs++[(r,kv)],by rw[M0,hL];rfl,?_,?_,k⟩
 .rw[eF,tN,Nq];exact ho
 .intro x hx
  rcases Na.1 hx with hx|hx
  .exact hvr x hx
  .have:x=(r,kv):=_h
   subst this;exact hn
theorem M55 (h:A:=by
 have:=congrArg List.length hvs
 simp only[MP,tN,MO,List.length_nil]at this
 have:=OZ.out
 omega):A:=h
theorem M33 (h:A:=by
 have RA:=tK (HSN.out _ _ o6 Q7)
 obtain⟨p6,c6,rfl⟩:=ah o6
 clear o6 Po Q7 HSN
 go_wp2_with fail
 go_roundw
 case rel=>exact⟨j+1,Of.out,_G,RA.out⟩
 case measure=>(have hh:=Of.out;simp[intOf];omega)):A:=h
theorem xa (v:Value) (c:au) (w:World) (h:dJ w v c) (hlen:c.boxes.length+c.mans.length+c.names.length<=100000):
  am! 208 #[v] w (fm c w):=by
 have⟨i0,q0,q1,q2,q3⟩:=jB
 obtain⟨vb,vm,vn,rfl,hb,hm,hn,_⟩:=h
 obtain⟨W1,hW1⟩:∃W1,W1=w.alloc (.cells #[(c.nextBox,()),(c.nextMan,()),vb,vm,vn] 52):=⟨_,rfl⟩
 have k1:NP [] w W1:=_H
 have oA:ae W1 w #[(c.nextBox,()),(c.nextMan,()),vb,vm,vn] 52:=_U
 have H2:=tK (hb.kept0 k1)
 have H3:=tK (hm.kept0 k1)
 have H4:=tK (hn.kept0 k1)
 obtain⟨p2,c2,rfl⟩:=hb.shape
 obtain⟨p3,c3,rfl⟩:=hm.shape
 obtain⟨p4,c4,rfl⟩:=hn.shape
 have Ow:Hid (∀W,NP [] W1 W->W.cell? (aa w 2)=(p2,c.boxes.length,c2)/\W.cell? (aa w 3)=(p3,c.mans.length,c3)/\W.cell? (aa w 4)=(p4,c.names.length,c4)):=tK (fun W q=>by
  have⟨_,_,x2,x3,x4⟩:=(q.own oA _b).k5
  exact⟨x2,x3,x4⟩)
 have TK:Hid (w.heap.size<=W1.heap.size):=tK k1.size
 have VF:=tK k1
 have HC:Hid ((([]++c.boxes.map (·.told 1))++c.mans.map (·.told 2))++c.names.map (·.told 3)=Ov c):=tK (by unfold Ov;simp)
 have OZ:=tK hlen
 have g1:(c.boxes.length:Int)<=100000:=_a
 have g2:(c.mans.length:Int)<=100000:=_a
 have g3:(c.names.length:Int)<=100000:=_a
 clear hb hm hn hlen k1 oA
 unfold fm
 generalize Ov c=CR at*
 have⟨nb,nm,LB,LM,LN⟩:=c
 simp only at Ow H2 H3 H4 HC OZ g1 g2 g3 hW1 ⊢
 go_enter func208,ntmps208
 go_wp2_with fail
 rw[<-hW1]
 clear hW1
 have R0:Hid (dB W1 W1 () []):=tK (dB.nil W1)
 have wA:NP [] W1 W1:=NP.refl _ _
 go_loopw [3,4] (fun u i wr=>∃j:Nat,j<=LB.length/\i=(j:Int)/\dB W1 wr u (([]:List ag)++(LB.take j).map (·.told 1))) (fun _ i _=>LB.length-(intOf i).toNat)
 case atStart=>exact⟨0,Nb _,rfl,by simpa using R0.out⟩
 case round=>
  obtain⟨j,hj,rfl,hR⟩:=hrel
  rename World=>wr
  by_cases NV:j<LB.length
  .have i1:(j:Int)<LB.length:=_a
   obtain⟨b,off,kv,rfl,hia,hb,RU,hc2,SA⟩:=H2.out.ja j NV
   have PF:=lY (k:=1) NV
   have⟨vs,hvs,NU,hvr,hK⟩:=hR
   have⟨y0,y1,y2,y3⟩:=SA wr hK
   have⟨x2,x3,x4⟩:=Ow.out wr hK
   have Rt:=fun W=>sM 1 (LB[j]'NV) kv W hia.fz
   have SF:af W1 kv ((LB[j]'NV).told 1).runs 0 W1.heap.size/\((LB[j]'NV).told 1).fits:=⟨hia.1,NS.dw hia.2.1 _d⟩
   obtain⟨pk,nk,ck,rfl⟩:=hia.fz
   have Y7:vs.length<=100000:=by
    exact M55
   have HSN:Hid (∀w6 v6,w6.ownsRow W1 102 5 v6 (vs.length+1) (bw vs++[Value.int .i64 1,Value.int .u32 (LB[j]'NV).id,Value.string (bs (LB[j]'NV).name),Value.int .i64 (LB[j]'NV).size,.slice pk nk ck])->NP [] W1 w6->dB W1 w6 v6 (([]:List ag)++(LB.take (j+1)).map (·.told 1))):=tK (fun w6 v6 ho k=>by
    rw[PF,<-MW]
    exact dB.snoc hvr SF ho k hvs)
   have HT:=tK Rt
   unfold NS.told ag.cells NS.cells at HT
   have⟨UX,HK,Of⟩:=gg! NU hK NV
   obtain⟨pv,cv,rfl⟩:=ah NU
   have Zp:=tK Y7
   clear hvr SF hvs PF Rt hia SA hb NU hK Y7
   generalize hLA:LB[j]'NV=A at*
   clear hLA
   generalize hVN:vs.length=vn at*
   go_wp2_with fail
   refine(HT.out _).mono ?_;rintro e w3 ⟨rfl,k3⟩
   have Rn:=tK (ax UX.out k3 _b)
   have K3:=tK (HK.out.trans k3)
   have r3:vn+1<=maxLen:=b!
   have r4:(vn+1)*64<=140737488355328:=ag!
   clear k3
   go_wp2_with (at_builtin;go_must (refine MT _ rfl (.tmp 14) (.tmp 21) 92 rfl W1 102 i0 (.agg #[(0:Int),.int .u32 0,.string {data:=#[]},(0:Int),()]) 5 64 underlying92 q0 q1 q2 q3 rfl _d _ _ _ rfl (MH Rn.out _) w3 1 1 [.int .i64 1,.int .u32 A.id,.string (bs A.name),.int .i64 A.size,.slice pk nk ck] rfl rfl ?_ ?_ r3 r4 ?_ ?_))
   .exact World.news_of_block (Ns w3 _)
   .intro u hu;simp at hu;rcases hu with rfl|rfl|rfl|rfl|rfl<;>rfl
   .have:=K3.out.size;simp;omega
   intro v6 w6 o6 Po _ _
   have Q7:=(K3.out.alloc (.cells #[(1:Int),(A.id,()),A.name,A.size,(pk,nk,ck)] 102)).grown Po (fun q hq=>Or.inr (ML Rn.out q hq).1)
   exact M33
  .obtain rfl:j=LB.length:=_a
   rw[MU]at hR
   have R1:=tK hR
   have i1:¬(LB.length:Int)<LB.length:=_a
   have⟨vs,hvs,NU,hvr,hK⟩:=hR
   have K1:=tK hK
   have⟨x2,x3,x4⟩:=Ow.out wr hK
   obtain⟨pv,cv,rfl⟩:=ah NU
   generalize vs.length=vn at*
   clear hvs NU hvr hK NV hj
   go_wp2_with fail
   clear x2 x3 x4 i1
   go_loopw [3,5] (fun u i wr=>∃j:Nat,j<=LM.length/\i=(j:Int)/\dB W1 wr u ((([]:List ag)++LB.map (·.told 1))++(LM.take j).map (·.told 2))) (fun _ i _=>LM.length-(intOf i).toNat)
   case atStart=>exact⟨0,Nb _,rfl,by simpa using R1.out⟩
   case round=>
    obtain⟨j,hj,rfl,hR⟩:=hrel
    rename World=>wr
    by_cases NV:j<LM.length
    .have i1:(j:Int)<LM.length:=_a
     obtain⟨b,off,kv,rfl,hia,hb,RU,hc2,SA⟩:=H3.out.ja j NV
     have PF:=lY (k:=2) NV
     have⟨vs,hvs,NU,hvr,hK⟩:=hR
     have⟨y0,y1,y2,y3⟩:=SA wr hK
     have⟨x2,x3,x4⟩:=Ow.out wr hK
     have Rt:=fun W=>sM 2 (LM[j]'NV) kv W hia.fz
     have SF:af W1 kv ((LM[j]'NV).told 2).runs 0 W1.heap.size/\((LM[j]'NV).told 2).fits:=⟨hia.1,NS.dw hia.2.1 _d⟩
     obtain⟨pk,nk,ck,rfl⟩:=hia.fz
     have Y7:vs.length<=100000:=by
      exact M55
     have HSN:Hid (∀w6 v6,w6.ownsRow W1 102 5 v6 (vs.length+1) (bw vs++[Value.int .i64 2,Value.int .u32 (LM[j]'NV).id,Value.string (bs (LM[j]'NV).name),Value.int .i64 (LM[j]'NV).size,.slice pk nk ck])->NP [] W1 w6->dB W1 w6 v6 ((([]:List ag)++LB.map (·.told 1))++(LM.take (j+1)).map (·.told 2))):=tK (fun w6 v6 ho k=>by
      rw[PF,<-MW]
      exact dB.snoc hvr SF ho k hvs)
     have HT:=tK Rt
     unfold NS.told ag.cells NS.cells at HT
     have⟨UX,HK,Of⟩:=gg! NU hK NV
     obtain⟨pv,cv,rfl⟩:=ah NU
     have Zp:=tK Y7
     clear hvr SF hvs PF Rt hia SA hb NU hK Y7
     generalize hLA:LM[j]'NV=A at*
     clear hLA
     generalize hVN:vs.length=vn at*
     go_wp2_with fail
     refine(HT.out _).mono ?_;rintro e w3 ⟨rfl,k3⟩
     have Rn:=tK (ax UX.out k3 _b)
     have K3:=tK (HK.out.trans k3)
     have r3:vn+1<=maxLen:=b!
     have r4:(vn+1)*64<=140737488355328:=ag!
     clear k3
     go_wp2_with (at_builtin;go_must (refine MT _ rfl (.tmp 30) (.tmp 37) 92 rfl W1 102 i0 (.agg #[(0:Int),.int .u32 0,.string {data:=#[]},(0:Int),()]) 5 64 underlying92 q0 q1 q2 q3 rfl _d _ _ _ rfl (MH Rn.out _) w3 1 1 [.int .i64 2,.int .u32 A.id,.string (bs A.name),.int .i64 A.size,.slice pk nk ck] rfl rfl ?_ ?_ r3 r4 ?_ ?_))
     .exact World.news_of_block (Ns w3 _)
     .intro u hu;simp at hu;rcases hu with rfl|rfl|rfl|rfl|rfl<;>rfl
     .have:=K3.out.size;simp;omega
     intro v6 w6 o6 Po _ _
     have Q7:=(K3.out.alloc (.cells #[(2:Int),(A.id,()),A.name,A.size,(pk,nk,ck)] 102)).grown Po (fun q hq=>Or.inr (ML Rn.out q hq).1)
     exact M33
    .obtain rfl:j=LM.length:=_a
     rw[MU]at hR
     have R2:=tK hR
     have i1:¬(LM.length:Int)<LM.length:=_a
     have⟨vs,hvs,NU,hvr,hK⟩:=hR
     have K2:=tK hK
     have⟨x2,x3,x4⟩:=Ow.out wr hK
     obtain⟨pv,cv,rfl⟩:=ah NU
     generalize vs.length=vn at*
     clear hvs NU hvr hK NV hj
     go_wp2_with fail
     clear x2 x3 x4 i1
     go_loopw [3,6] (fun u i wr=>∃j:Nat,j<=LN.length/\i=(j:Int)/\dB W1 wr u (((([]:List ag)++LB.map (·.told 1))++LM.map (·.told 2))++(LN.take j).map (·.told 3))) (fun _ i _=>LN.length-(intOf i).toNat)
     case atStart=>exact⟨0,Nb _,rfl,by simpa using R2.out⟩
     case round=>
      obtain⟨j,hj,rfl,hR⟩:=hrel
      rename World=>wr
      by_cases NV:j<LN.length
      .have i1:(j:Int)<LN.length:=_a
       obtain⟨b,off,kv,rfl,hia,hb,RU,hc2,SA⟩:=H4.out.ja j NV
       have PF:=lY (k:=3) NV
       have⟨vs,hvs,NU,hvr,hK⟩:=hR
       have⟨y0,y1,y2,y3⟩:=SA wr hK
       have⟨x2,x3,x4⟩:=Ow.out wr hK
       have Rt:=fun W=>sM 3 (LN[j]'NV) kv W hia.fz
       have SF:af W1 kv ((LN[j]'NV).told 3).runs 0 W1.heap.size/\((LN[j]'NV).told 3).fits:=⟨hia.1,NS.dw hia.2.1 _d⟩
       obtain⟨pk,nk,ck,rfl⟩:=hia.fz
       have Y7:vs.length<=100000:=by
        exact M55
       have HSN:Hid (∀w6 v6,w6.ownsRow W1 102 5 v6 (vs.length+1) (bw vs++[Value.int .i64 3,Value.int .u32 (LN[j]'NV).id,Value.string (bs (LN[j]'NV).name),Value.int .i64 (LN[j]'NV).size,.slice pk nk ck])->NP [] W1 w6->dB W1 w6 v6 (((([]:List ag)++LB.map (·.told 1))++LM.map (·.told 2))++(LN.take (j+1)).map (·.told 3))):=tK (fun w6 v6 ho k=>by
        rw[PF,<-MW]
        exact dB.snoc hvr SF ho k hvs)
       have HT:=tK Rt
       unfold NS.told ag.cells NS.cells at HT
       have⟨UX,HK,Of⟩:=gg! NU hK NV
       obtain⟨pv,cv,rfl⟩:=ah NU
       have Zp:=tK Y7
       clear hvr SF hvs PF Rt hia SA hb NU hK Y7
       generalize hLA:LN[j]'NV=A at*
       clear hLA
       generalize hVN:vs.length=vn at*
       go_wp2_with fail
       refine(HT.out _).mono ?_;rintro e w3 ⟨rfl,k3⟩
       have Rn:=tK (ax UX.out k3 _b)
       have K3:=tK (HK.out.trans k3)
       have r3:vn+1<=maxLen:=b!
       have r4:(vn+1)*64<=140737488355328:=ag!
       clear k3
       go_wp2_with (at_builtin;go_must (refine MT _ rfl (.tmp 46) (.tmp 53) 92 rfl W1 102 i0 (.agg #[(0:Int),.int .u32 0,.string {data:=#[]},(0:Int),()]) 5 64 underlying92 q0 q1 q2 q3 rfl _d _ _ _ rfl (MH Rn.out _) w3 1 1 [.int .i64 3,.int .u32 A.id,.string (bs A.name),.int .i64 A.size,.slice pk nk ck] rfl rfl ?_ ?_ r3 r4 ?_ ?_))
       .exact World.news_of_block (Ns w3 _)
       .intro u hu;simp at hu;rcases hu with rfl|rfl|rfl|rfl|rfl<;>rfl
       .have:=K3.out.size;simp;omega
       intro v6 w6 o6 Po _ _
       have Q7:=(K3.out.alloc (.cells #[(3:Int),(A.id,()),A.name,A.size,(pk,nk,ck)] 102)).grown Po (fun q hq=>Or.inr (ML Rn.out q hq).1)
       exact M33
      .obtain rfl:j=LN.length:=_a
       rw[MU]at hR
       have R3:=tK hR
       have i1:¬(LN.length:Int)<LN.length:=_a
       have⟨vs,hvs,NU,hvr,hK⟩:=hR
       have K3:=tK hK
       have⟨x2,x3,x4⟩:=Ow.out wr hK
       obtain⟨pv,cv,rfl⟩:=ah NU
       generalize vs.length=vn at*
       clear hvs NU hvr hK NV hj
       go_wp2_with fail
       go_ret
       have hf:=R3.out
       rw[HC.out]at hf
       exact⟨_,rfl,hf.val,VF.out.trans K3.out⟩
