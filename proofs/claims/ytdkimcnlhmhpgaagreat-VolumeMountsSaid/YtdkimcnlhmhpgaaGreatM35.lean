/- -/
import Derived.Test.YtdkimcnlhmhpgaaGreatM31
import Derived.Test.YtdkimcnlhmhpgaaGreatM34
set_option maxHeartbeats 32000000
set_option maxRecDepth 100000
namespace Go.Proofs.YtdkimcnlhmhpgaaGreat
open Go.Proofs.Tryz Go.RowKit
variable {d:DK} {s:SB} {c0 c:au} {ls:List (List ag)} {w:World}
def fF (SX:Option au) (w:World) (e:Ending) (w':World):Prop:=
 ((∃c v,SX=some c/\av (fun x=>x<w.heap.size) w' v c/\e=.returned (.tuple #[v,(0:Int)]))\/(SX=none/\∃C:Int,(C==0)=false/\∃x0 x1 p2 n2 c2 p3 n3 c3 p4 n4 c4,e=.returned (.tuple #[.agg #[.int .u32 x0,.int .u32 x1,.slice p2 n2 c2,.slice p3 n3 c3,.slice p4 n4 c4],C])))/\NP [] w w'
theorem qF (h:PA d s=none):Pn d s=none:=by unfold Pn;rw[h];rfl
theorem yh (h:Oi d s.journal s.used≠0):Pn d s=none:=by
 unfold Pn
 cases PA d s with
 |none=>rfl
 |some c=>
  show(if Oi d s.journal s.used=0 then _ else none)=none
  rw[if_neg h]
theorem qE (h:O4 (Pq d s.journal s.used)=none):Pn d s=none:=by
 unfold Pn
 cases PA d s with
 |none=>rfl
 |some c=>
  show(if Oi d s.journal s.used=0 then _ else none)=none
  rw[h]
  split<;>rfl
open Classical in
theorem uA (h1:PA d s=some c0) (h2:Oi d s.journal s.used=0) (h3:O4 (Pq d s.journal s.used)=some ls):
  (bM c0 ls=none->Pn d s=none)/\∀c,bM c0 ls=some c->(PB s.sectors s.journal (OK c++s.runs)->Pn d s=some c)/\(¬PB s.sectors s.journal (OK c++s.runs)->Pn d s=none):=by
 have e:∀o,bM c0 ls=o->Pn d s=o.bind fun c'=>if PB s.sectors s.journal (OK c'++s.runs)then some c' else none:=fun o ho=>by
  unfold Pn
  rw[h1]
  show(if Oi d s.journal s.used=0 then _ else none)=_
  rw[if_pos h2,h3]
  show(bM c0 ls).bind _=_
  rw[ho]
 refine⟨fun h=>by rw[e _ h];rfl,fun c h=>⟨fun hl=>?_,fun hl=>?_⟩⟩
 .rw[e _ h]
  show(if PB s.sectors s.journal (OK c++s.runs)then some c else none)=_
  rw[if_pos hl]
 .rw[e _ h]
  show(if PB s.sectors s.journal (OK c++s.runs)then some c else none)=_
  rw[if_neg hl]
theorem xx (d:DK) (j u:Int):Oi d j u=0\/Oi d j u=1\/Oi d j u=90:=by
 unfold Oi
 split
 .exact Or.inr (Or.inl rfl)
 .split
  .exact Or.inr (Or.inr rfl)
  .exact Or.inl rfl
structure Gm (S:Nat->Prop) (w:World) (n4 n6:Nat) (c0:au) (ls:List (List ag)) (k:Nat) (C:Int) (c:au) (wr:World) (vb vm vn:Value):Prop where
 own:ae wr n6 #[(c.nextBox,()),(c.nextMan,()),vb,vm,vn] 52
 res:ae wr n4 #[.int .u32 0,.int .u32 0,(),(),()] 52
 cat:av S wr (.agg #[(c.nextBox,()),(c.nextMan,()),vb,vm,vn]) c
 code:(C=0/\bM c0 (ls.take k)=some c/\OL c/\jn c/\cQ c<=cQ c0+(ls.take k).flatten.length)\/(C≠0/\bM c0 (ls.take k)=none)
 kept:NP [] w wr
theorem yr (c:au) (ls:List (List ag)) (k:Nat) (h:bM c (ls.take k)=none):bM c ls=none:=by
 conv=>lhs;rw[<-List.take_append_drop k ls]
 rw[iL,h];rfl
theorem qI {k:Nat} (hk:k<ls.length) (h:bM c0 (ls.take k)=some c):bM c0 (ls.take (k+1))=if(N8 c ls[k]).2=0 then some (N8 c ls[k]).1 else none:=by
 rw[MI hk,iL,h]
 show(if(N8 c ls[k]).2=0 then bM (N8 c ls[k]).1 []else none)=_
 rfl
theorem zV (h:OL c) (hf:il c):∀a∈OK c,0<=a.1/\a.1<=65536/\0<=a.2/\a.2<=65536:=by
 intro a ha
 unfold OK at ha
 have⟨l,hl,hal⟩:=List.mem_flatten.1 ha
 obtain⟨r,hr,rfl⟩:=ND.1 hl
 obtain⟨k,hk,rfl⟩:=Nr.1 hal
 have:=(jU (jD h r hr) (hf.2.2 r hr)).rf.2 k hk
 omega
theorem Cd (h:s.may):∀a∈s.runs,0<=a.1/\a.1<=65536/\0<=a.2/\a.2<=65536:=by
 intro a ha
 obtain⟨k,hk,rfl⟩:=Nr.1 ha
 have h1:=fJ (MG _) h.2.1 k hk
 have h2:=dN.1 h1
 have h3:=h.1
 unfold SB.dD at h3
 omega
theorem rj {k:Nat} (h:bM c0 (ls.take k)=none):bM c0 (ls.take (k+1))=none:=by
 by_cases hk:k<ls.length
 .rw[MI hk,iL,h];rfl
 .rw[Nh _a]at h ⊢
  exact h
theorem km (w:World) (B:Nat) (a1 a2 a3 a4 a5:Value):w.setCells B 0 (#[a1,a2,a3,a4,a5]:Array Value).toList=(((((w.setCell B a1).setCell (aa B 1) a2).setCell (aa B 2) a3).setCell (aa B 3) a4).setCell (aa B 4) a5):=rfl
theorem av.sr {S:Nat->Prop} {x y vb vm vn:Value} (h:av S w (.agg #[x,y,vb,vm,vn]) c):(∃p n d,vb=.slice p n d)/\(∃p n d,vm=.slice p n d)/\∃p n d,vn=.slice p n d:=by
 obtain⟨a,b,d,e,h1,h2,h3,_⟩:=h
 injection e with e
 simp only[Array.mk.injEq,List.cons.injEq,and_true]at e
 obtain⟨_,_,rfl,rfl,rfl⟩:=e
 obtain⟨p1,c1,rfl⟩:=h1.plain.shape
 obtain⟨p2,c2,rfl⟩:=h2.plain.shape
 obtain⟨p3,c3,rfl⟩:=h3.plain.shape
 exact⟨⟨_,_,_,rfl⟩,⟨_,_,_,rfl⟩,⟨_,_,_,rfl⟩⟩
theorem cD.len {w0:World} {v:Value} {l:List (List ag)} (h:cD w0 w v l):l.length<=maxLen:=by
 obtain⟨vs,h1,h2,h3⟩:=h
 rcases h2.2 with⟨_,h4⟩|⟨g,cap,cur,_,_,_,h5,h6,_⟩
 .have:l.length=0:=by first|exact h4|omega
  omega
 .first|omega|(unfold maxLen at*;omega)
theorem adw {A:Prop}(h:A:=by
 have h1:=Xo.out.2.2
 have h2:=TC.out.2
 have h3:=HF.out
 have h4:=HN.out
 omega):A:=h
theorem I7 {b sb mb lo:Nat} (hD:DA w b sb mb lo d) (hn:d.stand.length<=96) (s:SB) (v:Value) (PU PC:Nat) (hr:af w v s.runs PU PC) (hm:s.may):
  am! 64 #[.pointer (some ⟨b,0,none⟩),.agg (s.cells v)] w (fF (Pn d s) w):=by
 have T7:=qg hm
 have U4:=hm.1
 unfold SB.dD at U4
 have VW:Hid (∀W,NP [] w W->am! 122 #[b,.agg (s.cells v)] W (mm d s W)):=tK (fun W k=>Ja (hD.aJ k) _a s v PU PC (hr.kept0 k) hm)
 unfold mm at VW
 have Xb:Hid (∀W,NP [] w W->am! 123 #[b,s.journal,s.used] W fun e w'=>e=.returned (.tuple #[.string (bs (Pq d s.journal s.used)),(Oi d s.journal s.used:Int)])/\W=w'):=tK (fun W k=>JU s.journal s.used (hD.aJ k) (mn _a _a) (mn _a _a))
 have SN:=me hD.fit s.journal s.used
 have Vb:Hid (∀W,am! 124 #[.string (bs (Pq d s.journal s.used))] W (lP (Pq d s.journal s.used) W)):=tK (fun W=>GI _ W _a)
 unfold lP at Vb
 have Ub:=tK (qF (d:=d) (s:=s))
 have HX2:=tK (yh (d:=d) (s:=s))
 have Xc:=tK (qE (d:=d) (s:=s))
 have HX4:=tK (fun c0 ls=>uA (d:=d) (s:=s) (c0:=c0) (ls:=ls))
 have Yc:=tK (xx d s.journal s.used)
 have HBA:=tK (fun c h=>rY hD.fit (s:=s) (c:=c) h)
 have HRN:Hid (∀W,NP [] w W->af W v s.runs PU PC):=tK (fun W k=>hr.kept0 k)
 have VI:=tK T7
 have Q1:Hid (s.sectors<=8192/\s.journal<=8192/\1<=s.journal/\4<=s.sectors/\s.runs.length<=16):=tK _a
 have HN:Hid (d.stand.length<=96):=tK hn
 have We:=tK (Cd hm)
 obtain⟨pr,cr,rfl⟩:=hr.shape
 generalize Pn d s=SX at*
 generalize PA d s=BX at*
 have HF:Hid ((Pq d s.journal s.used).length<=128*d.stand.length):=tK SN
 obtain⟨sq,se,jr,us,sz,rs⟩:=s
 simp only at*
 generalize Pq d jr us=X at*
 generalize Oi d jr us=G at*
 have⟨o0,o1⟩:=ch w #[.int .u64 sq,se,jr,us,sz,(pr,rs.length,cr)] #[.int .u32 0,.int .u32 0,(),(),()] 58 52
 have OP:=((NP.refl [] w).alloc (.cells #[.int .u64 sq,se,jr,us,sz,(pr,rs.length,cr)] 58)).alloc (.cells #[.int .u32 0,.int .u32 0,(),(),()] 52)
 have ab9:((w.alloc (.cells #[.int .u64 sq,se,jr,us,sz,(pr,rs.length,cr)] 58)).alloc (.cells #[.int .u32 0,.int .u32 0,(),(),()] 52)).heap.size=w.heap.size+2:=_b
 have acL:=tK ab9
 clear T7 U4 hr SN hD hn hm ab9
 simp only[SB.cells]at VW ⊢
 go_enter func64,ntmps64
 have⟨x0,x1,x2,x3,x4,x5⟩:=o0.c6
 have⟨O0,O1,K1⟩:=gg! o0 o1 OP
 clear o0 o1 OP
 go_wp2_with fail
 refine(VW.out _ K1.out).mono ?_;rintro e w2 ⟨Rz,k2⟩
 have O02:=tK (k2.own O0.out _b)
 have Us:=tK (k2.own O1.out _b)
 have K2:=tK (K1.out.trans k2)
 have Ye:Hid (w.heap.size+2<=w2.heap.size):=tK (by have:=k2.size;rw[acL.out]at this;exact this)
 clear k2 x0 x1 x2 x3 x4 x5
 rcases Rz with⟨c0,v0,hbx,Oz,rfl⟩|⟨hbx,C,hC,rfl⟩
 .obtain⟨vb,vm,vn,rfl,hb,TF,QT,SU,TS⟩:=id Oz
  obtain⟨p1,c1,rfl⟩:=hb.plain.shape
  obtain⟨p2,c2,rfl⟩:=TF.plain.shape
  obtain⟨p3,c3,rfl⟩:=QT.plain.shape
  have aaD:av (fun x=>x<w.heap.size+2) w2 (.agg #[(c0.nextBox,()),(c0.nextMan,()),(p1,c0.boxes.length,c1),(p2,c0.mans.length,c2),(p3,c0.names.length,c3)]) c0:=Oz.cI (fun x hx=>by rw[acL.out];exact hx)
  have aaJ:=(aaD.more (T:=fun x=>x=w2.heap.size) (fun x hx=>by rw[hx];exact MG _))
  have⟨HC,SP⟩:=_f aaJ hbx
  have Xo:=tK (HBA.out c0 hbx)
  clear Oz hb TF QT SU TS aaD aaJ hbx
  have o6:=ae.new w2 #[(c0.nextBox,()),(c0.nextMan,()),(p1,c0.boxes.length,c1),(p2,c0.mans.length,c2),(p3,c0.names.length,c3)] 52
  have k6:=(NP.refl [] w2).alloc (.cells #[(c0.nextBox,()),(c0.nextMan,()),(p1,c0.boxes.length,c1),(p2,c0.mans.length,c2),(p3,c0.names.length,c3)] 52)
  have⟨z0,z1,z2,z3,z4⟩:=o6.k5
  have⟨O6,K6⟩:=_f o6 k6
  have O0X:=tK (k6.own O02.out _b)
  have⟨x0,x1,x2,x3,x4,x5⟩:=O0X.out.c6
  clear o6 k6
  go_wp2_with fail
  have K3:=tK (K2.out.trans K6.out)
  have Uu:=tK (K6.out.own Us.out _b)
  have HC3:=tK (HC.out.kept0 K6.out)
  have RS:Hid (w.heap.size+2<=w2.heap.size/\w2.heap.size<(w2.alloc (.cells #[(c0.nextBox,()),(c0.nextMan,()),(p1,c0.boxes.length,c1),(p2,c0.mans.length,c2),(p3,c0.names.length,c3)] 52)).heap.size):=tK ⟨Ye.out,_b⟩
  generalize (w2.alloc (.cells #[(c0.nextBox,()),(c0.nextMan,()),(p1,c0.boxes.length,c1),(p2,c0.mans.length,c2),(p3,c0.names.length,c3)] 52))=w3 at*
  generalize hn6:w2.heap.size=n6 at*
  clear hn6 O02 Us K2 Ye HC K6
  refine(Xb.out _ K3.out).mono ?_;rintro e XU ⟨rfl,rfl⟩
  by_cases hg:G=0
  .have hgg:(G==0)=true:=by rw[hg];rfl
   have YZ:=fun ls P0=>HX4.out c0 ls SP.out hg P0
   have HX5:=tK YZ
   clear YZ hg
   go_wp2_with fail
   refine(Vb.out _).mono ?_;rintro e w4 ⟨Rz,k4⟩
   have K4:=tK (K3.out.trans k4)
   have O64:=tK (k4.own O6.out _b)
   have O04:=tK (k4.own O0X.out _b)
   have OR4:=tK (k4.own Uu.out _b)
   have HC4:=tK (HC3.out.kept0 k4)
   have Xw:Hid (w.heap.size+2<=n6/\n6<w3.heap.size/\w3.heap.size<=w4.heap.size):=tK ⟨RS.out.1,RS.out.2,k4.size⟩
   clear k4 z0 z1 z2 z3 z4 x0 x1 x2 x3 x4 x5
   rcases Rz with⟨ls,v9,P0,Tt,rfl⟩|⟨P0,rfl⟩
   .have VU:=tK Tt
    obtain⟨p9,c9,rfl⟩:=Tt.shape
    have HX6:=tK (HX5.out ls P0)
    have TC:=tK (pN P0)
    have RZ:=tK (fun l hl=>(kO P0 l hl).1)
    have aeo:(ls.length:Int)<=9223372036854775807:=by
     have:=VU.out.len
     unfold maxLen at this
     omega
    clear Tt P0
    go_wp2_with fail
    go_loopw [42,7] (fun i cv wr=>∃(k:Nat) (C:Int) (c:au) (vb vm vn:Value),k<=ls.length/\i=.int .i64 (k:Nat)/\cv=.int .i64 C/\NP [n6] w4 wr/\Gm (fun x=>x<w.heap.size+2\/x=n6) w (w.heap.size+1) n6 c0 ls k C c wr vb vm vn) (fun i _ _=>ls.length-(intOf i).toNat)
    case atStart=>exact⟨0,0,c0,_,_,_,Nb _,rfl,rfl,NP.refl _ _,⟨O64.out,OR4.out,HC4.out,Or.inl ⟨rfl,rfl,Xo.out.1,Xo.out.2.1,_b⟩,K4.out⟩⟩
    case round=>
     obtain⟨k,C,c,vb,vm,vn,hk,rfl,rfl,Q7,hA⟩:=hrel
     have⟨HA,Tl⟩:=_f hA Q7
     obtain⟨⟨pb,nb,cb,rfl⟩,⟨pm,nm,cm,rfl⟩,⟨pn,nn,cn,rfl⟩⟩:=av.sr hA.cat
     clear hA Q7
     by_cases NV:k<ls.length
     .have i1:(k:Int)<ls.length:=_a
      have Of:=tK NV
      have⟨bt,off,kv,ct,hpe,Rm⟩:=VU.out.at_ k NV
      injection hpe with hpe Rq hpc
      subst hpe
      subst hpc
      clear Rq
      have⟨Ou,Q8⟩:=Rm wr [n6] Tl.out (fun x hx=>by
       obtain rfl:x=n6:=_h
       exact Or.inl Xw.out.2.1)
      have Ug:=pO NV
      have Qy:=RZ.out _ (MJ NV)
      have Ri:=TC.out.1 _ (MJ NV)
      have Ox:=fun c hrp=>qI (c0:=c0) (c:=c) NV hrp
      obtain⟨pk,ck,rfl⟩:=Q8.shape
      have QC:=tK Q8.oI
      clear Rm Q8
      generalize XD:ls[k]'NV=lk at*
      clear XD NV
      rcases HA.out.code with⟨rfl,hrp,Pz,hfi,Q2⟩|⟨hC,hrp⟩
      .have HM:=tK Pz
       have⟨HFI,Wo⟩:=_f hfi Q2
       have Sb:=tK (Ox c hrp)
       have ZL:=tK Ug
       have⟨z0,z1,z2,z3,z4⟩:=HA.out.own.k5
       have Qf:=sf (S0:=fun x=>x<w.heap.size+2\/x=n6) _ c (pk,lk.length,ck) lk _ _ wr HA.out.cat (fun x hx=>by
        have h1:=Xw.out
        have h2:=Tl.out.size
        rcases hx with hx|hx<;>omega) Pz.small QC.out (fun r hr=>sV (Qy r hr) (Ri r hr)) (fun r hr=>by have:=jz (Qy r hr);omega)
       unfold dC at Qf
       have P8:=tK (kE [lk] (c:=c) (c':=(N8 c lk).1) Pz hfi (fun l hl r hr=>by
        obtain rfl:l=lk:=ae!
        exact Ri r hr))
       have SG:=tK Qf
       clear Qf Ug Qy Ri Ox hrp Pz hfi Q2 hk QC
       have Z2:∀C1,(N8 c lk).2=C1->C1=0->bM c [lk]=some (N8 c lk).1:=fun C1 h1 h2=>by
        show(if(N8 c lk).2=0 then some (N8 c lk).1 else none)=_
        rw[if_pos (h1.trans h2)]
       have aa6:=tK Z2
       clear Z2
       generalize N8 c lk=AP at*
       obtain⟨c5,C5⟩:=AP
       simp only at*
       go_wp2_with fail
       refine SG.out.mono ?_;rintro e w5 ⟨v5,rfl,hcat5,k5⟩
       obtain⟨vb5,vm5,vn5,rfl,XP,ZS,hn5,_,_⟩:=id hcat5
       obtain⟨VQ,c15,rfl⟩:=XP.plain.shape
       obtain⟨VN,c25,rfl⟩:=ZS.plain.shape
       obtain⟨VR,c35,rfl⟩:=hn5.plain.shape
       have VO:=tK hcat5
       have O5:=tK (k5.own HA.out.own _b)
       have OR5:=tK (k5.own HA.out.res _b)
       have K5:=tK (HA.out.kept.trans k5)
       have KN5:=tK (Tl.out.trans (k5.mono (T:=[n6]) _b))
       have⟨y0,y1,y2,y3,y4⟩:=O5.out.k5
       have⟨g0,g1,g2,g3,g4⟩:=O5.out.y5
       have Zo:Hid ((C5=0/\bM c0 (ls.take (k+1))=some c5/\OL c5/\jn c5/\cQ c5<=cQ c0+(ls.take (k+1)).flatten.length)\/(C5≠0/\bM c0 (ls.take (k+1))=none)):=tK (by
        have hs:=Sb.out
        by_cases h0:C5=0
        .rw[if_pos h0]at hs
         have⟨a1,a2,a3⟩:=P8.out (aa6.out C5 rfl h0)
         refine Or.inl ⟨h0,hs,a1,a2,?_⟩
         have:=Wo.out
         rw[ZL.out,tN]
         simp at a3
         omega
        .rw[if_neg h0]at hs
         exact Or.inr ⟨h0,hs⟩)
       clear hcat5 XP ZS hn5 k5 z0 z1 z2 z3 z4 Ou
       go_wp2_with fail
       go_roundw
       case rel=>
        refine⟨k+1,C5,c5,_,_,_,Of.out,_j,rfl,NP.ay KN5.out (Or.inl _b) _ _ _ _ _,⟨O5.out.aV _ _ _ _ _,?_,?_,Zo.out,NP.ay K5.out (Or.inr (by have:=Xw.out;omega)) _ _ _ _ _⟩⟩
        .exact(NP.ay (NP.refl [n6] _) (Or.inl _b) _ _ _ _ _).own OR5.out (by have:=Xw.out;simp;omega)
        .exact av.aS VO.out (NP.ay (NP.refl [n6] _) (Or.inl _b) _ _ _ _ _) (fun x hx=>by
          obtain rfl:x=n6:=_h
          exact Or.inr rfl)
       case measure=>(have hh:=Of.out;simp[intOf]<;>omega)
      .have hC0:(C==0)=false:=by simpa using hC
       have aeu:=tK (rj hrp)
       have HCC:=tK hC
       clear Ug Qy Ri Ox hrp hC hk QC
       go_wp2_with fail
       go_roundw
       case rel=>exact⟨k+1,C,c,_,_,_,Of.out,_j,rfl,Tl.out,⟨HA.out.own,HA.out.res,HA.out.cat,Or.inr ⟨HCC.out,aeu.out⟩,HA.out.kept⟩⟩
       case measure=>(have hh:=Of.out;simp[intOf]<;>omega)
     .have i1:¬(k:Int)<ls.length:=_a
      have QY:ls.take k=ls:=Nh _a
      have aaq:=HA.out.code
      rw[QY]at aaq
      have KK:=tK HA.out.kept
      clear QY NV hk
      rcases aaq with⟨rfl,hrp,Pz,hfi,Q2⟩|⟨hC,hrp⟩
      .have UF:=rQ.2 hfi
       have TW:=zV Pz UF
       have RD:cQ c<=5000:=by
        exact adw
       have P3:=l7 Pz
       have ack:Hid (∀W,NP [] wr W->am! 125 #[.agg #[(c.nextBox,()),(c.nextMan,()),(pb,nb,cb),(pm,nm,cm),(pn,nn,cn)],se,jr,(pr,rs.length,cr)] W (lS (PB se jr (OK c++rs)) W)):=tK (fun W q=>Ko _ c se jr _ rs PU PC W (HA.out.cat.plain.kept0 q) (by unfold cQ at RD;exact RD) (by unfold cQ at RD;omega) (HRN.out W (KK.out.trans q)) (by have:=Q1.out;omega) (fun a ha=>by
        rcases Na.1 ha with ha|ha
        .have:=TW a ha;unfold aQ;omega
        .exact VI.out a ha) (by have:=Q1.out;omega) (by have:=Q1.out;omega) (fun a ha=>by
        have h5:=Q1.out
        rcases Na.1 ha with ha|ha
        .have:=TW a ha;omega
        .have:=We.out a ha;omega))
       unfold lS at ack
       have HX7:=tK ((HX6.out).2 c hrp)
       have OS:=tK (Tl.out.own O04.out (by have:=Xw.out;simp;omega))
       clear UF TW RD P3 hrp Pz hfi Q2
       generalize PB se jr (OK c++rs)=LQ at*
       have Ow:Hid (∀W,NP [w.heap.size+1] wr W->W.cell? n6=(c.nextBox,())/\W.cell? (aa n6 1)=(c.nextMan,())/\W.cell? (aa n6 2)=(pb,nb,cb)/\W.cell? (aa n6 3)=(pm,nm,cm)/\W.cell? (aa n6 4)=(pn,nn,cn)/\W.cell? (aa w 1)=se/\W.cell? (aa w 2)=jr/\W.cell? (aa w 5)=(pr,rs.length,cr)):=tK (fun W k=>by
        have PW:=Xw.out
        have⟨a0,a1,a2,a3,a4⟩:=(k.own HA.out.own _e).k5
        have⟨b0,b1,b2,b3,b4,b5⟩:=(k.own OS.out _b).c6
        exact⟨a0,a1,a2,a3,a4,b1,b2,b5⟩)
       go_upto_region 16 with fail
       refine MK (S:=(fun W=>W.cell? n6=(c.nextBox,())/\W.cell? (aa n6 1)=(c.nextMan,())/\W.cell? (aa n6 2)=(pb,nb,cb)/\W.cell? (aa n6 3)=(pm,nm,cm)/\W.cell? (aa n6 4)=(pn,nn,cn)/\W.cell? (aa w 1)=se/\W.cell? (aa w 2)=jr/\W.cell? (aa w 5)=(pr,rs.length,cr))) _c (by exact Ow.out _ ((NP.refl [w.heap.size+1] wr).drew)) (fun hHeld=>?_)
       refine tS ?_
       refine rD 8 (fun K hK=>?_)
       go_simp
       ((with_reducible refine(ack.out _ ((NP.refl [] wr).drew)).mono ?_));rintro e w6 ⟨C6,rfl,hC6,k6⟩
       have Xs:=((NP.refl [] wr).drew).trans k6
       have⟨K6,HC6⟩:=_f Xs hC6
       have OR6:=tK (Xs.own HA.out.res _b)
       clear k6 Xs hC6
       go_wp2_with fail
       refine hK.out _ _ (Ow.out _ (K6.out.mono _b)) (fun hHeld=>nM ?_)
       clear hK K
       refine rD 9 (fun K hK=>?_)
       refine dz rfl 52 _ _ rfl (w.heap.size+1) 0 #[(c.nextBox,()),(c.nextMan,()),(pb,nb,cb),(pm,nm,cm),(pn,nn,cn)] _g _g (OR6.out.drew.there 0 5 _b) _c (NL (cs:=[.int .u32 c.nextBox,.int .u32 c.nextMan,.slice pb nb cb,.slice pm nm cm,.slice pn nn cn]) _l) ?_
       rw[km]
       have o9:=OR6.out.aV (c.nextBox,()) (c.nextMan,()) (pb,nb,cb) (pm,nm,cm) (pn,nn,cn)
       have k9:NP [w.heap.size+1] w6 (((((w6.setCell (aa (w+1) 0) (c.nextBox,())).setCell (aa (w+1) 1) (c.nextMan,())).setCell (aa (w+1) 2) (pb,nb,cb)).setCell (aa (w+1) 3) (pm,nm,cm)).setCell (aa (w+1) 4) (pn,nn,cn)):=NP.ay (NP.refl _ _) (Or.inl _b) _ _ _ _ _
       generalize (((((w6.setCell (aa (w+1) 0) (c.nextBox,())).setCell (aa (w+1) 1) (c.nextMan,())).setCell (aa (w+1) 2) (pb,nb,cb)).setCell (aa (w+1) 3) (pm,nm,cm)).setCell (aa (w+1) 4) (pn,nn,cn))=w9 at*
       have⟨O9,K9⟩:=_f o9 k9
       clear o9 k9
       refine hK.out _ _ (Ow.out _ ((K6.out.mono _b).trans K9.out)) (fun hHeld=>nM ?_)
       clear hK K
       refine tS ?_
       refine Ng _c ?_ _
       try simp only[List.set_cons_succ,List.set_cons_zero]
       have HKF:Hid (NP [] w w9):=tK ((KK.out.trans K6.out).call K9.out (fun x hx=>by
        obtain rfl:x=w.heap.size+1:=_h
        exact Or.inr _a))
       have HCF:Hid (av (fun x=>x<w.heap.size) w9 (.agg #[(c.nextBox,()),(c.nextMan,()),(pb,nb,cb),(pm,nm,cm),(pn,nn,cn)]) c):=tK ((av.aS (HA.out.cat.kept0 K6.out) K9.out (fun x hx=>by
        obtain rfl:x=w.heap.size+1:=_h
        exact Or.inl _a)).cI (fun x hx=>Or.inl _a))
       rcases HC6.out with⟨rfl,hq⟩|⟨rfl,hq⟩
       .have HQ:=tK (HX7.out.1 hq)
        clear hq
        go_wp2_with fail
        refine MN (v:=.tuple #[.agg #[(c.nextBox,()),(c.nextMan,()),(pb,nb,cb),(pm,nm,cm),(pn,nn,cn)],(0:Int)]) (aj results64 rfl rfl (t:=52) ?_ underlying52 rfl _c) rfl ?_
        .exact O9.out
        .unfold fF;exact⟨Or.inl ⟨c,_,HQ.out,HCF.out,rfl⟩,HKF.out⟩
       .have HQ:=tK (HX7.out.2 hq)
        clear hq
        go_wp2_with fail
        refine MN (v:=.tuple #[.agg #[(c.nextBox,()),(c.nextMan,()),(pb,nb,cb),(pm,nm,cm),(pn,nn,cn)],(110:Int)]) (aj results64 rfl rfl (t:=52) ?_ underlying52 rfl _c) rfl ?_
        .exact O9.out
        .unfold fF;exact⟨Or.inr ⟨HQ.out,110,_d,_,_,_,_,_,_,_,_,_,_,_,rfl⟩,HKF.out⟩
      .have hC0:(C==0)=false:=by simpa using hC
       have Pk:=tK (HX6.out.1 hrp)
       have HCC:=tK hC0
       have⟨z0,z1,z2,z3,z4⟩:=HA.out.own.k5
       have⟨y0,y1,y2,y3,y4⟩:=HA.out.res.k5
       have⟨g0,g1,g2,g3,g4⟩:=HA.out.res.y5
       clear hrp hC
       go_wp2_with fail
       refine MN (v:=.tuple #[.agg #[(c.nextBox,()),(c.nextMan,()),(pb,nb,cb),(pm,nm,cm),(pn,nn,cn)],C]) (aj results64 rfl rfl (t:=52) ?_ underlying52 rfl _c) rfl ?_
       .exact HA.out.res.aV _ _ _ _ _
       .unfold fF;exact⟨Or.inr ⟨Pk.out,C,(by first|exact HCC.out|simpa using HCC.out),_,_,_,_,_,_,_,_,_,_,_,rfl⟩,NP.ay KK.out (Or.inr _a) _ _ _ _ _⟩
   .have Pk:=tK (Xc.out P0)
    have⟨z0,z1,z2,z3,z4⟩:=O64.out.k5
    have⟨y0,y1,y2,y3,y4⟩:=OR4.out.k5
    have⟨g0,g1,g2,g3,g4⟩:=OR4.out.y5
    clear P0
    go_wp2_with fail
    refine wp_loop_rounds 1 ?_
    rw[rounds_succ]
    go_wp2_with fail
    refine MN (v:=.tuple #[.agg #[(c0.nextBox,()),(c0.nextMan,()),(p1,c0.boxes.length,c1),(p2,c0.mans.length,c2),(p3,c0.names.length,c3)],(110:Int)]) (aj results64 rfl rfl (t:=52) ?_ underlying52 rfl _c) rfl ?_
    .exact OR4.out.aV _ _ _ _ _
    .unfold fF;exact⟨Or.inr ⟨Pk.out,110,_d,_,_,_,_,_,_,_,_,_,_,_,rfl⟩,NP.ay K4.out (Or.inr _a) _ _ _ _ _⟩
  .have hg0:(G==0)=false:=by simpa using hg
   have Pk:=tK (HX2.out hg)
   have HGG:=tK hg0
   have⟨y0,y1,y2,y3,y4⟩:=Uu.out.k5
   have⟨g0,g1,g2,g3,g4⟩:=Uu.out.y5
   clear hg
   go_wp2_with fail
   refine MN (v:=.tuple #[.agg #[(c0.nextBox,()),(c0.nextMan,()),(p1,c0.boxes.length,c1),(p2,c0.mans.length,c2),(p3,c0.names.length,c3)],G]) (aj results64 rfl rfl (t:=52) ?_ underlying52 rfl _c) rfl ?_
   .exact Uu.out.aV _ _ _ _ _
   .unfold fF;exact⟨Or.inr ⟨Pk.out,G,(by first|exact HGG.out|simpa using HGG.out),_,_,_,_,_,_,_,_,_,_,_,rfl⟩,NP.ay K3.out (Or.inr _a) _ _ _ _ _⟩
 .have Pk:=tK (Ub.out hbx)
  have HCC:=tK hC
  have Q7:=(NP.refl [] w2).alloc (.cells #[.int .u32 0,.int .u32 0,(),(),()] 52)
  have o6:=ae.new w2 #[.int .u32 0,.int .u32 0,(),(),()] 52
  have Uu:=tK (Q7.own Us.out _b)
  have K3:=tK (K2.out.trans Q7)
  have⟨z0,z1,z2,z3,z4⟩:=o6.k5
  have⟨y0,y1,y2,y3,y4⟩:=Uu.out.k5
  have⟨g0,g1,g2,g3,g4⟩:=Uu.out.y5
  clear o6 Q7 hbx
  go_wp2_with fail
  refine MN (v:=.tuple #[.agg #[.int .u32 0,.int .u32 0,(),(),()],C]) (aj results64 rfl rfl (t:=52) ?_ underlying52 rfl _c) rfl ?_
  .exact Uu.out.aV _ _ _ _ _
  .unfold fF;exact⟨Or.inr ⟨Pk.out,C,(by first|exact HCC.out|simpa using HCC.out),_,_,_,_,_,_,_,_,_,_,_,rfl⟩,NP.ay K3.out (Or.inr _a) _ _ _ _ _⟩
theorem adu {A:Prop}(h:A:=by
 unfold N6 Ol le
 rw[if_neg _b,if_neg _a,if_neg _e,List.drop_drop];rfl):A:=h
theorem Jr (b k:Nat) (l:List UInt8) (w:World) (hR:aP w b (l.drop k) 0) (h:k+8<=l.length):
  am! 190 #[b] w fun e w'=>e=.returned (.int .u64 (le l k 8))/\aP w' b (l.drop (k+8)) 0/\NP [b] w w':=by
 have hu:=KO b (l.drop k) 0 w hR
 have e:N6 8 (l.drop k) 0=(le l k 8,l.drop (k+8),0):=by
  exact adu
 rw[e]at hu
 exact hu
theorem JK (b k:Nat) (l:List UInt8) (w:World) (hR:aP w b (l.drop k) 0) (h:k+4<=l.length):
  am! 191 #[.agg #[b]] w fun e w'=>e=(le l k 4:Int)/\aP w' b (l.drop (k+4)) 0/\NP [b] w w':=by
 have hu:=Lf b (l.drop k) w hR _z
 rw[List.drop_drop]at hu
 exact hu
theorem sQ (b k:Nat) (l:List UInt8) (w:World) (hR:aP w b (l.drop k) 0) (h:k+2<=l.length):
  am! 192 #[.agg #[b]] w fun e w'=>e=(le l k 2:Int)/\aP w' b (l.drop (k+2)) 0/\NP [b] w w':=by
 have hu:=Lj b (l.drop k) w hR _z
 rw[List.drop_drop]at hu
 exact hu
theorem CB (b:Nat) (l:List UInt8) (w:World) (hR:aP w b l 0) (h:8<=l.length):
  am! 189 #[b,(8:Int)] w fun e w'=>e=.returned (.string (bs (l.take 8)))/\aP w' b (l.drop 8) 0/\NP [b] w w':=by
 have hu:=ny b l 0 8 w hR
 have e:Ol 8 l 0=(l.take 8,l.drop 8,0):=by
  unfold Ol
  rw[if_neg _b,if_neg _a,if_neg _a];rfl
 rw[e]at hu
 exact hu
def Gs (w wx:World) (b rb o2:Nat) (v5:Value) (l:List UInt8):Prop:=
 ∃g,v5=.pointer (some ⟨g,0,none⟩)/\ae wx g #[.int .u64 (le l 8 8),(le l 16 4:Int),(le l 20 4:Int),(le l 24 4:Int),(le l 28 4:Int),()] 58/\aP wx b (l.drop 32) 0/\ae wx rb #[b] 251/\ae wx o2 #[.int .u64 0,(0:Int),(0:Int),(0:Int),(0:Int),()] 58/\NP [] w wx/\w.heap.size<=g/\g≠b/\g≠rb/\g≠o2
theorem Fe {w w7:World} {b rb o2:Nat} {l:List UInt8} (hR:aP w7 b (l.drop 32) 0) (hrb:ae w7 rb #[b] 251) (ho:ae w7 o2 #[.int .u64 0,(0:Int),(0:Int),(0:Int),(0:Int),()] 58) (hk:NP [] w w7):
  Gs w (w7.alloc (.cells #[.int .u64 (le l 8 8),(le l 16 4:Int),(le l 20 4:Int),(le l 24 4:Int),(le l 28 4:Int),()] 58)) b rb o2 w7.heap.size l:=
 ⟨w7.heap.size,rfl,ae.new _ _ _,ae.alloc hR _,hrb.alloc _,ho.alloc _,hk.alloc _,hk.size,by have:=ae.lt hR;omega,by have:=hrb.lt;omega,by have:=ho.lt;omega⟩
theorem Fc {w w7:World} {b rb o2 g:Nat} {l:List UInt8} (og:ae w7 g #[.int .u64 0,(0:Int),(0:Int),(0:Int),(0:Int),()] 58) (hR:aP w7 b (l.drop 32) 0) (hrb:ae w7 rb #[b] 251) (ho:ae w7 o2 #[.int .u64 0,(0:Int),(0:Int),(0:Int),(0:Int),()] 58) (hk:NP [] w w7) (hg:w.heap.size<=g) (h1:g≠b) (h2:g≠rb) (h3:g≠o2):
  Gs w ((((((w7.setCell g (.int .u64 (le l 8 8))).setCell (aa g 1) (le l 16 4:Int)).setCell (aa g 2) (le l 20 4:Int)).setCell (aa g 3) (le l 24 4:Int)).setCell (aa g 4) (le l 28 4:Int)).setCell (aa g 5) ()) b rb o2 g l:=
 ⟨g,rfl,og.bp _ _ _ _ _ _,ae.mN hR (Ne.symm h1) _ _ _ _ _ _,hrb.mN (Ne.symm h2) _ _ _ _ _ _,ho.mN (Ne.symm h3) _ _ _ _ _ _,hk.bp (Or.inr hg) _ _ _ _ _ _,hg,h1,h2,h3⟩
theorem EW (l:List UInt8) (w:World) (h:l.length≠128) (_:l.length<=1000000):
  am! 121 #[l] w fun e w'=>e=.returned (.tuple #[.agg (gF.cells ()),(110:Int)])/\NP [] w w':=by
 have hz:(bs l).size=l.length:=NQ l
 have o:=ae.new w #[.int .u64 0,(0:Int),(0:Int),(0:Int),(0:Int),()] 58
 have Pb:((l.length:Int)==128)=false:=_e
 have⟨d0,d1,d2,d3,d4,d5⟩:=o.c6
 have z:=o.z6
 clear h
 generalize l.length=n at*
 go_enter func121,ntmps121
 go_wp2_with fail
 refine MN (v:=.tuple #[.agg #[.int .u64 0,(0:Int),(0:Int),(0:Int),(0:Int),()],(110:Int)]) ?_ ?_ ?_
 .exact aj results121 rfl rfl o underlying58 rfl _c
 .rfl
 .exact⟨rfl,(NP.refl _ _).alloc _⟩
theorem M31 {A:Prop}(h:A:=by
 go_wp2_with fail
 refine Q0.mono ?_;rintro e w5 ⟨rfl,QI⟩
 have Tv:=QI.own og _b
 have Sf:=QI.own ho _b
 have⟨y0,y1,y2,y3,y4,y5⟩:=Tv.c6
 have⟨x0,x1,x2,x3,x4,x5⟩:=Sf.c6
 have zo:=Sf.z6
 go_wp2_with fail
 refine MN (v:=.tuple #[.agg #[.int .u64 0,(0:Int),(0:Int),(0:Int),(0:Int),()],(110:Int)]) ?_ ?_ ?_
 .exact aj results121 rfl rfl (Sf.bp _ _ _ _ _ _) underlying58 rfl _c
 .rfl
 .exact ji HN.out ((hK.trans QI).bp (Or.inr (MG _)) _ _ _ _ _ _)):A:=h
theorem EX (l:List UInt8) (w:World) (h:l.length=128):
  am! 121 #[l] w (jH (0:Int) (110:Int) l w):=by
 have hz:(bs l).size=128:=by rw[NQ,h]
 have o:=ae.new w #[.int .u64 0,(0:Int),(0:Int),(0:Int),(0:Int),()] 58
 have QQ:=fun w=>nz (bs l) w
 rw[cC]at QQ
 have H1:=tK h
 clear h
 go_enter func121,ntmps121
 go_wp2_with fail
 refine(QQ _).mono ?_;rintro e w1 ⟨rfl,hR,OP⟩
 have o1:=OP.own o _b
 have TG:w.heap.size+1<w1.heap.size:=by have:=ae.lt hR;simp at this;omega
 have PY:NP [] w w1:=((NP.refl _ _).alloc _).trans OP
 rw[Nd]at hR
 clear QQ OP o
 have orb:=ae.new w1 #[↑(w+1:Nat)] 251
 have o1':=o1.alloc (.cells #[↑(w+1:Nat)] 251)
 have hR':=ae.alloc hR (.cells #[↑(w+1:Nat)] 251)
 have P6:=PY.alloc (.cells #[↑(w+1:Nat)] 251)
 clear o1 hR PY
 have ht8:=fun w h=>CB (w.heap.size+1) l w h _r
 go_wp2_with fail
 refine(CB _ l _ hR' _r).mono ?_;rintro e w2 ⟨rfl,Qn,Qo⟩
 have o2:=Qo.own o1' _b
 have rb2:=Qo.own orb _e
 have QI:NP [] w w2:=P6.call Qo _b
 have Q3:w1.heap.size<w2.heap.size:=rb2.lt
 clear o1' hR' P6 Qo orb ht8
 generalize hrb:w1.heap.size=rb at*
 clear hrb
 have c0:w2.cell? rb=some (.pointer (some (aa (w+1) 0))):=rb2.cell 0 _b
 have hU:∀W,aP W (w.heap.size+1) (l.drop 8) 0->ae W rb #[↑(w+1:Nat)] 251->am! 190 #[↑(w+1:Nat)] W fun e w'=>e=.returned (.int .u64 (le l 8 8))/\aP w' (w.heap.size+1) (l.drop 16) 0/\NP [w.heap.size+1] W w'/\ae w' rb #[↑(w+1:Nat)] 251/\w'.cell? rb=some (.pointer (some (aa (w+1) 0))):=fun W hr ho=>
  (Jr _ 8 l W hr _r).mono fun e w' hh=>⟨hh.1,hh.2.1,hh.2.2,hh.2.2.own ho _e,(hh.2.2.own ho _e).cell 0 _b⟩
 have hW:∀(k:Nat) W,k+4<=128->aP W (w.heap.size+1) (l.drop k) 0->ae W rb #[↑(w+1:Nat)] 251->am! 191 #[.agg #[↑(w+1:Nat)]] W fun e w'=>e=(le l k 4:Int)/\aP w' (w.heap.size+1) (l.drop (k+4)) 0/\NP [w.heap.size+1] W w'/\ae w' rb #[↑(w+1:Nat)] 251/\w'.cell? rb=some (.pointer (some (aa (w+1) 0))):=fun k W Qo hr ho=>
  (JK _ k l W hr _r).mono fun e w' hh=>⟨hh.1,hh.2.1,hh.2.2,hh.2.2.own ho _e,(hh.2.2.own ho _e).cell 0 _b⟩
 have⟨HU,HW⟩:=_f hU hW
 clear hU hW
 go_upto_region 5 with fail
 go_cut [5] (fun v5 wx=>Gs w wx (w.heap.size+1) rb w v5 l)
 case first=>
  go_region_held3 (fun w'=>w'.cell? rb=some (.pointer (some (aa (w+1) 0)))) (first|go_keep|exact((rb7.mN WV _ _ _ _ _ _).cell 0 _b))
   (first
    |(go_at_call 190;((with_reducible refine(HU.out _ ?_ ?_).mono ?_));(first|exact Qn|exact Qn.drew|exact(ae.alloc Qn _));(first|exact rb2|exact rb2.drew|exact(rb2.alloc _));rintro e w3 ⟨rfl,rr0,kk0,rb3,q0⟩;(first|(have WV:rb≠w2.heap.size:=(by have h9:=rb2.lt;omega);have hog:w2.heap.size∉[w.heap.size+1]:=_e;have og:=kk0.own (ae.drew (ae.new w2 #[.int .u64 0,(0:Int),(0:Int),(0:Int),(0:Int),()] 58)) _e;have⟨u0,u1,u2,u3,u4,u5⟩:=og.c6;have z6:=og.z6)|skip))
    |(go_at_call 191;((with_reducible refine(HW.out 16 _ _a ?_ ?_).mono ?_));(first|exact rr0|exact(ae.alloc rr0 _));(first|exact rb3|exact(rb3.alloc _));rintro e w4 ⟨rfl,rr1,Sd,rb4,q0⟩;(first|(have og:=Sd.own og hog;have⟨u0,u1,u2,u3,u4,u5⟩:=og.c6;have z6:=og.z6)|(have WV:rb≠w3.heap.size:=(by have h9:=rb3.lt;omega);have hog:w3.heap.size∉[w.heap.size+1]:=(by have h9:=rb3.lt;simp;omega);have og:=Sd.own (ae.new w3 #[.int .u64 0,(0:Int),(0:Int),(0:Int),(0:Int),()] 58) (by have h9:=rb3.lt;simp;omega);have⟨u0,u1,u2,u3,u4,u5⟩:=og.c6;have z6:=og.z6)|skip))
    |(go_at_call 191;((with_reducible refine(HW.out 20 _ _a ?_ ?_).mono ?_));(first|exact rr1|exact(ae.alloc rr1 _));(first|exact rb4|exact(rb4.alloc _));rintro e w5 ⟨rfl,rr2,kk2,rb5,q0⟩;(first|(have og:=kk2.own og hog;have⟨u0,u1,u2,u3,u4,u5⟩:=og.c6;have z6:=og.z6)|(have WV:rb≠w4.heap.size:=(by have h9:=rb4.lt;omega);have hog:w4.heap.size∉[w.heap.size+1]:=(by have h9:=rb4.lt;simp;omega);have og:=kk2.own (ae.new w4 #[.int .u64 0,(0:Int),(0:Int),(0:Int),(0:Int),()] 58) (by have h9:=rb4.lt;simp;omega);have⟨u0,u1,u2,u3,u4,u5⟩:=og.c6;have z6:=og.z6)|skip))
    |(go_at_call 191;((with_reducible refine(HW.out 24 _ _a ?_ ?_).mono ?_));(first|exact rr2|exact(ae.alloc rr2 _));(first|exact rb5|exact(rb5.alloc _));rintro e w6 ⟨rfl,rr3,Ti,rb6,q0⟩;(first|(have og:=Ti.own og hog;have⟨u0,u1,u2,u3,u4,u5⟩:=og.c6;have z6:=og.z6)|(have WV:rb≠w5.heap.size:=(by have h9:=rb5.lt;omega);have hog:w5.heap.size∉[w.heap.size+1]:=(by have h9:=rb5.lt;simp;omega);have og:=Ti.own (ae.new w5 #[.int .u64 0,(0:Int),(0:Int),(0:Int),(0:Int),()] 58) (by have h9:=rb5.lt;simp;omega);have⟨u0,u1,u2,u3,u4,u5⟩:=og.c6;have z6:=og.z6)|skip))
    |(go_at_call 191;((with_reducible refine(HW.out 28 _ _a ?_ ?_).mono ?_));(first|exact rr3|exact(ae.alloc rr3 _));(first|exact rb6|exact(rb6.alloc _));rintro e w7 ⟨rfl,rr4,kk4,rb7,q0⟩;(first|(have og:=kk4.own og hog;have⟨u0,u1,u2,u3,u4,u5⟩:=og.c6;have z6:=og.z6)|(have WV:rb≠w6.heap.size:=(by have h9:=rb6.lt;omega);have hog:w6.heap.size∉[w.heap.size+1]:=(by have h9:=rb6.lt;simp;omega);have og:=kk4.own (ae.new w6 #[.int .u64 0,(0:Int),(0:Int),(0:Int),(0:Int),()] 58) (by have h9:=rb6.lt;simp;omega);have⟨u0,u1,u2,u3,u4,u5⟩:=og.c6;have z6:=og.z6)|skip)))
  all_goals go_wp2_with fail
  all_goals go_meet
  all_goals
   have K4:NP [w.heap.size+1] w2 w7:=by
    refine NP.trans ?_ kk4;(try refine NP.alloc ?_ _)
    refine NP.trans ?_ Ti;(try refine NP.alloc ?_ _)
    refine NP.trans ?_ kk2;(try refine NP.alloc ?_ _)
    refine NP.trans ?_ Sd;(try refine NP.alloc ?_ _)
    refine NP.trans ?_ kk0
    repeat' first|exact NP.refl _ _|refine NP.drew ?_|refine NP.alloc ?_ _
   have l3:=rb3.lt
   have l4:=rb4.lt
   have l5:=rb5.lt
   have l6:=rb6.lt
   have rr:aP w7 (w.heap.size+1) (l.drop 32) 0:=rr4
   have ho7:=K4.own o2 _b
   have SV:NP [] w w7:=QI.call K4 _b
   clear K4 rr0 rr1 rr2 rr3 rr4 kk0 Sd kk2 Ti kk4 rb3 rb4 rb5 rb6 HU HW Qn o2 rb2 QI
   first
    |(with_reducible exact Fe rr rb7 ho7 SV)
    |(((with_reducible refine Fc og rr rb7 ho7 SV ?_ ?_ ?_ ?_))<;>omega)
 case rest=>
  obtain⟨g,rfl,og,hR,hrb,ho,hK,g1,g2,g3,g4⟩:=hcut
  have cr:wc.cell? rb=some (.pointer (some (aa (w+1) 0))):=hrb.cell 0 _b
  clear HU HW Qn o2 rb2 QI
  go_wp2_with fail
  refine(sQ _ 32 l _ hR _r).mono ?_;rintro e w3 ⟨rfl,Q4,P6⟩
  have Wk:=P6.own hrb _e
  have WI:=P6.own og _e
  have YI:=P6.own ho _b
  have V4:NP [] w w3:=hK.call P6 _b
  have cr:w3.cell? rb=some (.pointer (some (aa (w+1) 0))):=Wk.cell 0 _b
  clear hR P6 hrb og ho hK
  go_wp2_with fail
  refine(sQ _ 34 l _ Q4 _r).mono ?_;rintro e w4 ⟨rfl,So,Qo⟩
  have V8:=Qo.own Wk _e
  have Ww:=Qo.own WI _e
  have Yk:=Qo.own YI _b
  have X6:NP [] w w4:=V4.call Qo _b
  have Wh:aP w4 (w.heap.size+1) (l.drop (36+4*0)) 0:=So
  have Yd:w.heap.size+2<=w4.heap.size:=by have:=V8.lt;omega
  have hnl:le l 32 2<65536:=iN l 32 2
  have Vf:=jP l (le l 32 2)
  have hq:(PS l).seq<18446744073709551616:=iN l 8 8
  have hPy:=fun v lo hi W (h:af W v (PS l).runs lo hi) (hm:(PS l).may)=>JM (PS l) v lo hi W h hm hq
  have hPn:=fun v lo hi W (h:af W v (PS l).runs lo hi) (hm:¬(PS l).may)=>Hs (PS l) v lo hi W h (by rw[yQ,jP];omega) hm
  have hsb:ff l↔(le l 32 2<=16/\(PS l).may/\(PS l).aT=l):=by unfold ff;rw[H1.out];simp
  have⟨We,HPY,HPN,HDL⟩:=gh! hsb hPy hPn Vf
  clear Q4 Qo Wk WI YI V4 cr So hsb hPy hPn Vf hq
  have zo:=Yk.z6
  have⟨x0,x1,x2,x3,x4,x5⟩:=Yk.c6
  by_cases h16:16<le l 32 2
  .have HN:Hid (¬ff l):=fun hh=>by have:=(We.out.1 hh).1;omega
   clear We
   go_wp2_with fail
   refine MN (v:=.tuple #[.agg #[.int .u64 0,(0:Int),(0:Int),(0:Int),(0:Int),()],(110:Int)]) ?_ ?_ ?_
   .exact aj results121 rfl rfl (Yk.bp _ _ _ _ _ _) underlying58 rfl _c
   .rfl
   .exact ji HN.out (X6.bp (Or.inr (MG _)) _ _ _ _ _ _)
  .clear x0 x1 x2 x3 x4 x5 zo
   have ad5:le l 32 2<=16:=_a
   clear h16
   go_wp2_with fail
   go_loopw [40] (fun i wr=>∃(k:Nat) (v:Value),k<=le l 32 2/\i=(k:Int)/\aP wr (w.heap.size+1) (l.drop (36+4*k)) 0/\ae wr rb #[↑(w+1:Nat)] 251/\ae wr g #[.int .u64 (le l 8 8),(le l 16 4:Int),(le l 20 4:Int),(le l 24 4:Int),(le l 28 4:Int),v] 58/\wr.ownsRow (w.heap.size+2) 128 2 v k (NW (Pd l k))/\ae wr w #[.int .u64 0,(0:Int),(0:Int),(0:Int),(0:Int),()] 58/\NP [] w wr) (fun i _=>le l 32 2-(intOf i).toNat)
   case atStart=>exact⟨0,_,_a,rfl,Wh,V8,Ww,Nf _ _ _ _,Yk,X6⟩
   case round=>
    obtain⟨k,v,hk,rfl,hR,hrb,og,Ot,ho,hK⟩:=hrel
    obtain⟨pv,cv,rfl⟩:=ah Ot
    by_cases NV:k<le l 32 2
    .have cr:wr.cell? rb=some (.pointer (some (aa (w+1) 0))):=hrb.cell 0 _b
     have YE:Hid (Pd l (k+1)=Pd l k++[(((le l (36+4*k) 2:Nat):Int),((le l (38+4*k) 2:Nat):Int))]):=rfl
     have afp:k<=16:=_a
     obtain⟨i0,hi0,Rh,Qc,Qx⟩:=eV
     clear We HPY HPN Wh V8 Ww Yk X6
     go_wp2_with fail
     refine(sQ _ (36+4*k) l _ hR _r).mono ?_;rintro e w3 ⟨rfl,Q4,P6⟩
     have Wk:=P6.own hrb _e
     have WI:=P6.own og _e
     have YI:=P6.own ho _b
     have V4:NP [] w w3:=hK.call P6 _b
     have RF:=ax Ot P6 _b
     have cr:w3.cell? rb=some (.pointer (some (aa (w+1) 0))):=Wk.cell 0 _b
     have cg:w3.cell? (aa g 5)=(pv,k,cv):=ae.cell WI 5 _b
     have aco:aP w3 (w.heap.size+1) (l.drop (38+4*k)) 0:=by rw[show 38+4*k=36+4*k+2 from by omega];exact Q4
     clear hR P6 hrb og ho hK Ot Q4
     generalize le l (36+4*k) 2=n1 at*
     go_wp2_with fail
     have q3:k+1<=maxLen:=_m
     have q4:(k+1)*16<=140737488355328:=_a
     have hH:=tK (show le l (38+4*k) 2=le l (38+4*k) 2 from rfl)
     have aav:=fun W h=>sQ (w.heap.size+1) (38+4*k) l W h _r
     generalize le l (38+4*k) 2=n2 at*
     have HH:=tK aav
     clear aav hH
     go_region_law (first
      |(refine step_append_lies _ _L (.tmp 45) (.tmp 50) 56 _L (w.heap.size+2) 128 i0 (.agg #[(0:Int),(0:Int)]) 2 16 underlying56 hi0 Rh Qc Qx rfl _d _ _ _ _L (MH Sg _) w4 1 1 [.int .i64 (n1:Int),.int .i64 (n2:Int)] _L rfl (World.news_of_block (Ns w4 _)) _v _d q3 q4 _e (w4.heap.size+1) _b ?_;intro g3' Vt w5 o3 RQ at3 lt3;have Tv:=bW (MH Sg _) RQ (Ww.alloc _) _d;have hc5:w5.cell? (aa g 5)=(pv,k,cv):=ae.cell Tv 5 _b;have hf5:w5.frozen? (aa g 5)=false:=Tv.free 5)
      |(go_simp;go_at_call 192;((with_reducible refine(HH.out _ ?_).mono ?_));(first|exact aco|exact ae.drew aco);rintro e w4 ⟨rfl,So,Qo⟩;have Ww:=Qo.own WI.drew _e;have V8:=Qo.own Wk.drew _e;have Yk:=Qo.own YI.drew _b;have X6:NP [] w w4:=V4.drew.call Qo _b;have Sg:=ax RF.drew Qo _b;have Yd:w.heap.size+2<=w4.heap.size:=(by have:=V8.lt;omega);have cg4:w4.cell? (aa g 5)=(pv,k,cv):=ae.cell Ww 5 _b;have adW:∀o,(w4.alloc o).cell? (aa g 5)=(pv,k,cv):=fun o=>ae.cell (Ww.alloc o) 5 _b))
     all_goals go_wp2_with fail
     all_goals
      have VL:=bW (MH Sg _) RQ (ae.alloc So _) _d
      have ad4:=bW (MH Sg _) RQ (V8.alloc _) _d
      have Sf:=bW (MH Sg _) RQ (Yk.alloc _) _d
      have hK5:NP [] w w5:=(X6.alloc _).grown RQ (fun j hj=>Or.inr (by have:=(ML Sg j hj).1;omega))
      have hg6:=Tv.set 5 (g3',k+1,Vt)
      have o6:=bT o3 (p:=(aa g 5)) (aB o3 Tv _d) (g3',k+1,Vt)
      have ec:NW (Pd l (k+1))=NW (Pd l k)++[.int .i64 (n1:Int),.int .i64 (n2:Int)]:=by rw[YE.out,bP]
      rw[<-ec]at o6
      clear HH Sg RF RQ Ww V8 Yk X6 Qo So WI Wk YI V4 o3 HDL
      refine⟨⟨k+1,_,_a,rfl,?_,ad4.other (p:=(aa g 5)) (Ne.symm g3) _,hg6,o6,Sf.other (p:=(aa g 5)) (Ne.symm g4) _,hK5.setCell (p:=(aa g 5)) (Or.inr g1) _⟩,?_⟩
      .rw[show 36+4*(k+1)=38+4*k+2 from by omega]
       exact ae.other VL (p:=(aa g 5)) (Ne.symm g2) _
      .simp[intOf];omega
    .obtain rfl:k=le l 32 2:=_a
     have Oe:=af.bB (l:=(PS l).runs) Ot
     have afa:=Oe.weaken (lo':=w.heap.size) (hi':=wr.heap.size) _a (MG _) (MG _)
     have⟨y0,y1,y2,y3,y4,y5⟩:=og.c6
     have⟨x0,x1,x2,x3,x4,x5⟩:=ho.c6
     have zo:=ho.z6
     by_cases hm:(PS l).may
     .have Q0:=HPY.out (pv,le l 32 2,cv) (w.heap.size+2) wr wr Oe hm
      unfold SB.cells at Q0
      by_cases hs:(PS l).aT=l
      .have HS:Hid (ff l):=We.out.2 ⟨ad5,hm,hs⟩
       rw[hs]at Q0
       clear We HPY HPN hm hs
       go_wp2_with fail
       refine Q0.mono ?_;rintro e w5 ⟨rfl,QI⟩
       have Tv:=QI.own og _b
       have Sf:=QI.own ho _b
       have⟨y0,y1,y2,y3,y4,y5⟩:=Tv.c6
       have⟨x0,x1,x2,x3,x4,x5⟩:=Sf.c6
       have zo:=Sf.z6
       go_wp2_with fail
       have hS:=(NP.refl [w.heap.size] w5).bp (b:=w.heap.size) (Or.inl _b) (.int .u64 (le l 8 8)) (le l 16 4:Int) (le l 20 4:Int) (le l 24 4:Int) (le l 28 4:Int) (pv,le l 32 2,cv)
       have PZ:=(Oe.kept0 QI).kept hS (fun x hx=>by simp at hx;omega)
       have hs5:=QI.size
       refine MN (v:=.tuple #[.agg #[.int .u64 (le l 8 8),(le l 16 4:Int),(le l 20 4:Int),(le l 24 4:Int),(le l 28 4:Int),(pv,le l 32 2,cv)],(0:Int)]) ?_ ?_ ?_
       .exact aj results121 rfl rfl (Sf.bp _ _ _ _ _ _) underlying58 rfl _c
       .rfl
       .exact⟨Or.inl ⟨HS.out,_,rfl,PZ.weaken _a (by simp[World.setCell];exact hs5) (MG _)⟩,(hK.trans QI).call hS (fun x hx=>by simp at hx;omega)⟩
      .have HN:Hid (¬ff l):=fun hh=>hs (We.out.1 hh).2.2
       have Pb:((bs (PS l).aT).toList==(bs l).toList)=false:=by rw[bj,bj];simpa using hs
       clear We HPY HPN hm hs
       generalize (PS l).aT=SE at*
       exact M31
     .have HN:Hid (¬ff l):=fun hh=>hm (We.out.1 hh).2.1
      have Q0:=HPN.out (pv,le l 32 2,cv) (w.heap.size+2) wr wr Oe hm
      unfold SB.cells at Q0
      clear We HPY HPN hm
      exact M31
