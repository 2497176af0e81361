/- -/
import Derived.Test.YtdkimcnlhmhpgaaGreatK26
set_option maxHeartbeats 16000000
set_option maxRecDepth 100000
namespace Go.Proofs.YtdkimcnlhmhpgaaGreat
open Go.RowKit
variable {l r s s0:List UInt8} {k n:Nat} {x:Int} {o:List ag} {out:List (List ag)}
def bQ (l:List ag):Int:=if l.length=0 then 3 else if l.all az then 0 else 1
def NZ (l:List ag):List UInt8:=if bQ l=0 then iL l else[]
def nF (l:List ag) (w:World) (e:Ending) (w':World):Prop:=e=.returned (.tuple #[.string (bs (NZ l)),.int .i64 (bQ l)])/\aa [] w w'
theorem Hy {l:List ag} (h:l.length=0):bQ l=3/\NZ l=[]:=by
 have e:bQ l=3:=by unfold bQ;rw[if_pos h]
 exact⟨e,by unfold NZ;rw[e,if_neg (by decide)]⟩
theorem KS {l:List ag} (hk:k<l.length) (h:az l[k]=false):bQ l=1/\NZ l=[]:=by
 have e:bQ l=1:=by
  unfold bQ
  rw[if_neg (by omega),if_neg]
  intro ha
  have:=List.all_eq_true.1 ha l[k] (Mh hk)
  rw[h]at this;cases this
 exact⟨e,by unfold NZ;rw[e,if_neg (by decide)]⟩
theorem CU {l:List ag} (h0:0<l.length) (h:∀j (hj:j<l.length),az l[j]=true):bQ l=0/\NZ l=iL l:=by
 have e:bQ l=0:=by
  unfold bQ
  rw[if_neg (by omega),if_pos]
  rw[List.all_eq_true]
  intro r hr
  obtain⟨j,hj,rfl⟩:=MO.1 hr
  exact h j hj
 exact⟨e,by unfold NZ;rw[if_pos e]⟩
theorem vf {l:List ag} {C:Int} {w w':World} (h:bQ l=C/\NZ l=[]) (k:aa [] w w'):nF l w (.returned (.tuple #[.string {data:=#[]},.int .i64 C])) w':=by
 refine⟨?_,k⟩
 rw[h.1,h.2];rfl
theorem Cn {l:List ag} {k:Nat} (hl:l.length<=3000) (hk:k<=l.length) (h:∀j (hj:j<l.length),j<k->jF l[j]):(Nh l.length 2++((l.take k).map bk).flatten).length<=600100:=by
 have:=sg (l:=l.take k) (fun r hr=>by
  rw[List.mem_take_iff_getElem]at hr
  obtain⟨j,hj,rfl⟩:=hr
  exact h j (by omega) (by omega))
 rw[Mc,aq]
 have h2:(l.take k).length<=3000:=by rw[Mp];omega
 omega
theorem LM (v:Value) (l:List ag) (lo hi:Nat) (w:World) (h:cY w v l lo hi) (hl:l.length<=3000) (Po:∀r∈l,r.runs.length<=1000000):
  Calls Tryz.prog 46 #[v] w (nF l w):=by
 obtain⟨p,c,rfl⟩:=aZ.shape h
 have QZ:(l.length:Int)<=3000:=by omega
 by_cases h0:l.length=0
 .have hs:=vf (w:=w) (w':=w) (Hy h0) (aa.refl _ _)
  have HS:=Mb hs
  have h0':(l.length:Int)<1:=by omega
  clear hs h hl Po h0
  go_enter Tryz.func46,Tryz.ntmps46
  go_wp2_with fail
  go_ret2
  exact HS.out
 .have h1':(1:Int)<=l.length:=by omega
  have e0:=gg l.length (by omega)
  have hu:=fun W=>gu l.length W (by omega)
  have HU:=Mb hu
  have H:=Mb h
  have HRL:=Mb Po
  clear hu h Po
  go_enter Tryz.func46,Tryz.ntmps46
  go_wp2_with fail
  refine(HU.out _).mono ?_;rintro e w1 ⟨rfl,OY⟩
  clear e0
  go_wp2_with fail
  go_loopw [4,22] (fun t i wr=>∃k:Nat,k<=l.length/\i=.int .i64 k/\t=.string (bs (Nh l.length 2++((l.take k).map bk).flatten))/\(∀j (hj:j<l.length),j<k->az l[j]=true/\jF l[j])/\aa [] w wr) (fun _ i _=>l.length-(intOf i).toNat)
  case atStart=>exact⟨0,by omega,rfl,by simp,fun j _ hj=>absurd hj (by omega),OY⟩
  case round=>
   obtain⟨k,hk,rfl,rfl,OJ,hK⟩:=hrel
   have hlen:=Cn hl hk (fun j hj Vs=>(OJ j hj Vs).2)
   by_cases Ns:k<l.length
   .obtain⟨b',off,kv,rfl,c0,c1,c2,c3,c4,hr,N4,_,hbh,hhw⟩:=(H.out.kept0 hK).at_ k Ns
    have NT:l[k].runs.length<=1000000:=HRL.out _ (Mh Ns)
    obtain⟨pk,ck,rfl⟩:=hr.shape
    have OF:=fun(hm:az l[k]=false)=>KS Ns hm
    have Vk:az l[k]=true->jF l[k]->∀j (hj:j<l.length),j<k+1->az l[j]=true/\jF l[j]:=fun h1 h2 j hj Vs=>by
     by_cases e:j=k
     .subst e;exact⟨h1,h2⟩
     .exact OJ j hj (by omega)
    have Pc:=Df l k Ns
    have ka:aa [] wr (wr.alloc (.cells (l[k].cells (.slice pk l[k].runs.length ck)) 102)):=(aa.refl _ _).alloc _
    have Tq:=tV l[k] _ lo hi _ (hr.kept0 ka) NT N4
    have VI:=fun W (kk:aa [] wr W) (ho:jF l[k])=>Kd l[k] _ lo hi W (hr.kept0 kk) ho
    have hoo:=fun(hm:az l[k]=true)=>j7 (r:=l[k]) hm N4
    have acD:=fun(ho:jF l[k])=>xx (r:=l[k]) ho
    have oA:=ae.new wr (l[k].cells (.slice pk l[k].runs.length ck)) 102
    have Pk:=Mb OF
    have UT:=Mb Vk
    have Tc:=Mb Pc
    have PT:=Mb Tq
    have HBY:=Mb VI
    have HOO:=Mb hoo
    have ac5:=Mb acD
    have Ql:=Mb OJ
    have NU:=Mb Ns
    have Oa:=Mb hlen
    have KA:=Mb ka
    have OA:=Mb oA
    have i1:(k:Int)<l.length:=by omega
    clear OF Vk Pc Tq VI hoo acD OJ hlen hr N4 NT ka oA
    unfold db at PT
    unfold ag.cells at PT HBY KA OA
    generalize hm:az l[k]=M at*
    have HM:=Mb hm
    clear hm
    generalize l[k].kind=rk at*
    generalize l[k].id=ri at*
    generalize l[k].name=rn at*
    generalize l[k].size=rs at*
    generalize l[k].runs.length=rr at*
    cases M
    .have hs:=Pk.out rfl
     have HS:=Mb hs
     clear hs
     go_wp2_with fail
     refine PT.out.mono ?_;rintro e w2 ⟨rfl,k2⟩
     have kk:=(hK.trans KA.out).trans k2
     go_wp2_with fail
     go_ret2
     exact vf HS.out kk
    .have ho:=HOO.out rfl
     have HO:=Mb ho
     have acs:=ac5.out ho
     have Qo:=fun W kk=>HBY.out W kk ho
     have HB2:=Mb Qo
     clear ho Qo
     have y1:(bs (bk l[k])).size<=200:=by rw[Nj];exact acs
     have y0:(bs (Nh l.length 2++((l.take k).map bk).flatten)).size<=600100:=by rw[Nj];exact Oa.out
     have Ug:Hid (bs (Nh l.length 2++((l.take k).map bk).flatten)++bs (bk l[k])=bs (Nh l.length 2++((l.take (k+1)).map bk).flatten)):=by
      show _=_;rw[aT,Tc.out];simp only[Mi];rfl
     clear acs
     generalize bs (bk l[k])=RB at*
     generalize bs (Nh l.length 2++((l.take k).map bk).flatten)=S0 at*
     go_wp2_with fail
     refine PT.out.mono ?_;rintro e w2 ⟨rfl,k2⟩
     have o2:=k2.own OA.out (by simp)
     obtain⟨d0,d1,d2,d3,d4⟩:=o2.c5
     have k02:=KA.out.trans k2
     go_wp2_with fail
     refine(HB2.out _ k02).mono ?_;rintro e w3 ⟨rfl,k3⟩
     have kk:=hK.trans (k02.trans k3)
     have yy:(S0++RB).size=S0.size+RB.size:=ByteArray.size_append
     go_wp2_with fail
     go_roundw
     case rel=>exact⟨k+1,NU.out,by go_num,by rw[<-Ug.out],UT.out (by first|rfl|trivial) HO.out,kk⟩
     case measure=>(have hh:=NU.out;simp[intOf];omega)
   .obtain rfl:k=l.length:=by omega
    obtain⟨ec,eo⟩:=CU (l:=l) (by omega) (fun j hj=>(OJ j hj hj).1)
    rw[MC]at hlen ⊢
    have ZG:Nh l.length 2++(l.map bk).flatten=bO l:=rfl
    rw[ZG]at hlen ⊢
    have e1:=oH (bO l).length (by omega)
    have hz:(bs (bO l)).size=(bO l).length:=Nj _
    have hcr:=uj (bO l)
    have h1:=fun W=>eh (bO l).length W (by omega)
    have h2:=fun W=>Cd (bs (bO l)) W (by rw[hz];unfold maxLen;omega)
    have h3:=fun W=>eh (Qh (bO l)) W (by omega)
    rw[dP]at h2
    have N6:Hid (bs (Nh (bO l).length 4)++bs (Nh (Qh (bO l)) 4)++bs (bO l)=bs (NZ l)):=by
     show _=_;rw[eo,aT,aT,Mi];rfl
    have y1:(bs (Nh (bO l).length 4)).size=4:=by rw[Nj,aq]
    have y2:(bs (Nh (Qh (bO l)) 4)).size=4:=by rw[Nj,aq]
    have y3:(bs (bO l)).size<=600100:=by rw[hz];omega
    have yy:(bs (Nh (bO l).length 4)++bs (Nh (Qh (bO l)) 4)).size=8:=by rw[ByteArray.size_append,y1,y2]
    have EC:=Mb ec
    have H1:=Mb h1
    have H2:=Mb h2
    have H3:=Mb h3
    have Ql:=Mb OJ
    have WM:((bO l).length:Int)<=600100:=by omega
    clear ec eo h1 h2 h3 OJ ZG
    generalize bs (Nh (bO l).length 4)=M1 at*
    generalize bs (Nh (Qh (bO l)) 4)=M2 at*
    generalize bs (bO l)=M3 at*
    generalize Qh (bO l)=cr at*
    generalize (bO l).length=bl at*
    go_wp2_with fail
    refine(H1.out _).mono ?_;rintro e w2 ⟨rfl,k2⟩
    go_wp2_with fail
    refine(H2.out _).mono ?_;rintro e w' ⟨rfl,rfl⟩
    go_wp2_with fail
    refine(H3.out _).mono ?_;rintro e w3 ⟨rfl,k3⟩
    have kk:=(hK.trans k2).trans k3
    go_wp2_with fail
    go_ret2
    exact⟨by rw[EC.out,<-N6.out];rfl,kk⟩
theorem nN {n:Int} (h:(NS n l x).2.2≠0):(NS n l x).1=[]:=by
 unfold NS at h ⊢
 split
 .rfl
 .rename_i h1
  rw[if_neg h1]at h
  split
  .rfl
  .rename_i h2
   rw[if_neg h2]at h
   split
   .rfl
   .rename_i h3
    rw[if_neg h3]at h
    exact absurd rfl h
theorem IB (h:(Ny k l x).2.2≠0):(Ny k l x).1=0:=by
 unfold Ny at h ⊢
 rw[show(NS (k:Int) l x).1=[]from nN h];rfl
theorem lJ (h:(Ny k l x).1≠0):(Ny k l x).2.2=0:=by
 by_cases hx:(Ny k l x).2.2=0
 .exact hx
 .exact absurd (IB hx) h
def tY (k:Int) (l:List UInt8) (x:Int):Nat×List UInt8×Int:=if Qa k then Ny 4 l x else(0,l,x)
def vO (k:Int) (l:List UInt8) (x:Int):List UInt8×List UInt8×Int:=if Ob k then gk l x else([],l,x)
def xf (k:Int) (l:List UInt8) (x:Int):Nat×List UInt8×Int:=if NH k then Ny 4 l x else(0,l,x)
def yh (k:Int) (l:List UInt8) (x:Int):Nat×List UInt8×Int:=if NH k then Ny 2 l x else(0,l,x)
def NX:Nat->List UInt8->Int->List (Int×Int)×List UInt8×Int
 |0,l,x=>([],l,x)
 |n+1,l,x=>((NX n l x).1++[(((Ny 2 (NX n l x).2.1 (NX n l x).2.2).1:Int),((Ny 2 (Ny 2 (NX n l x).2.1 (NX n l x).2.2).2.1 (Ny 2 (NX n l x).2.1 (NX n l x).2.2).2.2).1:Int))],
   (Ny 2 (Ny 2 (NX n l x).2.1 (NX n l x).2.2).2.1 (Ny 2 (NX n l x).2.1 (NX n l x).2.2).2.2).2)
theorem j6 (n:Nat) (l:List UInt8) (x:Int):(NX n l x).1.length=n:=by
 induction n with
 |zero=>rfl
 |succ n ih=>rw[NX,Mc,ih];rfl
theorem E9 (n:Nat) (l:List UInt8) (x:Int):∀a∈(NX n l x).1,0<=a.1/\a.1<65536/\0<=a.2/\a.2<65536:=by
 induction n with
 |zero=>intro a ha;cases ha
 |succ n ih=>
  intro a ha
  rw[NX]at ha
  rcases Mj.1 ha with h|h
  .exact ih a h
  .have e:=MB.1 h
   subst e
   have h1:=dB 2 (NX n l x).2.1 (NX n l x).2.2
   have h2:=dB 2 (Ny 2 (NX n l x).2.1 (NX n l x).2.2).2.1 (Ny 2 (NX n l x).2.1 (NX n l x).2.2).2.2
   simp only
   omega
def PP (l:List UInt8):Nat×List UInt8×Int:=Ny 1 l 0
def iR (l:List UInt8):Nat×List UInt8×Int:=tY (PP l).1 (PP l).2.1 (PP l).2.2
def tR (l:List UInt8):List UInt8×List UInt8×Int:=vO (PP l).1 (iR l).2.1 (iR l).2.2
def zR (l:List UInt8):Nat×List UInt8×Int:=xf (PP l).1 (tR l).2.1 (tR l).2.2
def nR (l:List UInt8):Nat×List UInt8×Int:=yh (PP l).1 (zR l).2.1 (zR l).2.2
def eL (m:Nat) (l:List UInt8):ag×List UInt8×Int:=
 (⟨(PP l).1,(iR l).1,(tR l).1,(zR l).1,(NX m (nR l).2.1 (nR l).2.2).1⟩,(NX m (nR l).2.1 (nR l).2.2).2)
def je (l:List UInt8):Option (ag×List UInt8):=if(eL (nR l).1 l).2.2=0/\az (eL (nR l).1 l).1=true then some ((eL (nR l).1 l).1,(eL (nR l).1 l).2.1)else none
theorem lN {r:ag} (h:az r=true):r.runs.length<=16:=by
 unfold az aA at h
 simp only[MJ,decide_eq_true_eq]at h
 have h7:=h.2.2.2.2.2.2
 unfold eX at h7
 simp only[MJ,decide_eq_true_eq]at h7
 exact h7.1
theorem Fk (l:List UInt8):je l=if(eL (min (nR l).1 17) l).2.2=0/\az (eL (min (nR l).1 17) l).1=true then some ((eL (min (nR l).1 17) l).1,(eL (min (nR l).1 17) l).2.1)else none:=by
 by_cases h:(nR l).1<=17
 .rw[Nat.min_eq_left h];rfl
 .rw[Nat.min_eq_right (by omega)]
  unfold je
  rw[if_neg,if_neg]
  .rintro⟨_,h2⟩
   have:=lN h2
   simp only[eL,j6]at this
   omega
  .rintro⟨_,h2⟩
   have:=lN h2
   simp only[eL,j6]at this
   omega
theorem Fi (h:(eL (nR l).1 l).2.2=0) (hm:az (eL (nR l).1 l).1=true):je l=some ((eL (nR l).1 l).1,(eL (nR l).1 l).2.1):=by
 unfold je;rw[if_pos ⟨h,hm⟩]
theorem Gb (k:Int) (l:List UInt8) (x:Int):(Lit.int .u32 ((tY k l x).1:Int)).wf=true:=by
 have h:(tY k l x).1<4294967296:=by
  unfold tY
  split
  .exact dB 4 l x
  .exact Nat.zero_lt_succ _
 simp only[Lit.wf,MJ,decide_eq_true_eq]
 exact⟨by show(0:Int)<=_;omega,by show _<=(4294967295:Int);omega⟩
theorem DQ (m:Nat) (l:List UInt8) (x:Int):(OO m l x).1<=m:=by
 unfold OO
 simp only
 split
 .exact Mu _
 .omega
theorem yL (l:List UInt8) (x:Int):(gk l x).1.length<=65536:=by
 unfold gk
 simp only
 have h1:=pH (OO 65536 l x).1 (OO 65536 l x).2.1 (OO 65536 l x).2.2
 have h2:=DQ 65536 l x
 omega
theorem DB (k:Int) (l:List UInt8) (x:Int):(vO k l x).1.length<=65536:=by
 unfold vO
 split
 .exact yL l x
 .simp
theorem CY (k:Int) (l:List UInt8) (x:Int):(xf k l x).1<4294967296:=by
 unfold xf
 split
 .exact dB 4 l x
 .exact Nat.zero_lt_succ _
theorem Kl (k:Int) (l:List UInt8) (x:Int):(yh k l x).1<65536:=by
 unfold yh
 split
 .exact dB 2 l x
 .exact Nat.zero_lt_succ _
theorem ly {n:Int} (h1: -9223372036854775808<=n) (h2:n<=9223372036854775807):(Lit.int .i64 n).wf=true:=by
 simp only[Lit.wf,MJ,decide_eq_true_eq]
 exact⟨h1,h2⟩
theorem vL (m:Nat) (l:List UInt8):(eL m l).1.fits:=by
 refine⟨?_,Gb _ _ _,?_,?_⟩
 .have:(PP l).1<256:=dB 1 l 0
  exact ly (by show _<=((PP l).1:Int);omega) (by show((PP l).1:Int)<=_;omega)
 .have:(tR l).1.length<=65536:=DB _ _ _
  show(tR l).1.length<=maxLen
  unfold maxLen;omega
 .have:(zR l).1<4294967296:=CY _ _ _
  exact ly (by show _<=((zR l).1:Int);omega) (by show((zR l).1:Int)<=_;omega)
def eC:Nat->List UInt8->Option (List ag×List UInt8)
 |0,s=>some ([],s)
 |n+1,s=>match eC n s with
  |none=>none
  |some (o,r)=>match je r with
   |none=>none
   |some (x,r')=>some (o++[x],r')
theorem tA {r':List UInt8} {x:ag} (h:eC n s=some (o,r)) (hx:je r=some (x,r')):eC (n+1) s=some (o++[x],r'):=by
 rw[eC,h];simp only;rw[hx]
theorem Bk {m:Nat} (h:eC n s=some (o,r)) (hx:je r=none) (hm:n<m):eC m s=none:=by
 induction m with
 |zero=>omega
 |succ m ih=>
  by_cases e:n=m
  .subst e;rw[eC,h];simp only;rw[hx]
  .rw[eC,ih (by omega)]
def fF (s:List UInt8):Option (List ag):=
 if 1<=(Ny 2 s 0).1/\(Ny 2 s 0).1<=8192 then(match eC (Ny 2 s 0).1 (Ny 2 s 0).2.1 with
  |some (o,[])=>some o
  |_=>none)else none
theorem Jd (h:¬(1<=(Ny 2 s 0).1/\(Ny 2 s 0).1<=8192)):fF s=none:=by unfold fF;rw[if_neg h]
theorem Co (h:eC (Ny 2 s 0).1 (Ny 2 s 0).2.1=none):fF s=none:=by
 unfold fF;split
 .rw[h]
 .rfl
theorem Cp (h:eC (Ny 2 s 0).1 (Ny 2 s 0).2.1=some (o,r)) (hr:r≠[]):fF s=none:=by
 unfold fF;split
 .rw[h]
  cases r with
  |nil=>exact absurd rfl hr
  |cons a t=>rfl
 .rfl
theorem wz (h1:1<=(Ny 2 s 0).1) (h2:(Ny 2 s 0).1<=8192) (h:eC (Ny 2 s 0).1 (Ny 2 s 0).2.1=some (o,[])):fF s=some o:=by
 unfold fF;rw[if_pos ⟨h1,h2⟩,h]
def aR (s:List UInt8):Nat×List UInt8×Int:=Ny 4 s 0
def cR (s:List UInt8):Nat×List UInt8×Int:=Ny 4 (aR s).2.1 (aR s).2.2
def bR (s:List UInt8):List UInt8×List UInt8×Int:=NS (aR s).1 (cR s).2.1 (cR s).2.2
def gq (s:List UInt8):Option (List ag×List UInt8):=match fF (bR s).1 with
 |none=>none
 |some o=>if(bR s).2.2=0/\Qh (bR s).1=(cR s).1 then some (o,(bR s).2.1)else none
theorem EO (h:fF (bR s).1=none):gq s=none:=by unfold gq;rw[h]
theorem H9 (h:(bR s).2.2≠0):gq s=none:=by
 unfold gq
 split
 .rfl
 .rw[if_neg (fun hh=>h hh.1)]
theorem Hz (h:Qh (bR s).1≠(cR s).1):gq s=none:=by
 unfold gq
 split
 .rfl
 .rw[if_neg (fun hh=>h hh.2)]
theorem uI (h:fF (bR s).1=some o) (h2:(bR s).2.2=0) (h3:Qh (bR s).1=(cR s).1):gq s=some (o,(bR s).2.1):=by
 unfold gq;rw[h];simp only;rw[if_pos ⟨h2,h3⟩]
theorem jj (h:(Ny k l x).2.2=0):x=0/\(Ny k l x).2.1.length+k=l.length:=by
 unfold Ny at h ⊢
 obtain⟨h1,h2,h3⟩:=jL (n:=k) h
 have h4:=congrArg List.length h3
 rw[Mc,h2]at h4
 exact⟨h1,by show(NS (k:Int) l x).2.1.length+k=_;omega⟩
theorem nE (h:(bR s).2.2=0):(bR s).1.length=(aR s).1/\(bR s).1.length+(bR s).2.1.length+8<=s.length:=by
 have e:bR s=NS (aR s).1 (cR s).2.1 (cR s).2.2:=rfl
 rw[e]at h ⊢
 obtain⟨h1,h2,h3⟩:=jL h
 have h4:=congrArg List.length h3
 rw[Mc]at h4
 refine⟨h2,?_⟩
 obtain⟨h5,h6⟩:=jj (k:=4) (l:=(aR s).2.1) (x:=(aR s).2.2) h1
 obtain⟨h7,h8⟩:=jj (k:=4) (l:=s) (x:=0) h5
 have e2:(Ny 4 (aR s).2.1 (aR s).2.2).2.1=(cR s).2.1:=rfl
 have e3:(Ny 4 s 0).2.1=(aR s).2.1:=rfl
 rw[e2]at h6
 rw[e3]at h8
 omega
theorem nM (h:gq s=some (o,r)):r.length+8<=s.length:=by
 unfold gq at h
 split at h
 .cases h
 .split at h
  .rename_i hc
   injection h with h
   injection h with _ h
   have:=(nE hc.1).2
   rw[<-h];omega
  .cases h
def fC:Nat->List UInt8->Option (List (List ag))
 |0,s=>if s=[]then some []else none
 |f+1,s=>if s=[]then some []else(gq s).bind fun p=>(fC f p.2).map fun ls=>p.1::ls
theorem Bl (f g:Nat) (s:List UInt8) (hf:s.length<=f) (hg:s.length<=g):fC f s=fC g s:=by
 induction f generalizing g s with
 |zero=>
  have:s=[]:=Mt (by omega)
  subst this
  cases g<;>simp[fC]
 |succ f ih=>
  cases g with
  |zero=>
   have:s=[]:=Mt (by omega)
   subst this
   simp[fC]
  |succ g=>
   rw[fC,fC]
   split
   .rfl
   .cases ht:gq s with
    |none=>rfl
    |some x=>
     obtain⟨o,r⟩:=x
     have:=nM ht
     simp only[Option.bind_some]
     rw[ih g r (by omega) (by omega)]
def N9 (s:List UInt8):Option (List (List ag)):=fC s.length s
theorem qd:N9 []=some []:=rfl
theorem tB (hs:s≠[]) (h:gq s=none):N9 s=none:=by
 have hl:0<s.length:=MH.2 hs
 obtain⟨f,hf⟩:∃f,s.length=f+1:=⟨s.length-1,by omega⟩
 unfold N9
 rw[hf,fC,if_neg hs,h]
 rfl
theorem kG (hs:s≠[]) (h:gq s=some (o,r)):N9 s=(N9 r).map (fun ls=>o::ls):=by
 have hl:0<s.length:=MH.2 hs
 obtain⟨f,hf⟩:∃f,s.length=f+1:=⟨s.length-1,by omega⟩
 have:=nM h
 unfold N9
 rw[hf,fC,if_neg hs,h]
 simp only[Option.bind_some]
 rw[Bl f r.length r (by omega) (Md _)]
def fB (s0:List UInt8) (out:List (List ag)) (s:List UInt8):Prop:=N9 s0=(N9 s).map (fun ls=>out++ls)
theorem fB.start (s:List UInt8):fB s [] s:=by unfold fB;cases N9 s<;>rfl
theorem fB.step (h:fB s0 out s) (hs:s≠[]) (ht:gq s=some (o,r)):fB s0 (out++[o]) r:=by
 unfold fB at h ⊢
 rw[h,kG hs ht]
 cases N9 r<;>simp
theorem fB.end_ (h:fB s0 out s) (hs:s=[]):N9 s0=some out:=by
 unfold fB at h
 subst hs
 rw[h,qd];simp
theorem fB.no (h:fB s0 out s) (hs:s≠[]) (ht:gq s=none):N9 s0=none:=by
 unfold fB at h
 rw[h,tB hs ht];rfl
theorem eO (r:List UInt8) (h:n<256^k):Ny k (Nh n k++r) 0=(n,r,0):=by rw[xL,Nat.mod_eq_of_lt h]
theorem Da (l:List (Int×Int)) (h:iC l) (r:List UInt8) (k:Nat) (hk:k<=l.length):NX k (aV l++r) 0=(l.take k,aV (l.drop k)++r,0):=by
 induction k with
 |zero=>simp[NX]
 |succ k ih=>
  have Ns:k<l.length:=by omega
  obtain⟨a1,a2,b1,b2⟩:=h.2 k Ns
  have e1:l.drop k=l[k]::l.drop (k+1):=List.drop_eq_getElem_cons Ns
  have e2:aV (l.drop k)++r=Nh l[k].1.toNat 2++(Nh l[k].2.toNat 2++(aV (l.drop (k+1))++r)):=by
   rw[e1];unfold aV;rw[List.map_cons,List.flatten_cons];simp only[Mi]
  rw[NX,ih (by omega)]
  simp only
  rw[e2,eO _ (by omega)]
  simp only
  rw[eO _ (by omega)]
  simp only
  rw[Mf Ns,Int.toNat_of_nonneg a1,Int.toNat_of_nonneg b1]
theorem BJ {r:ag} (h:az r=true):(Qa r.kind=false->r.id=0)/\(Ob r.kind=false->r.name=[])/\(NH r.kind=false->r.size=0/\r.runs=[]):=by
 unfold az aA at h
 simp only[MJ,Bool.or_eq_true,decide_eq_true_eq,beq_iff_eq]at h
 obtain⟨h1,h2,h3,h4,h5,h6,h7⟩:=h
 refine⟨fun e=>?_,fun e=>?_,fun e=>?_⟩
 .rw[e]at h2
  have:=of_decide_eq_false h2.symm
  omega
 .rw[e]at h4
  cases hn:r.name with
  |nil=>rfl
  |cons a t=>rw[hn]at h4;cases h4
 .rcases h6 with h6|⟨h6,h8⟩
  .rw[e]at h6;cases h6
  .exact⟨h6,List.isEmpty_iff.1 h8⟩
theorem Fj {r:ag} (h:az r=true) (hf:r.fits) (rest:List UInt8):je (bk r++rest)=some (r,rest):=by
 have ok:=j7 h hf
 obtain⟨p1,p2,p3⟩:=BJ h
 obtain⟨k1,k6,i0,i1,nm,s0,s1,rf⟩:=ok
 have hk:PP (bk r++rest)=(r.kind.toNat,(if Qa r.kind then Nh r.id.toNat 4 else[])++((if Ob r.kind then dF r.name else[])++((if NH r.kind then Nh r.size.toNat 4++fP r.runs else[])++rest)),0):=by
  unfold PP bk
  rw[Mi,eO _ (by omega)]
  simp only[Mi]
 have ek:(((r.kind.toNat:Nat)):Int)=r.kind:=by omega
 have hi:iR (bk r++rest)=(r.id.toNat,(if Ob r.kind then dF r.name else[])++((if NH r.kind then Nh r.size.toNat 4++fP r.runs else[])++rest),0):=by
  unfold iR
  rw[hk]
  simp only[ek]
  unfold tY
  cases hI:Qa r.kind
  .have:=p1 hI
   simp[this]
  .simp only[if_true]
   rw[eO _ (by omega)]
 have ht:tR (bk r++rest)=(r.name,(if NH r.kind then Nh r.size.toNat 4++fP r.runs else[])++rest,0):=by
  unfold tR
  rw[hk,hi]
  simp only[ek]
  unfold vO
  cases hN:Ob r.kind
  .have:=p2 hN
   simp[this]
  .simp only[if_true]
   rw[CW _ _ (by omega)]
 have hz:zR (bk r++rest)=(r.size.toNat,(if NH r.kind then fP r.runs else[])++rest,0):=by
  unfold zR
  rw[hk,ht]
  simp only[ek]
  unfold xf
  cases hB:NH r.kind
  .have:=(p3 hB).1
   simp[this]
  .simp only[if_true,Mi]
   rw[eO _ (by omega)]
 have hn:nR (bk r++rest)=(r.runs.length,aV r.runs++rest,0):=by
  unfold nR
  rw[hk,hz]
  simp only[ek]
  unfold yh
  cases hB:NH r.kind
  .have:=(p3 hB).2
   simp[this,aV]
  .simp only[if_true]
   unfold fP
   rw[Mi,eO _ (by have:=rf.1;omega)]
 have Pn:eL (nR (bk r++rest)).1 (bk r++rest)=(r,rest,0):=by
  unfold eL
  rw[hn,hk,hi,ht,hz]
  simp only
  rw[Da r.runs rf rest _ (Md _)]
  have e1:((r.kind.toNat:Nat):Int)=r.kind:=ek
  have e2:((r.id.toNat:Nat):Int)=r.id:=by omega
  have e3:((r.size.toNat:Nat):Int)=r.size:=by omega
  simp[e1,e2,e3,aV]
 rw[Fi (by rw[Pn]) (by rw[Pn];exact h),Pn]
theorem Dh (l:List ag) (h:∀r∈l,az r=true/\r.fits) (rest:List UInt8) (k:Nat) (hk:k<=l.length):eC k ((l.map bk).flatten++rest)=some (l.take k,((l.drop k).map bk).flatten++rest):=by
 induction k with
 |zero=>simp[eC]
 |succ k ih=>
  have Ns:k<l.length:=by omega
  obtain⟨h1,h2⟩:=h _ (Mh Ns)
  have e1:l.drop k=l[k]::l.drop (k+1):=List.drop_eq_getElem_cons Ns
  have e2:((l.drop k).map bk).flatten++rest=bk l[k]++(((l.drop (k+1)).map bk).flatten++rest):=by
   rw[e1,List.map_cons,List.flatten_cons,Mi]
  rw[tA (ih (by omega)) (by rw[e2];exact Fj h1 h2 _),Mf Ns]
theorem En (l:List ag) (h:∀r∈l,az r=true/\r.fits) (h1:1<=l.length) (h2:l.length<=8192):fF (bO l)=some l:=by
 have e:Ny 2 (bO l) 0=(l.length,(l.map bk).flatten,0):=by
  unfold bO
  rw[eO _ (by omega)]
 have hr:=Dh l h [] l.length (Md _)
 simp only[Nc,MC,List.drop_length,List.map_nil,List.flatten_nil]at hr
 exact wz (by rw[e];exact h1) (by rw[e];exact h2) (by rw[e];exact hr)
theorem qN {l:List ag} (h:∀r∈l,jF r):(bO l).length<=2+200*l.length:=by
 have:=sg h
 unfold bO
 rw[Mc,aq];omega
theorem H6 (l:List ag) (h:∀r∈l,az r=true/\r.fits) (h1:1<=l.length) (h2:l.length<=8192) (rest:List UInt8):gq (iL l++rest)=some (l,rest):=by
 have hb:=qN (l:=l) (fun r hr=>j7 (h r hr).1 (h r hr).2)
 have ha:aR (iL l++rest)=((bO l).length,Nh (Qh (bO l)) 4++(bO l++rest),0):=by
  unfold aR iL
  rw[Mi,eO _ (by omega),Mi]
 have hc:cR (iL l++rest)=(Qh (bO l),bO l++rest,0):=by
  unfold cR
  rw[ha]
  simp only
  rw[eO _ (uj _)]
 have ht:bR (iL l++rest)=(bO l,rest,0):=by
  unfold bR
  rw[ha,hc]
  simp only
  exact pI _ _ _ rfl
 have:=uI (s:=iL l++rest) (o:=l) (by rw[ht];exact En l h h1 h2) (by rw[ht]) (by rw[ht,hc])
 rw[this,ht]
theorem JJ (l:List ag) (rest:List UInt8):iL l++rest≠[]:=by
 intro e
 have:=congrArg List.length e
 unfold iL at this
 rw[Mc,Mc,aq]at this
 simp at this
theorem vC (ls:List (List ag)) (h:∀l∈ls,(∀r∈l,az r=true/\r.fits)/\1<=l.length/\l.length<=8192):N9 (ls.map iL).flatten=some ls:=by
 induction ls with
 |nil=>rfl
 |cons a t ih=>
  obtain⟨h1,h2,h3⟩:=h a Mg
  rw[List.map_cons,List.flatten_cons,kG (JJ _ _) (H6 a h1 h2 h3 _),ih (fun l hl=>h l (MP _ hl))]
  rfl
end Go.Proofs.YtdkimcnlhmhpgaaGreat
