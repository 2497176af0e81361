/- -/
import Derived.Test.YtdkimcnlhmhpgaaGreatK27
set_option maxHeartbeats 16000000
set_option maxRecDepth 100000
namespace Go.Proofs.YtdkimcnlhmhpgaaGreat
open Go.RowKit
variable {S:Nat->Prop} {c:aj} {C:Int} {v:Value} {w:World} {l o:List ag} {k:Nat} {A:Prop} {s t:List UInt8} {r:ag}
theorem jD {L:aj×Int} {w':World} (h:L=(c,C)) (h1:aw S w' v c) (k:aa [] w w'):cE S L w (.returned (.tuple #[v,.int .i64 C])) w':=by
 subst h;exact⟨v,rfl,h1,k⟩
theorem qK (S:Nat->Prop) (w:World):aw S w (.agg #[.int .u32 0,.int .u32 0,.slice none 0 0,.slice none 0 0,.slice none 0 0]) oT:=⟨_,_,_,rfl,ax.nil _ _,ax.nil _ _,ax.nil _ _,by decide,by decide⟩
theorem Fh (h:k<l.length) (hm:az (l[k]'h)=false):b9 c (l.drop k)=(oT,1):=by
 rw[List.drop_eq_getElem_cons h,b9,if_neg (by rw[hm];decide)]
theorem Dg (h:k<l.length) (hm:az (l[k]'h)=true) (hC:(bE c (l[k]'h)).2=C) (h0:¬C=0):b9 c (l.drop k)=(oT,C):=by
 rw[List.drop_eq_getElem_cons h,b9,if_pos hm,if_neg (by rw[hC];exact h0),hC]
theorem Fg (h:k<l.length) (hm:az (l[k]'h)=true) (hC:(bE c (l[k]'h)).2=0):b9 c (l.drop k)=b9 (bE c (l[k]'h)).1 (l.drop (k+1)):=by
 rw[List.drop_eq_getElem_cons h,b9,if_pos hm,if_pos hC]
theorem aw.fI {T:Nat->Prop} (h:aw S w v c) (hST:∀x,T x->S x):aw T w v c:=by
 obtain⟨a,b,d,e,h1,h2,h3,h4⟩:=h
 exact⟨a,b,d,e,h1.weaken hST,h2.weaken hST,h3.weaken hST,h4⟩
structure Jp (S0:Nat->Prop) (w:World) (l:List ag) (R:aj×Int) (k:Nat) (cc:aj) (wr:World) (vb vm vn:Value):Prop where
 own:ae wr w.heap.size #[.int .u32 cc.nextBox,.int .u32 cc.nextMan,vb,vm,vn] 52
 res:ae wr (w.heap.size+1) #[.int .u32 0,.int .u32 0,.slice none 0 0,.slice none 0 0,.slice none 0 0] 52
 cat:aw (fun x=>S0 x\/(x=w.heap.size\/x=w.heap.size+1)) wr (.agg #[.int .u32 cc.nextBox,.int .u32 cc.nextMan,vb,vm,vn]) cc
 may:aM cc
 here:b9 cc (l.drop k)=R
 kept:aa [] w wr
theorem aw.parts {a b c d e:Value} {cc:aj} (h:aw S w (.agg #[a,b,c,d,e]) cc):a=.int .u32 cc.nextBox/\b=.int .u32 cc.nextMan/\iF c/\iF d/\iF e:=by
 obtain⟨x,y,z,e1,h1,h2,h3,_⟩:=h
 simp at e1
 obtain⟨rfl,rfl,rfl,rfl,rfl⟩:=e1
 obtain⟨p1,q1,r1⟩:=h1.plain.shape
 obtain⟨p2,q2,r2⟩:=h2.plain.shape
 obtain⟨p3,q3,r3⟩:=h3.plain.shape
 exact⟨rfl,rfl,⟨_,_,_,r1⟩,⟨_,_,_,r2⟩,⟨_,_,_,r3⟩⟩
theorem tf {S0:Nat->Prop} (v:Value) (c:aj) (vl:Value) (l:List ag) (lo hi:Nat) (w:World) (h:aw S0 w v c) (RF:∀x,S0 x->x<w.heap.size) (hc:iq c) (hr:cY w vl l lo hi) (VF:∀r∈l,∀a∈r.runs,aU a) (Po:∀r∈l,r.runs.length<=1000000):
  Calls Tryz.prog 45 #[v,vl] w (cE S0 (Nn c l) w):=by
 have PT:Hid (∀W,aa [] w W->Calls Tryz.prog 97 #[v] W (iE c W)):=Mb (fun W q=>CF v c W (h.plain.kept0 q) hc)
 have Qw:Hid (∀W,aa [] w W->aw (fun x=>S0 x\/(x=w.heap.size\/x=w.heap.size+1)) W v c):=Mb (fun W q=>by
  obtain⟨a,b,d,e,h1,h2,h3,h4⟩:=h
  exact aw.kept0 ⟨a,b,d,e,h1.more (fun x hx=>by omega),h2.more (fun x hx=>by omega),h3.more (fun x hx=>by omega),h4⟩ q)
 obtain⟨vb,vm,vn,rfl,hb,hm,hn,Pr,hwm⟩:=h
 obtain⟨p1,c1,rfl⟩:=hb.plain.shape
 obtain⟨p2,c2,rfl⟩:=hm.plain.shape
 obtain⟨p3,c3,rfl⟩:=hn.plain.shape
 obtain⟨pl,cl,rfl⟩:=aZ.shape hr
 have hL1:(l.length:Int)<=9223372036854775807:=by have:=aZ.len hr;unfold maxLen at this;omega
 have HR:=Mb hr
 have HWL:=Mb VF
 have HRL:=Mb Po
 have HS0:=Mb RF
 obtain⟨oA,oB⟩:=cQ w #[.int .u32 c.nextBox,.int .u32 c.nextMan,.slice p1 c.boxes.length c1,.slice p2 c.mans.length c2,.slice p3 c.names.length c3] #[.int .u32 0,.int .u32 0,.slice none 0 0,.slice none 0 0,.slice none 0 0] 52 52
 have k0:aa [] w ((w.alloc (.cells #[.int .u32 c.nextBox,.int .u32 c.nextMan,.slice p1 c.boxes.length c1,.slice p2 c.mans.length c2,.slice p3 c.names.length c3] 52)).alloc (.cells #[.int .u32 0,.int .u32 0,.slice none 0 0,.slice none 0 0,.slice none 0 0] 52)):=((aa.refl _ _).alloc _).alloc _
 have K0:=Mb k0
 have OA:=Mb oA
 have OB:=Mb oB
 obtain⟨x0,x1,x2,x3,x4⟩:=oA.k5
 clear hb hm hn Pr hwm hr VF Po RF oA oB k0 hc
 unfold iE at PT
 by_cases Pa:aM c
 .have Wu:lT c=0:=by unfold lT;rw[if_pos Pa]
  have Pq:Nn c l=b9 c l:=by unfold Nn;rw[if_pos Pa]
  rw[Pq]
  rw[Wu]at PT
  have HMC:=Mb Pa
  obtain⟨R,hR⟩:∃R,b9 c l=R:=⟨_,rfl⟩
  rw[hR]
  have YR:=Mb hR
  clear Wu Pq Pa hR
  go_enter Tryz.func45,Tryz.ntmps45
  go_wp2_with fail
  refine(PT.out _ K0.out).mono ?_;rintro e w2 ⟨rfl,k2⟩
  have K2:=Mb (K0.out.trans k2)
  have UA:=Mb (k2.own OA.out (by simp))
  have OB2:=Mb (k2.own OB.out (by simp))
  go_wp2_with fail
  go_loopw [17] (fun i wr=>∃k cc vb vm vn,k<=l.length/\i=.int .i64 (k:Nat)/\Jp S0 w l R k cc wr vb vm vn) (fun i _=>l.length-(intOf i).toNat)
  case atStart=>exact⟨0,c,_,_,_,Mu _,rfl,⟨UA.out,OB2.out,Qw.out _ K2.out,HMC.out,by rw[List.drop_zero];exact YR.out,K2.out⟩⟩
  case round=>
   obtain⟨k,cc,vb,vm,vn,hk,rfl,hA⟩:=hrel
   have HA:=Mb hA
   obtain⟨_,_,⟨pb,nb,cb,rfl⟩,⟨pm,nm,cm,rfl⟩,⟨pn,nn,cn,rfl⟩⟩:=aw.parts hA.cat
   obtain⟨x0,x1,x2,x3,x4⟩:=hA.own.k5
   obtain⟨y0,y1,y2,y3,y4⟩:=hA.res.k5
   obtain⟨f0,f1,f2,f3,f4⟩:=hA.own.y5
   obtain⟨g0,g1,g2,g3,g4⟩:=hA.res.y5
   by_cases Ns:k<l.length
   .obtain⟨b,off,kv,rfl,r0,r1,r2,r3,r4,NT,N4,WM,hbh,hih⟩:=cY.at_ (HR.out.kept0 hA.kept) k Ns
    obtain⟨pr,cr,rfl⟩:=NT.shape
    have NU:Hid (k<l.length):=Ns
    have i1:(k:Int)<l.length:=by omega
    have Ti:=HWL.out _ (Mh Ns)
    have OQ:=HRL.out _ (Mh Ns)
    have SN:=fun hm=>Fh (c:=cc) Ns hm
    have RU:=fun hm C hC h0=>Dg (c:=cc) Ns hm (C:=C) hC h0
    have S5:=fun hm hC=>Fg (c:=cc) Ns hm hC
    rw[hA.here]at SN RU S5
    have abn:az (l[k]'Ns)=true->0<=(l[k]'Ns).id:=fun _=>(bP N4.2.1).1
    generalize hrk:l[k]'Ns=rk at*
    have Pk:=Mb SN
    have QG:=Mb RU
    have Ql:=Mb S5
    have HID:=Mb abn
    have hjc:=fun W (q:aa [] wr W)=>tV rk (.slice pr rk.runs.length cr) lo hi W (NT.kept0 q) OQ N4
    have HJC:=Mb hjc
    have Pq:Hid (∀W,aa [] wr W->az rk=true->Calls Tryz.prog 99 #[.agg #[.int .u32 cc.nextBox,.int .u32 cc.nextMan,.slice pb nb cb,.slice pm nm cm,.slice pn nn cn],.agg (rk.cells (.slice pr rk.runs.length cr))] W (cE (fun x=>S0 x\/(x=w.heap.size\/x=w.heap.size+1)) (bE cc rk) W)):=Mb (fun W q hm=>
     Ju _ cc rk _ W (HA.out.cat.kept0 q) (fun x hx=>by
      have O4:=q.size
      have h2:=HA.out.res.lt
      rcases hx with hx|hx
      .have:=HS0.out x hx;have:=HA.out.kept.size;omega
      .omega) HA.out.may (NT.kept0 q).jK N4 Ti hm)
    unfold db at HJC
    unfold cE at Pq
    unfold ag.cells at HJC Pq
    clear SN RU S5 abn hjc NT N4 Ti OQ hA WM hbh hih Ns hrk
    have oR:=ae.new wr #[.int .i64 rk.kind,.int .u32 rk.id,.string (bs rk.name),.int .i64 rk.size,.slice pr rk.runs.length cr] 102
    have kR:aa [] wr (wr.alloc (.cells #[.int .i64 rk.kind,.int .u32 rk.id,.string (bs rk.name),.int .i64 rk.size,.slice pr rk.runs.length cr] 102)):=(aa.refl _ _).alloc _
    have OR:=Mb oR
    have KR:=Mb kR
    clear oR kR
    obtain⟨M,hM⟩:∃M,az rk=M:=⟨_,rfl⟩
    rw[hM]at Pk QG Ql HID Pq HJC
    have HMM:=Mb hM
    clear hM
    cases M with
    |false=>
     have HE:=Mb (Pk.out rfl)
     go_wp2_with fail
     refine(HJC.out _ KR.out).mono ?_;rintro e w3 ⟨rfl,k3⟩
     have K3:=Mb (HA.out.kept.trans (KR.out.trans k3))
     have O3:=Mb (k3.own (HA.out.res.alloc (.cells #[.int .i64 rk.kind,.int .u32 rk.id,.string (bs rk.name),.int .i64 rk.size,.slice pr rk.runs.length cr] 102)) (by simp))
     obtain⟨y0,y1,y2,y3,y4⟩:=O3.out.k5
     obtain⟨g0,g1,g2,g3,g4⟩:=O3.out.y5
     go_wp2_with fail
     refine Mx (v:=.tuple #[.agg #[.int .u32 0,.int .u32 0,.slice none 0 0,.slice none 0 0,.slice none 0 0],.int .i64 1]) (ak Tryz.results45 rfl rfl (t:=52) ?_ Tryz.underlying52 rfl (by kernel_rfl)) rfl ?_
     .exact O3.out.de _ _ _ _ _
     .exact jD HE.out (qK _ _) (aa.bj K3.out (Or.inr (Nat.le_succ _)) _ _ _ _ _)
    |true=>
     obtain⟨⟨N,C⟩,hN⟩:∃N,bE cc rk=N:=⟨_,rfl⟩
     rw[hN]at Pq QG Ql
     simp only at Pq QG Ql
     have SY:Hid (C=0->aM N):=Mb (fun hC=>by
      have h1:=Ao HA.out.may HMM.out (HID.out rfl) (by rw[hN];exact hC)
      rw[hN]at h1;exact h1)
     clear hN
     go_wp2_with fail
     refine(HJC.out _ KR.out).mono ?_;rintro e w3 ⟨rfl,k3⟩
     have KR3:=Mb (KR.out.trans k3)
     have TS:=Mb (k3.own OR.out (by simp))
     have OC3:=Mb (KR3.out.own HA.out.own (by simp))
     have Z3:=Mb (KR3.out.own HA.out.res (by simp))
     obtain⟨x0,x1,x2,x3,x4⟩:=OC3.out.k5
     obtain⟨r0,r1,r2,r3,r4⟩:=TS.out.k5
     go_wp2_with fail
     refine(Pq.out _ KR3.out (by simp)).mono ?_;rintro e w4 ⟨cv,rfl,YP,k4⟩
     obtain⟨vb4,vm4,vn4,rfl,hx1,Vz,hx3,hx4,hx5⟩:=YP
     have N5:aw (fun x=>S0 x\/(x=w.heap.size\/x=w.heap.size+1)) w4 (.agg #[.int .u32 N.nextBox,.int .u32 N.nextMan,vb4,vm4,vn4]) N:=⟨vb4,vm4,vn4,rfl,hx1,Vz,hx3,hx4,hx5⟩
     obtain⟨_,_,⟨pb4,nb4,cb4,rfl⟩,⟨pm4,nm4,cm4,rfl⟩,⟨pn4,nn4,cn4,rfl⟩⟩:=aw.parts N5
     have ab4:=Mb N5
     have K4:=Mb (HA.out.kept.trans (KR3.out.trans k4))
     have T5:=Mb ((k4.own OC3.out (by simp)).alloc (.cells #[.int .u32 N.nextBox,.int .u32 N.nextMan,.slice pb4 nb4 cb4,.slice pm4 nm4 cm4,.slice pn4 nn4 cn4] 52))
     have OB4:=Mb ((k4.own Z3.out (by simp)).alloc (.cells #[.int .u32 N.nextBox,.int .u32 N.nextMan,.slice pb4 nb4 cb4,.slice pm4 nm4 cm4,.slice pn4 nn4 cn4] 52))
     have ON4:=Mb (ae.new w4 #[.int .u32 N.nextBox,.int .u32 N.nextMan,.slice pb4 nb4 cb4,.slice pm4 nm4 cm4,.slice pn4 nn4 cn4] 52)
     obtain⟨x0,x1,x2,x3,x4⟩:=T5.out.k5
     obtain⟨f0,f1,f2,f3,f4⟩:=T5.out.y5
     obtain⟨y0,y1,y2,y3,y4⟩:=OB4.out.k5
     obtain⟨g0,g1,g2,g3,g4⟩:=OB4.out.y5
     obtain⟨n0,n1,n2,n3,n4⟩:=ON4.out.k5
     clear hx1 Vz hx3 hx4 hx5 N5
     by_cases hC:C=0
     .subst hC
      have TH:=Mb (Ql.out (by simp) rfl)
      have HM2:=Mb (SY.out rfl)
      go_wp2_with fail
      go_roundw
      case rel=>
       have hkT:aa [w.heap.size] w4 ((((((w4.alloc (.cells #[.int .u32 N.nextBox,.int .u32 N.nextMan,.slice pb4 nb4 cb4,.slice pm4 nm4 cm4,.slice pn4 nn4 cn4] 52)).setCell ⟨w.heap.size,0,none⟩ (.int .u32 N.nextBox)).setCell ⟨w.heap.size,1,none⟩ (.int .u32 N.nextMan)).setCell ⟨w.heap.size,2,none⟩ (.slice pb4 nb4 cb4)).setCell ⟨w.heap.size,3,none⟩ (.slice pm4 nm4 cm4)).setCell ⟨w.heap.size,4,none⟩ (.slice pn4 nn4 cn4)):=aa.bj ((aa.refl _ _).alloc _) (Or.inl (by simp)) _ _ _ _ _
       refine⟨k+1,N,_,_,_,NU.out,by go_num,⟨T5.out.de _ _ _ _ _,?_,ab4.out.cf hkT (fun x hx=>Or.inr (Or.inl (by simpa using hx))),HM2.out,TH.out.symm,aa.bj (K4.out.alloc _) (Or.inr (Md _)) _ _ _ _ _⟩⟩
       exact((((OB4.out.other (p:=⟨w.heap.size,0,none⟩) (Nat.succ_ne_self _) _).other (p:=⟨w.heap.size,1,none⟩) (Nat.succ_ne_self _) _).other (p:=⟨w.heap.size,2,none⟩) (Nat.succ_ne_self _) _).other (p:=⟨w.heap.size,3,none⟩) (Nat.succ_ne_self _) _).other (p:=⟨w.heap.size,4,none⟩) (Nat.succ_ne_self _) _
      case measure=>(have hh:=NU.out;simp[intOf];omega)
     .have HE:=Mb (QG.out (by simp) C rfl hC)
      go_wp2_with fail
      refine Mx (v:=.tuple #[.agg #[.int .u32 0,.int .u32 0,.slice none 0 0,.slice none 0 0,.slice none 0 0],.int .i64 C]) (ak Tryz.results45 rfl rfl (t:=52) ?_ Tryz.underlying52 rfl (by kernel_rfl)) rfl ?_
      .exact OB4.out.de _ _ _ _ _
      .exact jD HE.out (qK _ _) (aa.bj (K4.out.alloc _) (Or.inr (Nat.le_succ _)) _ _ _ _ _)
   .obtain rfl:k=l.length:=by omega
    have PN:R=(cc,0):=by
     have:=hA.here
     rw[List.drop_length]at this
     exact this.symm
    have HE:=Mb PN
    have i1:¬(l.length:Int)<l.length:=by omega
    clear hA PN
    go_wp2_with fail
    have hkT:aa [w.heap.size+1] wr (((((wr.setCell ⟨w.heap.size+1,0,none⟩ (.int .u32 cc.nextBox)).setCell ⟨w.heap.size+1,1,none⟩ (.int .u32 cc.nextMan)).setCell ⟨w.heap.size+1,2,none⟩ (.slice pb nb cb)).setCell ⟨w.heap.size+1,3,none⟩ (.slice pm nm cm)).setCell ⟨w.heap.size+1,4,none⟩ (.slice pn nn cn)):=aa.bj (aa.refl _ _) (Or.inl (by simp)) _ _ _ _ _
    have aaK:=HA.out.cat.cf hkT (fun x hx=>Or.inr (Or.inr (by simpa using hx)))
    have abO:aw S0 _ _ cc:=aw.fI aaK (fun x hx=>Or.inl hx)
    refine Mx (v:=.tuple #[.agg #[.int .u32 cc.nextBox,.int .u32 cc.nextMan,.slice pb nb cb,.slice pm nm cm,.slice pn nn cn],.int .i64 0]) (ak Tryz.results45 rfl rfl (t:=52) ?_ Tryz.underlying52 rfl (by kernel_rfl)) rfl ?_
    .exact HA.out.res.de _ _ _ _ _
    .exact jD HE.out abO (aa.bj HA.out.kept (Or.inr (Nat.le_succ _)) _ _ _ _ _)
 .have Wu:lT c=110:=by unfold lT;rw[if_neg Pa]
  have Pq:Nn c l=(oT,110):=by unfold Nn;rw[if_neg Pa]
  rw[Wu]at PT
  have HE:=Mb Pq
  clear Wu Pq Pa
  go_enter Tryz.func45,Tryz.ntmps45
  go_wp2_with fail
  refine(PT.out _ K0.out).mono ?_;rintro e w2 ⟨rfl,k2⟩
  have K2:=Mb (K0.out.trans k2)
  have OB2:=Mb (k2.own OB.out (by simp))
  obtain⟨y0,y1,y2,y3,y4⟩:=OB2.out.k5
  obtain⟨g0,g1,g2,g3,g4⟩:=OB2.out.y5
  go_wp2_with fail
  refine Mx (v:=.tuple #[.agg #[.int .u32 0,.int .u32 0,.slice none 0 0,.slice none 0 0,.slice none 0 0],.int .i64 110]) (ak Tryz.results45 rfl rfl (t:=52) ?_ Tryz.underlying52 rfl (by kernel_rfl)) rfl ?_
  .exact OB2.out.de _ _ _ _ _
  .exact jD HE.out (qK _ _) (aa.bj K2.out (Or.inr (Nat.le_succ _)) _ _ _ _ _)
theorem vY (n:Int) (l:List UInt8) (x:Int):(NS n l x).2.1.length<=l.length:=by
 unfold NS
 split
 .exact Md _
 .split
  .exact Mu _
  .split
   .exact Mu _
   .simp
theorem ig (k:Nat) (l:List UInt8) (x:Int):(Ny k l x).2.1.length<=l.length:=vY _ _ _
theorem xX (m:Nat) (l:List UInt8) (x:Int):(OO m l x).2.1.length<=l.length:=by
 unfold OO
 simp only
 split
 .exact Mu _
 .exact ig _ _ _
theorem DY (l:List UInt8) (x:Int):(gk l x).2.1.length<=l.length:=by
 unfold gk
 exact MA (vY _ _ _) (xX _ _ _)
theorem AH (k:Int) (l:List UInt8) (x:Int):(tY k l x).2.1.length<=l.length:=by
 unfold tY;split
 .exact ig _ _ _
 .exact Md _
theorem AG (k:Int) (l:List UInt8) (x:Int):(vO k l x).2.1.length<=l.length:=by
 unfold vO;split
 .exact DY _ _
 .exact Md _
theorem AF (k:Int) (l:List UInt8) (x:Int):(xf k l x).2.1.length<=l.length:=by
 unfold xf;split
 .exact ig _ _ _
 .exact Md _
theorem AI (k:Int) (l:List UInt8) (x:Int):(yh k l x).2.1.length<=l.length:=by
 unfold yh;split
 .exact ig _ _ _
 .exact Md _
theorem vZ (n:Nat) (l:List UInt8) (x:Int):(NX n l x).2.1.length<=l.length:=by
 induction n with
 |zero=>exact Md _
 |succ n ih=>
  rw[NX]
  exact MA (ig _ _ _) (MA (ig _ _ _) ih)
theorem M54 (h:A:=by
 by_cases hx:(NS ((OO 65536 (iR s).2.1 (iR s).2.2).1:Int) (OO 65536 (iR s).2.1 (iR s).2.2).2.1 (OO 65536 (iR s).2.1 (iR s).2.2).2.2).2.2=0
 .exact hx
 .exact absurd (by rw[eT,eT2];exact nN hx) hn):A:=h
theorem M52 {A:Prop}(h:A:=by
 have hi:(iR s).1≠0:=by
  have:=of_decide_eq_true m2.symm
  omega
 have eI:iR s=Ny 4 (PP s).2.1 (PP s).2.2:=by unfold iR tY;rw[m1];rfl
 rw[eI]at hi
 have:=(jj (lJ hi)).2
 rw[<-eI]at this
 omega):A:=h
theorem DZ (h:je s=some (r,t)):az r=true/\t.length+2<=s.length:=by
 unfold je at h
 split at h
 .rename_i hh
  injection h with h
  injection h with h1 h2
  subst h1 h2
  refine⟨hh.2,?_⟩
  have hk:=sG hh.2
  have hm:=hh.2
  have l5:(eL (nR s).1 s).2.1.length<=(nR s).2.1.length:=vZ _ _ _
  have l4:(nR s).2.1.length<=(zR s).2.1.length:=AI _ _ _
  have l3:(zR s).2.1.length<=(tR s).2.1.length:=AF _ _ _
  have l2:(tR s).2.1.length<=(iR s).2.1.length:=AG _ _ _
  have l1:(iR s).2.1.length<=(PP s).2.1.length:=AH _ _ _
  have ek:(eL (nR s).1 s).1.kind=((PP s).1:Int):=rfl
  have ei:(eL (nR s).1 s).1.id=((iR s).1:Int):=rfl
  have en:(eL (nR s).1 s).1.name=(tR s).1:=rfl
  rw[ek]at hk
  have k0:(PP s).1≠0:=by omega
  have e0:=jj (lJ (k:=1) (l:=s) (x:=0) k0)
  have e0':(PP s).2.1.length+1=s.length:=e0.2
  unfold az aA at hm
  simp only[MJ,Bool.or_eq_true,decide_eq_true_eq,beq_iff_eq]at hm
  obtain⟨m1,m2,m3,m4,_⟩:=hm
  rw[ek,ei]at m2
  rw[ek,en]at m4
  rw[ek]at m1
  rcases m1 with m1|m1
  .rw[m1]at m2
   exact M52
  .rw[m1]at m4
   have hn:(tR s).1≠[]:=by
    intro e;rw[e]at m4;cases m4
   have eT:tR s=gk (iR s).2.1 (iR s).2.2:=by unfold tR vO;rw[m1];rfl
   have eT2:gk (iR s).2.1 (iR s).2.2=NS ((OO 65536 (iR s).2.1 (iR s).2.2).1:Int) (OO 65536 (iR s).2.1 (iR s).2.2).2.1 (OO 65536 (iR s).2.1 (iR s).2.2).2.2:=rfl
   have h0:(NS ((OO 65536 (iR s).2.1 (iR s).2.2).1:Int) (OO 65536 (iR s).2.1 (iR s).2.2).2.1 (OO 65536 (iR s).2.1 (iR s).2.2).2.2).2.2=0:=by
    exact M54
   obtain⟨q1,q2,q3⟩:=jL h0
   have q4:=congrArg List.length q3
   rw[Mc,<-eT2,<-eT]at q4
   have q5:=xX 65536 (iR s).2.1 (iR s).2.2
   have q6:0<(tR s).1.length:=MH.2 hn
   omega
 .cases h
theorem M87 {A:Prop}(h:A:=by
 rw[eC]at h
 injection h with h
 injection h with h1 h2
 subst h1 h2
 exact⟨fun r hr=>(by cases hr),by omega,rfl⟩):A:=h
theorem M63 (h:A:=by
 refine⟨fun r hr=>?_,by omega,by rw[Mc,i3];rfl⟩
 rcases Mj.1 hr with hr|hr
 .exact i1 r hr
 .have:r=x:=by simpa using hr
  subst this;exact j1):A:=h
theorem ub:∀(n:Nat) {s t:List UInt8} {o:List ag},eC n s=some (o,t)->(∀r∈o,az r=true)/\t.length+2*n<=s.length/\o.length=n
 |0,s,t,o,h=>by
  exact M87
 |n+1,s,t,o,h=>by
  rw[eC]at h
  split at h
  .cases h
  .rename_i o' r' he
   obtain⟨i1,i2,i3⟩:=ub n he
   split at h
   .cases h
   .rename_i x t' hx
    injection h with h
    injection h with h1 h2
    subst h1 h2
    obtain⟨j1,j2⟩:=DZ hx
    exact M63
theorem B5 (h:fF s=some o):(∀r∈o,az r=true)/\2*o.length<=s.length:=by
 unfold fF at h
 split at h
 .split at h
  .rename_i o' he
   injection h with h
   subst h
   obtain⟨i1,i2,i3⟩:=ub _ he
   have:=ig 2 s 0
   exact⟨i1,by omega⟩
  .cases h
 .cases h
theorem Gc (h:gq s=some (o,t)):(∀r∈o,az r=true)/\2*o.length<=s.length:=by
 unfold gq at h
 split at h
 .cases h
 .rename_i o' hb
  split at h
  .rename_i hc
   injection h with h
   injection h with h1 _
   subst h1
   obtain⟨i1,i2⟩:=B5 hb
   have:=(nE hc.1).2
   exact⟨i1,by omega⟩
  .cases h
theorem ue:∀(f:Nat) {s:List UInt8} {ls:List (List ag)},fC f s=some ls->∀l∈ls,(∀r∈l,az r=true)/\2*l.length<=s.length
 |0,s,ls,h=>by
  rw[fC]at h
  split at h
  .injection h with h;subst h;intro l hl;cases hl
  .cases h
 |f+1,s,ls,h=>by
  rw[fC]at h
  split at h
  .injection h with h;subst h;intro l hl;cases hl
  .cases ht:gq s with
   |none=>rw[ht]at h;cases h
   |some p=>
    rw[ht]at h
    simp only[Option.bind_some]at h
    cases hr:fC f p.2 with
    |none=>rw[hr]at h;cases h
    |some ms=>
     rw[hr]at h
     simp only[Option.map_some]at h
     injection h with h
     subst h
     intro l hl
     have adV:=nM (s:=s) (r:=p.2) (o:=p.1) ht
     rcases List.mem_cons.1 hl with rfl|hl
     .exact Gc (t:=p.2) ht
     .obtain⟨i1,i2⟩:=ue f hr l hl
      exact⟨i1,by omega⟩
theorem uc {ls:List (List ag)} (h:N9 s=some ls):∀l∈ls,(∀r∈l,az r=true)/\2*l.length<=s.length:=ue _ h
theorem DF (h:az r=true) (hf:r.fits):∀a∈r.runs,aU a:=by
 intro a ha
 obtain⟨k,hk,rfl⟩:=MO.1 ha
 have:=(j7 h hf).rf.2 k hk
 unfold aU
 omega
end Go.Proofs.YtdkimcnlhmhpgaaGreat
