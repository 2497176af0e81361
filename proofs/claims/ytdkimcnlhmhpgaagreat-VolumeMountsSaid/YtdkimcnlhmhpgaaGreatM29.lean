/- -/
import Derived.Test.YtdkimcnlhmhpgaaGreatM28
set_option maxHeartbeats 32000000
set_option maxRecDepth 100000
namespace Go.Proofs.YtdkimcnlhmhpgaaGreat
open Go.Proofs.Tryz Go.RowKit
variable {w w':World} {S:Nat->Prop} {C:Int} {v:Value} {A:Prop} {c:au} {l o:List ag} {k:Nat} {s t:List UInt8} {r:ag}
theorem eC (base:Nat) (v:Value) (n:Nat) (xs:List Value) (Ot:w.ownsRow base 128 2 v n xs) (u:Value) (l:List (Int×Int)) (lo hi:Nat) (P4:af w u l lo hi)
  (h63:n+l.length<=maxLen) (Qs:(n+l.length)*16<=140737488355328) (Rk:base<=w.heap.size):
  ∃v' w',(Builtin.append_ #[56,56] 56 #[v,u]).run prog w=.ok v' w'/\w'.ownsRow base 128 2 v' (n+l.length) (xs++NW l)/\w.grownBy w' v.ownBlock:=by
 obtain⟨i0,q0,q1,q2,q3⟩:=eV
 obtain⟨p,c,rfl⟩:=P4.shape
 cases p with
 |none=>
  have WU:l=[]:=by
   rcases P4 with⟨h,_⟩|⟨b,off,c',e,_⟩
   .exact h
   .simp at e
  subst WU
  have Oe:=gM (P:=prog) (w:=w) base 56 56 128 i0 2 underlying56 q0 v n c xs Ot
  exact⟨v,w,Oe,by simpa[NW]using Ot,jh _ _⟩
 |some ad=>
  have Ou:∀j u,(NW l)[j]? =some u->w.cell? (ad.add j)=some u:=by
   rcases P4 with⟨rfl,_⟩|⟨b,off,c',e,h2⟩
   .intro j u hj;simp[NW]at hj
   .simp at e
    exact M30
  have⟨v',w',h1,h2,h3,_,_⟩:=run_append_own_at (P:=prog) w base 56 56 128 i0 _ 2 16 underlying56 q0 q1 q2 q3 rfl _d v n xs Ot ad l.length c (NW l) (dm l) Ou (kH l) h63 Qs Rk
  exact⟨v',w',h1,h2,h3⟩
def jm (S:Nat->Prop) (l:List NS) (L:List NS×Int) (w:World) (e:Ending) (w':World):Prop:=
 ∃v,e=.returned (.tuple #[v,L.2])/\aq S w' v (if L.2=0 then L.1 else l)/\NP [] w w'
theorem eu {l m:List NS} {L:List NS×Int} (h:L=(m,C)) (h1:aq S w' v (if C=0 then m else l)) (k:NP [] w w'):jm S l L w (.returned (.tuple #[v,C])) w':=by
 subst h;exact⟨v,rfl,h1,k⟩
theorem M47 {A:Prop}(h:A:=by
 go_wp2_with fail
 refine(HA.out _ HK.out).mono ?_;rintro e w3 ⟨rfl,k3⟩
 have K3:=tK (HK.out.trans k3)
 have⟨y0,y1,y2,y3,y4⟩:=(k3.own HR.out _b).k5
 have⟨x0,x1,x2,x3⟩:=(k3.own HX.out _b).c4
 clear k3
 go_wp2_with fail
 go_ret2
 exact eu HE1.out i! K3.out):A:=h
theorem M15 (h:A:=by
 go_wp2_with fail
 refine(HA.out _ HK.out).mono ?_;rintro e w3 ⟨rfl,k3⟩
 have K3:=tK (HK.out.trans k3)
 have KX3:=tK k3
 have⟨y0,y1,y2,y3,y4⟩:=(k3.own HR.out _b).k5
 have⟨x0,x1,x2,x3⟩:=(k3.own HX.out _b).c4
 clear k3
 go_wp2_with fail
 refine(HI.out _ _ l _ K3.out (HH.out.kept0 K3.out) _a ⟨ZW.out.1.kept0 KX3.out,ZW.out.2⟩).mono ?_;rintro e w4 ⟨v4,rfl,h4,k4⟩
 have H4:=tK h4
 have K4:=tK (K3.out.trans k4)
 obtain⟨p4,c4,rfl⟩:=h4.plain.shape
 clear h4 k4
 go_wp2_with fail
 go_ret2
 exact eu (Ub.out _) (by rw[if_pos rfl];exact H4.out) K4.out):A:=h
theorem M14 {A:Prop}(h:A:=by
 go_wp2_with fail
 refine(HA.out _ HK.out).mono ?_;rintro e w3 ⟨rfl,k3⟩
 have K3:=tK (HK.out.trans k3)
 have⟨y0,y1,y2,y3,y4⟩:=(k3.own HR.out _b).k5
 have⟨x0,x1,x2,x3⟩:=(k3.own HX.out _b).c4
 clear k3
 go_wp2_with fail
 go_ret2
 exact eu (Ub.out _) i! K3.out):A:=h
theorem wY (v:Value) (l:List NS) (r:ag) (rv:Value) (next:Int) (most:Nat) (w:World) (h:aq S w v l) (hS:∀x,S x->x<w.heap.size) (hl:l.length<=90000) (hr:cG l) (Qh:af w rv r.runs 0 w) (hf:r.fits) (Pj:∀a∈r.runs,aQ a) (P3:r.runs.length<=1000000) (hmo:most<=1000000) (hk:r.kind=1\/r.kind=2\/r.kind=3) (XT:r.kind=3->next=0):
  am! 258 #[v,.agg (r.cells rv),(next,()),(most:Int)] w (jm S l (Oc l r.item next most (decide (r.kind=2))) w):=by
 have HA:Hid (∀W,NP [] w W->am! 216 #[v,(r.id,()),r.name] W (fY l r.item W)):=tK (fun W q=>L0 v l r.item W (h.plain.kept0 q) _a)
 have Vi:Hid (∀W u,W.ownsRow w 128 2 u r.runs.length (NW r.runs)->bd W (r.item,u)/\bD S u r.runs.length):=tK (fun W u ho=>⟨⟨(af.bB ho).upto,ag.jW hf,Pj⟩,bD.row ho hS _⟩)
 have HW:Hid (∀W (i:Nat),NP [] w W->i<l.length->am! 288 #[v,(i:Int)] W (fp S (dI l i) W)):=tK (fun W i q hi=>wT v l i W (h.kept0 q) (fun x hx=>MR (hS x hx) q.size) hi _a)
 have HI:Hid (∀W u m v',NP [] w W->aq S W v' m->m.length<=100000->bd W (r.item,u)/\bD S u r.runs.length->am! 287 #[v',.agg (r.item.cells u)] W (fp S (Qm m r.item) W)):=tK (fun W u m v' q hm Xd hx=>KU v' m r.item u W hm (fun x hx=>MR (hS x hx) q.size) hx Xd)
 have⟨HH,HRS⟩:=_f h hr
 obtain⟨pv,cv,rfl⟩:=h.plain.shape
 obtain⟨TQ,crr,rfl⟩:=Qh.shape
 obtain⟨W1,hW1⟩:∃W1,W1=w.alloc (.cells (r.cells (TQ,r.runs.length,crr)) 102):=⟨_,rfl⟩
 have oR:ae W1 w (r.cells (TQ,r.runs.length,crr)) 102:=_U
 have k0:NP [] w W1:=_H
 unfold ag.cells at oR hW1 ⊢
 unfold NS.cells at HI
 have er1:r.item.id=r.id:=rfl
 have er2:r.item.name=r.name:=rfl
 have er3:r.item.size=r.size:=rfl
 rw[er1,er2,er3]at HI
 have⟨OR,K0⟩:=_f oR k0
 have Uc:Hid (∀W,NP [] w W->af W (TQ,r.runs.length,crr) r.runs 0 w):=tK (fun W q=>Qh.kept0 q)
 have Tc:Hid (w.heap.size<=W1.heap.size/\w.heap.size<W1.heap.size):=tK ⟨k0.size,oR.lt⟩
 have XV:=tK P3
 have j1:(l.length:Int)<=90000:=_a
 have j2:(most:Int)<=1000000:=_a
 have⟨Qv,XY⟩:=_f hk XT
 have acm:Hid (0<=r.id):=tK (eG hf.2.1).1
 clear oR k0 h Qh hf Pj hr er1 er2 er3 hS P3 hmo hl hk XT
 unfold fY at HA
 unfold fp at HW HI
 go_enter func258,ntmps258
 go_upto_region 1 with fail
 rw[<-hW1]
 clear hW1
 go_cut [10]from 12 to 22 (fun v10 wx=>∃xb u,v10=.pointer (some ⟨xb,0,none⟩)/\ae wx xb #[(r.id,()),r.name,r.size,u] 113/\(bd wx (r.item,u)/\bD S u r.runs.length)/\ae wx w #[r.kind,(r.id,()),r.name,r.size,(TQ,r.runs.length,crr)] 102/\NP [] w wx/\w.heap.size<=xb)
 case first=>
  refine MK (S:=(fun W=>W.cell? w=r.kind/\W.cell? (aa w 1)=(r.id,())/\W.cell? (aa w 2)=r.name/\W.cell? (aa w 3)=r.size/\W.cell? (aa w 4)=(TQ,r.runs.length,crr))) _c ac! (fun hHeld=>?_)
  refine tS ?_
  refine wpAnyH_ready (rs:=[6,11]) _c _b ?_
  refine(AllReadyH.cons rfl (fun K hK=>?_) (AllReadyH.cons rfl (fun K hK=>?_) AllReadyH.nil))
  .go_simp
   refine hK.out _ _ ?_ (fun hHeld=>nM ?_)
   .exact(OR.out.drew.alloc _).k5
   clear hK K
   refine wpAnyH_ready (rs:=[9,11]) _c _b ?_
   refine(AllReadyH.cons rfl (fun K hK=>?_) (AllReadyH.cons rfl (fun K hK=>?_) AllReadyH.nil))
   .skip
    have⟨v5,w5,PZ,OG,hgr5⟩:=eC w _ 0 [] (bJ W1.drew w 128 2 Tc.out.1) (TQ,r.runs.length,crr) r.runs 0 w (Uc.out _ ((K0.out.drew).alloc (.cells #[] 128))) j! (by have:=XV.out;omega) ((K0.out.drew).alloc (.cells #[] 128)).size
    rw[Nat.zero_add,NI]at OG
    have K5:=tK (((K0.out.drew).alloc (.cells #[] 128)).grown hgr5 (fun q hq=>Or.inr (ML (bJ W1.drew w 128 2 Tc.out.1) q hq).1))
    have KT5:=tK ((NP.refl [W1.heap.size] _).grown hgr5 (fun q hq=>Or.inl _C))
    have O5:=tK (KT5.out.own ((OR.out.drew).alloc (.cells #[] 128)) _F)
    have⟨Si,Ru⟩:=_f OG PZ
    obtain⟨p5,c5,rfl⟩:=ah OG
    refine aO rfl _ _ 56 56 rfl _ _ _g _g Ru.out ?_
    refine hK.out _ _ ?_ (fun hHeld=>nM ?_)
    .exact O5.out.k5
    clear hK K
    clear PZ OG hgr5
    try simp only[List.getElem_toArray,Nt,List.getElem_cons_zero,List.set_cons_zero,List.set_cons_succ]
    refine tS ?_
    refine rD 11 (fun K hK=>?_)
    go_simp
    refine hK.out _ _ ?_ (fun hHeld=>nM ?_)
    .exact(O5.out.alloc _).k5
    clear hK K
    refine rD 12 (fun K hK=>?_)
    go_simp
    refine hK.out _ _ ?_ (fun hHeld=>nM ?_)
    .exact(O5.out.alloc _).k5
    clear hK K
    refine Ng _c ?_ _
    go_wp2_with fail
    go_meet
    exact⟨_,_,rfl,ae.new _ _ _,⟨(Vi.out _ _ Si.out).1.kept0 ((NP.refl _ _).alloc _),(Vi.out _ _ Si.out).2⟩,O5.out.alloc _,K5.out.alloc _,K5.out.size⟩
   .go_simp
    refine hK.out _ _ ?_ (fun hHeld=>nM ?_)
    .exact((OR.out.drew.alloc _).alloc _).k5
    clear hK K
    have⟨v5,w5,PZ,OG,hgr5⟩:=eC w _ 0 [] (MH (bJ W1.drew w 128 2 Tc.out.1) (.cells #[.int .u32 0,.string {data:=#[]},(0:Int),()] 113)) (TQ,r.runs.length,crr) r.runs 0 w (Uc.out _ ((((K0.out.drew).alloc (.cells #[] 128)).alloc (.cells #[.int .u32 0,.string {data:=#[]},(0:Int),()] 113)))) j! (by have:=XV.out;omega) ((((K0.out.drew).alloc (.cells #[] 128)).alloc (.cells #[.int .u32 0,.string {data:=#[]},(0:Int),()] 113))).size
    rw[Nat.zero_add,NI]at OG
    have K5:=tK (((((K0.out.drew).alloc (.cells #[] 128)).alloc (.cells #[.int .u32 0,.string {data:=#[]},(0:Int),()] 113))).grown hgr5 (fun q hq=>Or.inr (ML (MH (bJ W1.drew w 128 2 Tc.out.1) (.cells #[.int .u32 0,.string {data:=#[]},(0:Int),()] 113)) q hq).1))
    have KT5:=tK ((NP.refl [W1.heap.size] _).grown hgr5 (fun q hq=>Or.inl _C))
    have O5:=tK (KT5.out.own ((((OR.out.drew).alloc (.cells #[] 128)).alloc (.cells #[.int .u32 0,.string {data:=#[]},(0:Int),()] 113))) _F)
    have⟨Si,Ru⟩:=_f OG PZ
    obtain⟨p5,c5,rfl⟩:=ah OG
    refine rD 9 (fun K hK=>?_)
    refine aO rfl _ _ 56 56 rfl _ _ _g _g Ru.out ?_
    refine hK.out _ _ ?_ (fun hHeld=>nM ?_)
    .exact O5.out.k5
    clear hK K
    clear PZ OG hgr5
    try simp only[List.getElem_toArray,Nt,List.getElem_cons_zero,List.set_cons_zero,List.set_cons_succ]
    have UP:=KT5.out.own (ae.new ((W1.drew).alloc (.cells #[] 128)) #[.int .u32 0,.string {data:=#[]},(0:Int),()] 113) _b
    simp only[Nd,World.size_drew]at UP
    have Zc:=tK UP
    have⟨z0,z1,z2,z3⟩:=UP.c4
    have⟨y0,y1,y2,y3⟩:=UP.z4
    have S6:Hid (w.heap.size≠W1.heap.size+1/\w.heap.size<=W1.heap.size+1):=tK (by have:=Tc.out;omega)
    refine tS ?_
    refine rD 12 (fun K hK=>?_)
    go_simp
    refine hK.out _ _ ?_ (fun hHeld=>nM ?_)
    .exact(O5.out.jV S6.out.1 _ _ _ _).k5
    clear hK K
    refine Ng _c ?_ _
    go_wp2_with fail
    go_meet
    exact⟨_,_,rfl,Zc.out.fU _ _ _ _,Vi.out _ _ (bI Si.out ((NP.refl [W1.heap.size+1] w5).fU (Or.inl _b) _ _ _ _) Zc.out _d),O5.out.jV S6.out.1 _ _ _ _,K5.out.fU (Or.inr S6.out.2) _ _ _ _,S6.out.2⟩
  .go_simp
   refine hK.out _ _ ?_ (fun hHeld=>nM ?_)
   .exact(OR.out.drew.alloc _).k5
   clear hK K
   refine rD 6 (fun K hK=>?_)
   go_simp
   refine hK.out _ _ ?_ (fun hHeld=>nM ?_)
   .exact((OR.out.drew.alloc _).alloc _).k5
   clear hK K
   have⟨v5,w5,PZ,OG,hgr5⟩:=eC w _ 0 [] (bJ ((W1.drew).alloc (.cells #[.int .u32 0,.string {data:=#[]},(0:Int),()] 113)) w 128 2 _F) (TQ,r.runs.length,crr) r.runs 0 w (Uc.out _ ((((K0.out.drew).alloc (.cells #[.int .u32 0,.string {data:=#[]},(0:Int),()] 113)).alloc (.cells #[] 128)))) j! (by have:=XV.out;omega) ((((K0.out.drew).alloc (.cells #[.int .u32 0,.string {data:=#[]},(0:Int),()] 113)).alloc (.cells #[] 128))).size
   rw[Nat.zero_add,NI]at OG
   have K5:=tK (((((K0.out.drew).alloc (.cells #[.int .u32 0,.string {data:=#[]},(0:Int),()] 113)).alloc (.cells #[] 128))).grown hgr5 (fun q hq=>Or.inr (ML (bJ ((W1.drew).alloc (.cells #[.int .u32 0,.string {data:=#[]},(0:Int),()] 113)) w 128 2 _F) q hq).1))
   have KT5:=tK ((NP.refl [W1.heap.size+1] _).grown hgr5 (fun q hq=>Or.inl _C))
   have O5:=tK (KT5.out.own ((((OR.out.drew).alloc (.cells #[.int .u32 0,.string {data:=#[]},(0:Int),()] 113)).alloc (.cells #[] 128))) _F)
   have⟨Si,Ru⟩:=_f OG PZ
   obtain⟨p5,c5,rfl⟩:=ah OG
   refine rD 9 (fun K hK=>?_)
   refine aO rfl _ _ 56 56 rfl _ _ _g _g Ru.out ?_
   refine hK.out _ _ ?_ (fun hHeld=>nM ?_)
   .exact O5.out.k5
   clear hK K
   clear PZ OG hgr5
   try simp only[List.getElem_toArray,Nt,List.getElem_cons_zero,List.set_cons_zero,List.set_cons_succ]
   have UP:=KT5.out.own ((ae.new (W1.drew) #[.int .u32 0,.string {data:=#[]},(0:Int),()] 113).alloc (.cells #[] 128)) _b
   simp only[World.size_drew]at UP
   have Zc:=tK UP
   have⟨z0,z1,z2,z3⟩:=UP.c4
   have⟨y0,y1,y2,y3⟩:=UP.z4
   have S6:Hid (w.heap.size≠W1.heap.size/\w.heap.size<=W1.heap.size):=tK (by have:=Tc.out;omega)
   refine tS ?_
   refine rD 12 (fun K hK=>?_)
   go_simp
   refine hK.out _ _ ?_ (fun hHeld=>nM ?_)
   .exact(O5.out.jV S6.out.1 _ _ _ _).k5
   clear hK K
   refine Ng _c ?_ _
   go_wp2_with fail
   go_meet
   exact⟨_,_,rfl,Zc.out.fU _ _ _ _,Vi.out _ _ (bI Si.out ((NP.refl [W1.heap.size] w5).fU (Or.inl _b) _ _ _ _) Zc.out _d),O5.out.jV S6.out.1 _ _ _ _,K5.out.fU (Or.inr S6.out.2) _ _ _ _,S6.out.2⟩
 case rest=>
  obtain⟨xb,u,rfl,hX,hIO,hR,hK,hxb⟩:=hcut
  have⟨HX,ZW,HR,HK⟩:=gh! hX hIO hR hK
  obtain⟨pu,nu,cu,rfl⟩:fP u:=hIO.1.fz
  clear hX hIO hR hK hxb
  have⟨x0,x1,x2,x3⟩:=HX.out.c4
  have⟨y0,y1,y2,y3,y4⟩:=HR.out.k5
  obtain⟨AT,hAT⟩:∃a,qX l r.item=a:=⟨_,rfl⟩
  rw[hAT]at HA
  obtain⟨kd,id,nm,sz,rr⟩:=r
  simp only[ag.item]at HA HI HX HR ZW Qv XY acm x0 x1 x2 y0 y1 y2 y3 y4 hAT ⊢
  by_cases hh:di l ⟨id,nm,sz,rr⟩
  .have Rm:AT=(PJ l ⟨id,nm,sz,rr⟩:Int):=by rw[<-hAT];unfold qX;exact if_pos hh
   have hii:PJ l ⟨id,nm,sz,rr⟩<l.length:=hh
   have abb:Hid (∀m,m=dI l (PJ l ⟨id,nm,sz,rr⟩)->m.length<=100000/\Qm m ⟨id,nm,sz,rr⟩=gL l (PJ l ⟨id,nm,sz,rr⟩) ⟨id,nm,sz,rr⟩):=tK (fun m hm=>by
    subst hm
    exact⟨by have:=nS hii;omega,Iq HRS.out hii (iW hh)⟩)
   have ZK:Hid (Oc l ⟨id,nm,sz,rr⟩ next most true=(gL l (PJ l ⟨id,nm,sz,rr⟩) ⟨id,nm,sz,rr⟩,0)):=tK (by unfold Oc;rw[if_pos ⟨hh,rfl⟩])
   have HE1:Hid (Oc l ⟨id,nm,sz,rr⟩ next most false=([],252)):=tK (by unfold Oc;rw[if_neg _b,if_pos (Or.inl hh)])
   have HII:=tK hii
   obtain⟨ii,hie⟩:∃i,i=PJ l ⟨id,nm,sz,rr⟩:=⟨_,rfl⟩
   rw[<-hie]at Rm abb ZK HII
   subst Rm
   clear hh hii hAT hie
   have g0:decide ((ii:Int)≥0)=true:=_b
   have g0':decide ((0:Int)<=ii)=true:=g0
   rcases Qv.out with rfl|rfl|rfl
   .clear Qv
    exact M47
   .clear Qv
    go_wp2_with fail
    refine(HA.out _ HK.out).mono ?_;rintro e w3 ⟨rfl,k3⟩
    have K3:=tK (HK.out.trans k3)
    have I3:=tK (And.intro (ZW.out.1.kept0 k3) ZW.out.2)
    have X3:=tK (k3.own HX.out _b)
    have⟨y0,y1,y2,y3,y4⟩:=(k3.own HR.out _b).k5
    clear k3
    go_wp2_with fail
    refine MK (S:=(fun W=>W.cell? xb=(id,())/\W.cell? (aa xb 1)=nm/\W.cell? (aa xb 2)=sz/\W.cell? (aa xb 3)=(pu,nu,cu))) _c (by exact X3.out.drew.c4) (fun hHeld=>?_)
    refine tS ?_
    refine rD 2 (fun K hK=>?_)
    go_simp
    ((with_reducible refine(HW.out _ ii K3.out.drew HII.out).mono ?_));rintro e w4 ⟨v4,rfl,h4,k4⟩
    have H4:=tK h4
    have K4:=tK (K3.out.drew.trans k4)
    have X4:=tK (k4.own X3.out.drew _b)
    have I4:=tK (And.intro ((I3.out.1.kept0 ((NP.refl _ _).drew)).kept0 k4) I3.out.2)
    obtain⟨p4,c4,rfl⟩:=h4.plain.shape
    clear h4 k4
    go_wp2_with fail
    refine hK.out _ _ ?_ (fun hHeld=>nM ?_)
    .exact X4.out.c4
    clear hK K
    refine rD 4 (fun K hK=>?_)
    go_simp
    ((with_reducible refine(HI.out _ _ (dI l ii) _ K4.out H4.out (abb.out _ rfl).1 I4.out).mono ?_));rintro e w5 ⟨v5,rfl,h5,k5⟩
    rw[(abb.out _ rfl).2]at h5
    have H5:=tK h5
    have K5:=tK (K4.out.trans k5)
    have X5:=tK (k5.own X4.out _b)
    obtain⟨p5,c5,rfl⟩:=h5.plain.shape
    clear h5 k5
    go_wp2_with fail
    refine hK.out _ _ ?_ (fun hHeld=>nM ?_)
    .exact X5.out.c4
    clear hK K
    refine tS ?_
    refine Ng _c ?_ _
    go_wp2_with fail
    go_ret2
    exact eu ZK.out (by rw[if_pos rfl];exact H5.out) K5.out
   .clear Qv
    exact M47
  .have Rm:AT= -1:=by rw[<-hAT];unfold qX;exact if_neg hh
   subst Rm
   have hx:∀t,Oc l ⟨id,nm,sz,rr⟩ next most t=if id<next then([],252)else if most<=l.length then([],240)else(Qm l ⟨id,nm,sz,rr⟩,0):=fun t=>by
    unfold Oc
    rw[if_neg (fun h=>hh h.1)]
    by_cases g:id<next
    .rw[if_pos (Or.inr g),if_pos g]
    .rw[if_neg (fun h=>h.elim hh g),if_neg g]
   have HX0:=tK hx
   clear hx hh hAT
   have g0:decide ((-1:Int)≥0)=false:=_b
   have g0':decide ((0:Int)<= -1)=false:=g0
   by_cases g1:id<next
   .have Ub:Hid (∀t,Oc l ⟨id,nm,sz,rr⟩ next most t=([],252)):=tK (fun t=>by rw[HX0.out,if_pos g1])
    have g2:decide (id<next)=true:=MV g1
    rcases Qv.out with rfl|rfl|rfl
    .clear Qv g1
     exact M14
    .clear Qv g1
     exact M14
    .exact absurd (XY.out rfl) (by have:=acm.out;omega)
   .have g2:decide (id<next)=false:=MS g1
    by_cases g3:most<=l.length
    .have Ub:Hid (∀t,Oc l ⟨id,nm,sz,rr⟩ next most t=([],240)):=tK (fun t=>by rw[HX0.out,if_neg g1,if_pos g3])
     have g4:decide ((l.length:Int)≥most)=true:=_e
     have g4':decide ((most:Int)<=l.length)=true:=g4
     have g4n:decide (most<=l.length)=true:=MV g3
     rcases Qv.out with rfl|rfl|rfl
     .clear Qv g1 g3
      exact M14
     .clear Qv g1 g3
      exact M14
     .clear Qv g1 g3
      exact M14
    .have Ub:Hid (∀t,Oc l ⟨id,nm,sz,rr⟩ next most t=(Qm l ⟨id,nm,sz,rr⟩,0)):=tK (fun t=>by rw[HX0.out,if_neg g1,if_neg g3])
     have g4:decide ((l.length:Int)≥most)=false:=_e
     have g4':decide ((most:Int)<=l.length)=false:=g4
     have g4n:decide (most<=l.length)=false:=MS g3
     rcases Qv.out with rfl|rfl|rfl
     .clear Qv g1 g3
      exact M15
     .clear Qv g1 g3
      exact M15
     .clear Qv g1 g3
      exact M15
theorem yZ (x:VC) (w:World):am! 95 #[.agg #[x.kind,(x.id,()),x.name,x.bytes]] w fun e w'=>e=.returned (.agg #[x.kind,(x.id,()),x.name,(0:Int),()])/\NP [] w w':=by
 go_enter func95,ntmps95
 go_wp2_with fail
 obtain⟨k,i,n,s⟩:=x
 simp only
 refine MN (v:=.agg #[k,(i,()),n,(0:Int),()]) (iu results95 rfl (t:=102) ?_ underlying102 rfl _c) rfl ⟨rfl,?_⟩
 .first
   |exact(ch w _ _ _ _).2
 .first
   |exact((NP.refl _ _).alloc _).alloc _
theorem DR {u:Value} (h:dJ w u c):∀a∈OK c,aQ a:=by
 obtain⟨vb,vm,vn,rfl,hb,hm,hn,_⟩:=h
 have key:∀{u:Value} {l:List NS},aU w u l->∀x∈l,∀a∈x.runs,aQ a:=by
  intro u l h x hx
  obtain⟨vs,rfl,_,h3⟩:=h
  obtain⟨y,hy,rfl⟩:=ND.1 hx
  exact(h3 y hy).2.2
 intro a ha
 unfold OK Ov at ha
 have⟨l,hl,hal⟩:=List.mem_flatten.1 ha
 obtain⟨r,hr,rfl⟩:=ND.1 hl
 simp only[Na,ND]at hr
 rcases hr with(⟨x,hx,rfl⟩|⟨x,hx,rfl⟩)|⟨x,hx,rfl⟩
 .exact key hb x hx a hal
 .exact key hm x hx a hal
 .exact key hn x hx a hal
theorem qg {s:SB} (h:s.may):∀a∈s.runs,aQ a:=by
 intro a ha
 obtain⟨k,hk,rfl⟩:=Nr.1 ha
 have h1:=fJ (MG _) h.2.1 k hk
 have h2:=dN.1 h1
 have h3:=h.1
 unfold SB.dD at h3
 unfold aQ
 omega
theorem Gw {T:List Nat} {B b sb mb lo:Nat} {v:VS} (hV:aL T w B b sb mb lo v) (hm:v.s.may) (hc:OL v.c) (hf:v.c.boxes.length+v.c.mans.length+v.c.names.length<=5000):
  am! 56 #[B] w (bh (Oh v) w):=by
 have⟨sv,vb,vm,vn,o,hr,Oz⟩:=hV.vol
 obtain⟨⟨PU,PC,Oe⟩,_⟩:=hr
 have P3:=l7 hc
 have S2:=hm.1
 have Zi:=qg hm
 have YP:=DR Oz.plain
 have Yx:Hid (∀W,NP [] w W->am! 115 #[.agg #[(v.c.nextBox,()),(v.c.nextMan,()),vb,vm,vn]] W (bh (OK v.c) W)):=tK (fun W k=>vV _ v.c W (Oz.plain.kept0 k) hf _a)
 have HB:=tK hV.bH
 have HO:Hid (∀W,NP [] w W->ae W B (bL b v.s sv v.c vb vm vn v.dead) 90):=tK (fun W k=>k.own o _b)
 have Sa:Hid (∀W,NP [] w W->af W sv v.s.runs PU PC):=tK (fun W k=>Oe.kept0 k)
 unfold SB.dD at S2
 have HMI:Hid (∀W va loa hia vb2 lob Rr,af W va [(2+v.s.journal,v.s.sectors-(2+v.s.journal))] loa hia->af W vb2 (OK v.c++v.s.runs) lob Rr->am! 96 #[va,vb2] W (bh (Oh v) W)):=tK (fun W va loa hia vb2 lob Rr h1 h2=>BT va _ loa hia vb2 _ lob Rr W h1 h2 _b ab! (fun a ha=>by
   obtain rfl:=Nm.1 ha
   unfold aQ;simp only;omega) (fun a ha=>by
   rcases Na.1 ha with ha|ha
   .exact YP a ha
   .exact Zi a ha))
 have Tu:(OK v.c).length<=80000:=_a
 have Tn:v.s.runs.length<=16:=_a
 have j1:1<=v.s.journal:=_a
 have j2:v.s.journal<=v.s.sectors-2:=_a
 have j3:v.s.sectors<=8192:=_a
 have⟨Yc,YR⟩:=_f Tu Tn
 obtain⟨p1,c1,rfl⟩:=Oe.shape
 obtain⟨d,s,c,dead⟩:=v
 obtain⟨sq,se,jr,us,sz,rs⟩:=s
 simp only at*
 obtain⟨fr,hfr⟩:∃fr,fr=2+jr:=⟨_,rfl⟩
 obtain⟨ln,hln⟩:∃ln,ln=se-fr:=⟨_,rfl⟩
 generalize OK c=RC at*
 generalize Oh _=RX at*
 have⟨x0,x1,x2,x3,x4,x5,x6,x7,x8,x9,x10,x11,x12⟩:=o.ku
 clear hV hm hc hf Oz Oe P3 S2 Zi YP Tu Tn
 go_enter func56,ntmps56
 clear x0 x1 x4 x5 x12
 have Ow:Hid (∀W,NP [] w W->W.cell? (aa B 2)=se/\W.cell? (aa B 6)=(p1,rs.length,c1)/\W.cell? (aa B 7)=(c.nextBox,())/\W.cell? (aa B 8)=(c.nextMan,())/\W.cell? (aa B 9)=some (vb)/\W.cell? (aa B 10)=some (vm)/\W.cell? (aa B 11)=some (vn)):=tK (fun W k=>by
  have⟨_,_,a2,_,_,_,a6,a7,a8,a9,a10,a11,_⟩:=(HO.out W k).ku
  exact⟨a2,a6,a7,a8,a9,a10,a11⟩)
 clear o
 go_upto_region 2 with fail
 refine MK (S:=(fun W=>W.cell? (aa B 2)=se/\W.cell? (aa B 6)=(p1,rs.length,c1)/\W.cell? (aa B 7)=(c.nextBox,())/\W.cell? (aa B 8)=(c.nextMan,())/\W.cell? (aa B 9)=some (vb)/\W.cell? (aa B 10)=some (vm)/\W.cell? (aa B 11)=some (vn))) _c (by exact Ow.out _ ((NP.refl [] w).drew)) (fun hHeld=>?_)
 refine tS ?_
 refine rD 4 (fun K hK=>?_)
 go_simp
 ((with_reducible refine(Yx.out _ ((NP.refl [] w).drew)).mono ?_));rintro e w2 ⟨u,rfl,Ot,k2⟩
 have kk:=((NP.refl [] w).drew).trans k2
 have Vu:w2.ownsRow w 128 2 u RC.length (NW RC):=aF Ot _b
 have⟨K2,Yq⟩:=_f kk Vu
 obtain⟨pu,cu,rfl⟩:=ah Ot
 clear Ot kk k2 Vu
 go_wp2_with fail
 refine hK.out _ _ (Ow.out _ K2.out) (fun hHeld=>nM ?_)
 clear hK K
 have⟨v5,w5,PZ,OG,hgr5⟩:=eC w _ RC.length (NW RC) Yq.out (p1,rs.length,c1) rs PU PC (Sa.out _ K2.out) _N o! K2.out.size
 have K5:=tK (K2.out.grown hgr5 (fun q hq=>Or.inr (ML Yq.out q hq).1))
 obtain⟨p5,c5,rfl⟩:=ah OG
 have TP:w5.ownsRow w 128 2 (p5,RC.length+rs.length,c5) (RC++rs).length (NW (RC++rs)):=by rw[tN,show NW (RC++rs)=NW RC++NW rs from by simp[NW]];exact OG
 have⟨Si,Ru⟩:=_f TP PZ
 clear PZ OG hgr5 TP
 refine rD 10 (fun K hK=>?_)
 refine aO rfl _ _ 56 56 rfl _ _ _g _g Ru.out ?_
 refine hK.out _ _ (Ow.out _ K5.out) (fun hHeld=>nM ?_)
 clear hK K
 refine tS ?_
 refine Ng _c ?_ _
 try simp only[List.set_cons_succ,List.set_cons_zero]
 have⟨a2,_⟩:=Ow.out _ K5.out
 go_wp2_with fail
 with_reducible refine(HMI.out _ _ w5 (w5.heap.size+1) _ _ _ (uD w5 (2+jr) (se-(2+jr))) (af.bB (MH Si.out _))).mono ?_
 rintro e w6 ⟨u6,rfl,hown6,k6⟩
 have K6:=tK ((K5.out.alloc (.cells #[(2+jr:Int),(se-(2+jr):Int)] 128)).trans k6)
 have aa5:=tK (aF hown6 (K5.out.alloc (.cells #[(2+jr:Int),(se-(2+jr):Int)] 128)).size)
 obtain⟨p6,c6,rfl⟩:=ah hown6
 clear hown6 k6
 go_wp2_with fail
 go_ret
 exact⟨_,rfl,aa5.out,K6.out⟩
theorem fl {L:au×Int} (h:L=(c,C)) (h1:av S w' v c) (k:NP [] w w'):dC S L w (.returned (.tuple #[v,C])) w':=by
 subst h;exact⟨v,rfl,h1,k⟩
theorem jY (S:Nat->Prop) (w:World):av S w (.agg #[.int .u32 0,.int .u32 0,(),(),()]) jR:=⟨_,_,_,rfl,aq.nil _ _,aq.nil _ _,aq.nil _ _,_d,_d⟩
theorem wO (h:k<l.length) (hm:az (l[k]'h)=false):cH c (l.drop k)=(jR,1):=by
 rw[List.drop_eq_getElem_cons h,cH,if_neg (by rw[hm];decide)]
theorem uJ (h:k<l.length) (hm:az (l[k]'h)=true) {C:Int} (hC:(aW c (l[k]'h)).2=C) (h0:¬C=0):cH c (l.drop k)=(jR,C):=by
 rw[List.drop_eq_getElem_cons h,cH,if_pos hm,if_neg (by rw[hC];exact h0),hC]
theorem wN (h:k<l.length) (hm:az (l[k]'h)=true) (hC:(aW c (l[k]'h)).2=0):cH c (l.drop k)=cH (aW c (l[k]'h)).1 (l.drop (k+1)):=by
 rw[List.drop_eq_getElem_cons h,cH,if_pos hm,if_pos hC]
theorem av.cI {T:Nat->Prop} (h:av S w v c) (hST:∀x,T x->S x):av T w v c:=by
 obtain⟨a,b,d,e,h1,h2,h3,h4⟩:=h
 exact⟨a,b,d,e,h1.weaken hST,h2.weaken hST,h3.weaken hST,h4⟩
structure Aa (S0:Nat->Prop) (w:World) (l:List ag) (R:au×Int) (k:Nat) (cc:au) (wr:World) (vb vm vn:Value):Prop where
 own:ae wr w #[(cc.nextBox,()),(cc.nextMan,()),vb,vm,vn] 52
 res:ae wr (w.heap.size+1) #[.int .u32 0,.int .u32 0,(),(),()] 52
 cat:av (fun x=>S0 x\/(x=w.heap.size\/x=w.heap.size+1)) wr (.agg #[(cc.nextBox,()),(cc.nextMan,()),vb,vm,vn]) cc
 may:OL cc
 here:cH cc (l.drop k)=R
 kept:NP [] w wr
theorem av.parts {a b c d e:Value} {cc:au} (h:av S w (.agg #[a,b,c,d,e]) cc):a=(cc.nextBox,())/\b=(cc.nextMan,())/\fP c/\fP d/\fP e:=by
 obtain⟨x,y,z,e1,h1,h2,h3,_⟩:=h
 simp at e1
 obtain⟨rfl,rfl,rfl,rfl,rfl⟩:=e1
 have⟨p1,q1,r1⟩:=h1.plain.shape
 have⟨p2,q2,r2⟩:=h2.plain.shape
 have⟨p3,q3,r3⟩:=h3.plain.shape
 exact⟨rfl,rfl,⟨_,_,_,r1⟩,⟨_,_,_,r2⟩,⟨_,_,_,r3⟩⟩
theorem sf {S0:Nat->Prop} (v:Value) (c:au) (vl:Value) (l:List ag) (lo hi:Nat) (w:World) (h:av S0 w v c) (Q6:∀x,S0 x->x<w.heap.size) (hc:ie c) (hr:bX w vl l lo hi) (WH:∀r∈l,∀a∈r.runs,aQ a) (P3:∀r∈l,r.runs.length<=1000000):
  am! 45 #[v,vl] w (dC S0 (N8 c l) w):=by
 have Tq:Hid (∀W,NP [] w W->am! 97 #[v] W (iC c W)):=tK (fun W q=>BQ v c W (h.plain.kept0 q) hc)
 have QK:Hid (∀W,NP [] w W->av (fun x=>S0 x\/(x=w.heap.size\/x=w.heap.size+1)) W v c):=tK (fun W q=>by
  obtain⟨a,b,d,e,h1,h2,h3,h4⟩:=h
  exact av.kept0 ⟨a,b,d,e,h1.more (fun x hx=>by omega),h2.more (fun x hx=>by omega),h3.more (fun x hx=>by omega),h4⟩ q)
 obtain⟨vb,vm,vn,rfl,hb,hm,hn,Rp,Te⟩:=h
 obtain⟨p1,c1,rfl⟩:=hb.plain.shape
 obtain⟨p2,c2,rfl⟩:=hm.plain.shape
 obtain⟨p3,c3,rfl⟩:=hn.plain.shape
 obtain⟨pl,cl,rfl⟩:=bS.shape hr
 have hL1:(l.length:Int)<=9223372036854775807:=by have:=bS.len hr;unfold maxLen at this;omega
 have⟨HR,HWL,XV,HS0⟩:=gh! hr WH P3 Q6
 have⟨oA,oB⟩:=ch w #[(c.nextBox,()),(c.nextMan,()),(p1,c.boxes.length,c1),(p2,c.mans.length,c2),(p3,c.names.length,c3)] #[.int .u32 0,.int .u32 0,(),(),()] 52 52
 have k0:NP [] w ((w.alloc (.cells #[(c.nextBox,()),(c.nextMan,()),(p1,c.boxes.length,c1),(p2,c.mans.length,c2),(p3,c.names.length,c3)] 52)).alloc (.cells #[.int .u32 0,.int .u32 0,(),(),()] 52)):=((NP.refl _ _).alloc _).alloc _
 have⟨K0,OA,OB⟩:=gg! k0 oA oB
 have⟨x0,x1,x2,x3,x4⟩:=oA.k5
 clear hb hm hn Rp Te hr WH P3 Q6 oA oB k0 hc
 unfold iC at Tq
 by_cases Pz:OL c
 .have Zg:lK c=0:=by unfold lK;rw[if_pos Pz]
  have Qf:N8 c l=cH c l:=by unfold N8;rw[if_pos Pz]
  rw[Qf]
  rw[Zg]at Tq
  have VT:=tK Pz
  obtain⟨R,hR⟩:∃R,cH c l=R:=⟨_,rfl⟩
  rw[hR]
  have Uc:=tK hR
  clear Zg Qf Pz hR
  go_enter func45,ntmps45
  go_wp2_with fail
  refine(Tq.out _ K0.out).mono ?_;rintro e w2 ⟨rfl,k2⟩
  have K2:=tK (K0.out.trans k2)
  have UW:=tK (k2.own OA.out _b)
  have XS:=tK (k2.own OB.out _b)
  go_wp2_with fail
  go_loopw [17] (fun i wr=>∃k cc vb vm vn,k<=l.length/\i=.int .i64 (k:Nat)/\Aa S0 w l R k cc wr vb vm vn) (fun i _=>l.length-(intOf i).toNat)
  case atStart=>exact⟨0,c,_,_,_,Nb _,rfl,⟨UW.out,XS.out,QK.out _ K2.out,VT.out,by rw[List.drop_zero];exact Uc.out,K2.out⟩⟩
  case round=>
   obtain⟨k,cc,vb,vm,vn,hk,rfl,hA⟩:=hrel
   have HA:=tK hA
   obtain⟨_,_,⟨pb,nb,cb,rfl⟩,⟨pm,nm,cm,rfl⟩,⟨pn,nn,cn,rfl⟩⟩:=av.parts hA.cat
   have⟨x0,x1,x2,x3,x4⟩:=hA.own.k5
   have⟨y0,y1,y2,y3,y4⟩:=hA.res.k5
   have⟨f0,f1,f2,f3,f4⟩:=hA.own.y5
   have⟨g0,g1,g2,g3,g4⟩:=hA.res.y5
   by_cases NV:k<l.length
   .obtain⟨b,off,kv,rfl,r0,r1,r2,r3,r4,Oe,Oq,US,hbh,hih⟩:=bX.at_ (HR.out.kept0 hA.kept) k NV
    obtain⟨pr,cr,rfl⟩:=Oe.shape
    have Of:Hid (k<l.length):=NV
    have i1:(k:Int)<l.length:=_a
    have Sr:=HWL.out _ (MJ NV)
    have Qh:=XV.out _ (MJ NV)
    have UI:=fun hm=>wO (c:=cc) NV hm
    have T4:=fun hm C hC h0=>uJ (c:=cc) NV hm (C:=C) hC h0
    have UE:=fun hm hC=>wN (c:=cc) NV hm hC
    rw[hA.here]at UI T4 UE
    have adl:az (l[k]'NV)=true->0<=(l[k]'NV).id:=fun _=>(eG Oq.2.1).1
    generalize hrk:l[k]'NV=rk at*
    have⟨Pk,RY,QH,HID⟩:=gh! UI T4 UE adl
    have hjc:=fun W (q:NP [] wr W)=>ta rk (pr,rk.runs.length,cr) lo hi W (Oe.kept0 q) Qh Oq
    have HJC:=tK hjc
    have Qf:Hid (∀W,NP [] wr W->az rk=true->am! 99 #[.agg #[(cc.nextBox,()),(cc.nextMan,()),(pb,nb,cb),(pm,nm,cm),(pn,nn,cn)],.agg (rk.cells (pr,rk.runs.length,cr))] W (dC (fun x=>S0 x\/(x=w.heap.size\/x=w.heap.size+1)) (aW cc rk) W)):=tK (fun W q hm=>
     IX _ cc rk _ W (HA.out.cat.kept0 q) (fun x hx=>by
      have PW:=q.size
      have h2:=HA.out.res.lt
      rcases hx with hx|hx
      .have:=HS0.out x hx;have:=HA.out.kept.size;omega
      .omega) HA.out.may (Oe.kept0 q).upto Oq Sr hm)
    unfold mZ at HJC
    unfold dC at Qf
    unfold ag.cells at HJC Qf
    clear UI T4 UE adl hjc Oe Oq Sr Qh hA US hbh hih NV hrk
    have oR:=ae.new wr #[rk.kind,(rk.id,()),rk.name,rk.size,(pr,rk.runs.length,cr)] 102
    have kR:NP [] wr (wr.alloc (.cells #[rk.kind,(rk.id,()),rk.name,rk.size,(pr,rk.runs.length,cr)] 102)):=(NP.refl _ _).alloc _
    have⟨OR,KR⟩:=_f oR kR
    clear oR kR
    obtain⟨M,hM⟩:∃M,az rk=M:=⟨_,rfl⟩
    rw[hM]at Pk RY QH HID Qf HJC
    have XX:=tK hM
    clear hM
    cases M with
    |false=>
     have HE:=tK (Pk.out rfl)
     go_wp2_with fail
     refine(HJC.out _ KR.out).mono ?_;rintro e w3 ⟨rfl,k3⟩
     have K3:=tK (HA.out.kept.trans (KR.out.trans k3))
     have O3:=tK (k3.own (HA.out.res.alloc (.cells #[rk.kind,(rk.id,()),rk.name,rk.size,(pr,rk.runs.length,cr)] 102)) _b)
     have⟨y0,y1,y2,y3,y4⟩:=O3.out.k5
     have⟨g0,g1,g2,g3,g4⟩:=O3.out.y5
     go_wp2_with fail
     refine MN (v:=.tuple #[.agg #[.int .u32 0,.int .u32 0,(),(),()],(1:Int)]) (aj results45 rfl rfl (t:=52) ?_ underlying52 rfl _c) rfl ?_
     .exact O3.out.aV _ _ _ _ _
     .exact fl HE.out (jY _ _) (NP.ay K3.out (Or.inr (Nat.le_succ _)) _ _ _ _ _)
    |true=>
     obtain⟨⟨N,C⟩,hN⟩:∃N,aW cc rk=N:=⟨_,rfl⟩
     rw[hN]at Qf RY QH
     simp only at Qf RY QH
     have RZ:Hid (C=0->OL N):=tK (fun hC=>by
      have h1:=tY HA.out.may XX.out (HID.out rfl) (by rw[hN];exact hC)
      rw[hN]at h1;exact h1)
     clear hN
     go_wp2_with fail
     refine(HJC.out _ KR.out).mono ?_;rintro e w3 ⟨rfl,k3⟩
     have KR3:=tK (KR.out.trans k3)
     have Uu:=tK (k3.own OR.out _b)
     have XJ:=tK (KR3.out.own HA.out.own _b)
     have Uk:=tK (KR3.out.own HA.out.res _b)
     have⟨x0,x1,x2,x3,x4⟩:=XJ.out.k5
     have⟨r0,r1,r2,r3,r4⟩:=Uu.out.k5
     go_wp2_with fail
     refine(Qf.out _ KR3.out _b).mono ?_;rintro e w4 ⟨cv,rfl,XL,k4⟩
     obtain⟨vb4,vm4,vn4,rfl,Wr,UT,hx3,YZ,hx5⟩:=XL
     have Oz:av (fun x=>S0 x\/(x=w.heap.size\/x=w.heap.size+1)) w4 (.agg #[(N.nextBox,()),(N.nextMan,()),vb4,vm4,vn4]) N:=⟨vb4,vm4,vn4,rfl,Wr,UT,hx3,YZ,hx5⟩
     obtain⟨_,_,⟨pb4,nb4,cb4,rfl⟩,⟨pm4,nm4,cm4,rfl⟩,⟨pn4,nn4,cn4,rfl⟩⟩:=av.parts Oz
     have T5:=tK Oz
     have K4:=tK (HA.out.kept.trans (KR3.out.trans k4))
     have Q5:=tK ((k4.own XJ.out _b).alloc (.cells #[(N.nextBox,()),(N.nextMan,()),(pb4,nb4,cb4),(pm4,nm4,cm4),(pn4,nn4,cn4)] 52))
     have UO:=tK ((k4.own Uk.out _b).alloc (.cells #[(N.nextBox,()),(N.nextMan,()),(pb4,nb4,cb4),(pm4,nm4,cm4),(pn4,nn4,cn4)] 52))
     have ON4:=tK (ae.new w4 #[(N.nextBox,()),(N.nextMan,()),(pb4,nb4,cb4),(pm4,nm4,cm4),(pn4,nn4,cn4)] 52)
     have⟨x0,x1,x2,x3,x4⟩:=Q5.out.k5
     have⟨f0,f1,f2,f3,f4⟩:=Q5.out.y5
     have⟨y0,y1,y2,y3,y4⟩:=UO.out.k5
     have⟨g0,g1,g2,g3,g4⟩:=UO.out.y5
     have⟨n0,n1,n2,n3,n4⟩:=ON4.out.k5
     clear Wr UT hx3 YZ hx5 Oz
     by_cases hC:C=0
     .subst hC
      have Xk:=tK (QH.out _b rfl)
      have Ul:=tK (RZ.out rfl)
      go_wp2_with fail
      go_roundw
      case rel=>
       have hkT:NP [w.heap.size] w4 ((((((w4.alloc (.cells #[(N.nextBox,()),(N.nextMan,()),(pb4,nb4,cb4),(pm4,nm4,cm4),(pn4,nn4,cn4)] 52)).setCell w (N.nextBox,())).setCell (aa w 1) (N.nextMan,())).setCell (aa w 2) (pb4,nb4,cb4)).setCell (aa w 3) (pm4,nm4,cm4)).setCell (aa w 4) (pn4,nn4,cn4)):=NP.ay ((NP.refl _ _).alloc _) (Or.inl _b) _ _ _ _ _
       refine⟨k+1,N,_,_,_,Of.out,_j,⟨Q5.out.aV _ _ _ _ _,?_,T5.out.aS hkT (fun x hx=>Or.inr (Or.inl _h)),Ul.out,Xk.out.symm,NP.ay (K4.out.alloc _) (Or.inr (MG _)) _ _ _ _ _⟩⟩
       exact((((UO.out.other (p:=w) (Nat.succ_ne_self _) _).other (p:=(aa w 1)) (Nat.succ_ne_self _) _).other (p:=(aa w 2)) (Nat.succ_ne_self _) _).other (p:=(aa w 3)) (Nat.succ_ne_self _) _).other (p:=(aa w 4)) (Nat.succ_ne_self _) _
      case measure=>(have hh:=Of.out;simp[intOf];omega)
     .have HE:=tK (RY.out _b C rfl hC)
      go_wp2_with fail
      refine MN (v:=.tuple #[.agg #[.int .u32 0,.int .u32 0,(),(),()],C]) (aj results45 rfl rfl (t:=52) ?_ underlying52 rfl _c) rfl ?_
      .exact UO.out.aV _ _ _ _ _
      .exact fl HE.out (jY _ _) (NP.ay (K4.out.alloc _) (Or.inr (Nat.le_succ _)) _ _ _ _ _)
   .obtain rfl:k=l.length:=_a
    have Ph:R=(cc,0):=by
     have:=hA.here
     rw[List.drop_length]at this
     exact this.symm
    have HE:=tK Ph
    have i1:¬(l.length:Int)<l.length:=_a
    clear hA Ph
    go_wp2_with fail
    have hkT:NP [w.heap.size+1] wr (((((wr.setCell (aa (w+1) 0) (cc.nextBox,())).setCell (aa (w+1) 1) (cc.nextMan,())).setCell (aa (w+1) 2) (pb,nb,cb)).setCell (aa (w+1) 3) (pm,nm,cm)).setCell (aa (w+1) 4) (pn,nn,cn)):=NP.ay (NP.refl _ _) (Or.inl _b) _ _ _ _ _
    have Ws:=HA.out.cat.aS hkT (fun x hx=>Or.inr (Or.inr _h))
    have Za:av S0 _ _ cc:=av.cI Ws (fun x hx=>Or.inl hx)
    refine MN (v:=.tuple #[.agg #[(cc.nextBox,()),(cc.nextMan,()),(pb,nb,cb),(pm,nm,cm),(pn,nn,cn)],(0:Int)]) (aj results45 rfl rfl (t:=52) ?_ underlying52 rfl _c) rfl ?_
    .exact HA.out.res.aV _ _ _ _ _
    .exact fl HE.out Za (NP.ay HA.out.kept (Or.inr (Nat.le_succ _)) _ _ _ _ _)
 .have Zg:lK c=110:=by unfold lK;rw[if_neg Pz]
  have Qf:N8 c l=(jR,110):=by unfold N8;rw[if_neg Pz]
  rw[Zg]at Tq
  have HE:=tK Qf
  clear Zg Qf Pz
  go_enter func45,ntmps45
  go_wp2_with fail
  refine(Tq.out _ K0.out).mono ?_;rintro e w2 ⟨rfl,k2⟩
  have K2:=tK (K0.out.trans k2)
  have XS:=tK (k2.own OB.out _b)
  have⟨y0,y1,y2,y3,y4⟩:=XS.out.k5
  have⟨g0,g1,g2,g3,g4⟩:=XS.out.y5
  go_wp2_with fail
  refine MN (v:=.tuple #[.agg #[.int .u32 0,.int .u32 0,(),(),()],(110:Int)]) (aj results45 rfl rfl (t:=52) ?_ underlying52 rfl _c) rfl ?_
  .exact XS.out.aV _ _ _ _ _
  .exact fl HE.out (jY _ _) (NP.ay K2.out (Or.inr (Nat.le_succ _)) _ _ _ _ _)
theorem vj (n:Int) (l:List UInt8) (x:Int):(Ol n l x).2.1.length<=l.length:=by
 unfold Ol
 split
 .exact MG _
 .split
  .exact Nb _
  .split
   .exact Nb _
   .simp
theorem gY (k:Nat) (l:List UInt8) (x:Int):(N6 k l x).2.1.length<=l.length:=vj _ _ _
theorem xI (m:Nat) (l:List UInt8) (x:Int):(PN m l x).2.1.length<=l.length:=by
 unfold PN
 simp only
 split
 .exact Nb _
 .exact gY _ _ _
theorem Dt (l:List UInt8) (x:Int):(dY l x).2.1.length<=l.length:=by
 unfold dY
 exact Nk (vj _ _ _) (xI _ _ _)
theorem zL (k:Int) (l:List UInt8) (x:Int):(qP k l x).2.1.length<=l.length:=by
 unfold qP;split
 .exact gY _ _ _
 .exact MG _
theorem zK (k:Int) (l:List UInt8) (x:Int):(uV k l x).2.1.length<=l.length:=by
 unfold uV;split
 .exact Dt _ _
 .exact MG _
theorem zJ (k:Int) (l:List UInt8) (x:Int):(ux k l x).2.1.length<=l.length:=by
 unfold ux;split
 .exact gY _ _ _
 .exact MG _
theorem zM (k:Int) (l:List UInt8) (x:Int):(vq k l x).2.1.length<=l.length:=by
 unfold vq;split
 .exact gY _ _ _
 .exact MG _
theorem vk (n:Nat) (l:List UInt8) (x:Int):(Od n l x).2.1.length<=l.length:=by
 induction n with
 |zero=>exact MG _
 |succ n ih=>
  rw[Od]
  exact Nk (gY _ _ _) (Nk (gY _ _ _) ih)
theorem M71 (h:A:=by
 by_cases hx:(Ol ((PN 65536 (iR s).2.1 (iR s).2.2).1:Int) (PN 65536 (iR s).2.1 (iR s).2.2).2.1 (PN 65536 (iR s).2.1 (iR s).2.2).2.2).2.2=0
 .exact hx
 .exact absurd (by rw[eT,eT2];exact lh hx) hn):A:=h
theorem M70 {A:Prop}(h:A:=by
 have hi:(iR s).1≠0:=by
  have:=of_decide_eq_true m2.symm
  omega
 have eI:iR s=N6 4 (PP s).2.1 (PP s).2.2:=by unfold iR qP;rw[m1];rfl
 rw[eI]at hi
 have:=(jy (jx hi)).2
 rw[<-eI]at this
 omega):A:=h
theorem Du (h:gk s=some (r,t)):az r=true/\t.length+2<=s.length:=by
 unfold gk at h
 split at h
 .rename_i hh
  injection h with h
  injection h with h1 h2
  subst h1 h2
  refine⟨hh.2,?_⟩
  have hk:=nI hh.2
  have hm:=hh.2
  have l5:(Ps (nR s).1 s).2.1.length<=(nR s).2.1.length:=vk _ _ _
  have l4:(nR s).2.1.length<=(zR s).2.1.length:=zM _ _ _
  have l3:(zR s).2.1.length<=(tR s).2.1.length:=zJ _ _ _
  have l2:(tR s).2.1.length<=(iR s).2.1.length:=zK _ _ _
  have l1:(iR s).2.1.length<=(PP s).2.1.length:=zL _ _ _
  have ek:(Ps (nR s).1 s).1.kind=((PP s).1:Int):=rfl
  have ei:(Ps (nR s).1 s).1.id=((iR s).1:Int):=rfl
  have en:(Ps (nR s).1 s).1.name=(tR s).1:=rfl
  rw[ek]at hk
  have k0:(PP s).1≠0:=_a
  have e0:=jy (jx (k:=1) (l:=s) (x:=0) k0)
  have e0':(PP s).2.1.length+1=s.length:=e0.2
  unfold az gq at hm
  simp only[No,Bool.or_eq_true,decide_eq_true_eq,beq_iff_eq]at hm
  obtain⟨m1,m2,m3,m4,_⟩:=hm
  rw[ek,ei]at m2
  rw[ek,en]at m4
  rw[ek]at m1
  rcases m1 with m1|m1
  .rw[m1]at m2
   exact M70
  .rw[m1]at m4
   have hn:(tR s).1≠[]:=by
    intro e;rw[e]at m4;cases m4
   have eT:tR s=dY (iR s).2.1 (iR s).2.2:=by unfold tR uV;rw[m1];rfl
   have eT2:dY (iR s).2.1 (iR s).2.2=Ol ((PN 65536 (iR s).2.1 (iR s).2.2).1:Int) (PN 65536 (iR s).2.1 (iR s).2.2).2.1 (PN 65536 (iR s).2.1 (iR s).2.2).2.2:=rfl
   have h0:(Ol ((PN 65536 (iR s).2.1 (iR s).2.2).1:Int) (PN 65536 (iR s).2.1 (iR s).2.2).2.1 (PN 65536 (iR s).2.1 (iR s).2.2).2.2).2.2=0:=by
    exact M71
   have⟨q1,q2,q3⟩:=nf h0
   have q4:=congrArg List.length q3
   rw[tN,<-eT2,<-eT]at q4
   have q5:=xI 65536 (iR s).2.1 (iR s).2.2
   have q6:0<(tR s).1.length:=Nu.2 hn
   omega
 .cases h
theorem adD {A:Prop}(h:A:=by
 rw[dg]at h
 injection h with h
 injection h with h1 h2
 subst h1 h2
 exact⟨fun r hr=>(by cases hr),_a,rfl⟩):A:=h
theorem M80 (h:A:=by
 refine⟨fun r hr=>?_,_a,by rw[tN,i3];rfl⟩
 rcases Na.1 hr with hr|hr
 .exact i1 r hr
 .have:r=x:=F!
  subst this;exact j1):A:=h
theorem td:∀(n:Nat) {s t:List UInt8} {o:List ag},dg n s=some (o,t)->(∀r∈o,az r=true)/\t.length+2*n<=s.length/\o.length=n
 |0,s,t,o,h=>by
  exact adD
 |n+1,s,t,o,h=>by
  rw[dg]at h
  split at h
  .cases h
  .rename_i o' r' he
   have⟨i1,i2,i3⟩:=td n he
   split at h
   .cases h
   .rename_i x t' hx
    injection h with h
    injection h with h1 h2
    subst h1 h2
    have⟨j1,j2⟩:=Du hx
    exact M80
theorem Bp (h:dp s=some o):(∀r∈o,az r=true)/\2*o.length<=s.length:=by
 unfold dp at h
 split at h
 .split at h
  .rename_i o' he
   injection h with h
   subst h
   have⟨i1,i2,i3⟩:=td _ he
   have:=gY 2 s 0
   exact⟨i1,_a⟩
  .cases h
 .cases h
theorem FY (h:gO s=some (o,t)):(∀r∈o,az r=true)/\2*o.length<=s.length:=by
 unfold gO at h
 split at h
 .cases h
 .rename_i o' hb
  split at h
  .rename_i hc
   injection h with h
   injection h with h1 _
   subst h1
   have⟨i1,i2⟩:=Bp hb
   have:=(iZ hc.1).2
   exact⟨i1,_a⟩
  .cases h
theorem te:∀(f:Nat) {s:List UInt8} {ls:List (List ag)},fq f s=some ls->∀l∈ls,(∀r∈l,az r=true)/\2*l.length<=s.length
 |0,s,ls,h=>by
  rw[fq]at h
  split at h
  .injection h with h;subst h;intro l hl;cases hl
  .cases h
 |f+1,s,ls,h=>by
  rw[fq]at h
  split at h
  .injection h with h;subst h;intro l hl;cases hl
  .cases ht:gO s with
   |none=>rw[ht]at h;cases h
   |some p=>
    rw[ht]at h
    simp only[Option.bind_some]at h
    cases hr:fq f p.2 with
    |none=>rw[hr]at h;cases h
    |some ms=>
     rw[hr]at h
     simp only[Option.map_some]at h
     injection h with h
     subst h
     intro l hl
     have ae6:=q7 (s:=s) (r:=p.2) (o:=p.1) ht
     rcases List.mem_cons.1 hl with rfl|hl
     .exact FY (t:=p.2) ht
     .have⟨i1,i2⟩:=te f hr l hl
      exact⟨i1,_a⟩
theorem kO {ls:List (List ag)} (h:O4 s=some ls):∀l∈ls,(∀r∈l,az r=true)/\2*l.length<=s.length:=te _ h
theorem sV (h:az r=true) (hf:r.fits):∀a∈r.runs,aQ a:=by
 intro a ha
 obtain⟨k,hk,rfl⟩:=Nr.1 ha
 have:=(jU h hf).rf.2 k hk
 unfold aQ
 omega
