/- -/
import Derived.Test.YtdkimcnlhmhpgaaGreatF11
set_option maxHeartbeats 32000000
set_option maxRecDepth 100000
namespace Go.Proofs.YtdkimcnlhmhpgaaGreat
section
open Go.Proofs.Tryz Go.RowKit
variable {w w':World} {S:Nat->Prop} {C:Int} {v:Value} {A:Prop} {c:au} {l o:List ag} {k:Nat} {s t:List UInt8} {r:ag}
theorem eC (base v n xs) (Ot:w.ownsRow base 128 2 v n xs) (u l lo hi) (P4:af w u l lo hi) (h63:n+l.length<=maxLen) (Qs:(n+l.length)*16<=140737488355328) (Rk:base<=w.heap.size):
  ∃v' w',(Builtin.append_ #[56,56] 56 #[v,u]).run prog w=.ok v' w'/\w'.ownsRow base 128 2 v' (n+l.length) (xs++NW l)/\w.grownBy w' v.ownBlock:=by
 obtain⟨i0,q0,q1,q2,q3⟩:=eV
 obtain⟨p,c,rfl⟩:=P4.shape
 cases p with
 |none=>
  have WU:l=[]:=by
   rcases P4 with⟨h,_⟩|⟨b,off,c',e,_⟩
   .exact h
   .simp at e
  subst WU
  have Oe:=gM (P:=prog) (w:=w) base 56 56 128 i0 2 underlying56 q0 v n c xs Ot
  exact⟨v,w,Oe,by simpa[NW]using Ot,jh _ _⟩
 |some ad=>
  have Ou:∀j u,(NW l)[j]? =some u->w.cell? (ad.add j)=some u:=by
   rcases P4 with⟨rfl,_⟩|⟨b,off,c',e,h2⟩
   .intro j u hj;simp[NW]at hj
   .simp at e
    exact M30
  have⟨v',w',h1,h2,h3,_,_⟩:=run_append_own_at (P:=prog) w base 56 56 128 i0 _ 2 16 underlying56 q0 q1 q2 q3 rfl d? v n xs Ot ad l.length c (NW l) (dm l) Ou (kH l) h63 Qs Rk
  exact⟨v',w',h1,h2,h3⟩
def jm (S:Nat->Prop) (l:List NS) (L:List NS×Int) (w:World) (e:Ending) (w':World):Prop:=
 ∃v,e=.returned (.tuple #[v,L.2])/\aq S w' v (if L.2=0 then L.1 else l)/\NP [] w w'
theorem eu {l m L} (h:L=(m,C)) (h1:aq S w' v (if C=0 then m else l)) (k:NP [] w w'):jm S l L w (.returned (.tuple #[v,C])) w':=by
 subst h;exact⟨v,rfl,h1,k⟩
theorem M47 {A:Prop}(h:A:=by
 go_wp2_with fail
 refine(HA.out _ HK.out).mono ?_;rintro e w3 ⟨rfl,k3⟩
 have K3:=tK (HK.out.trans k3)
 have⟨y0,y1,y2,y3,y4⟩:=(k3.own HR.out b?).k5
 have⟨x0,x1,x2,x3⟩:=(k3.own HX.out b?).c4
 clear k3
 go_wp2_with fail
 go_ret2
 exact eu HE1.out i! K3.out):A:=h
theorem M15 (h:A:=by
 go_wp2_with fail
 refine(HA.out _ HK.out).mono ?_;rintro e w3 ⟨rfl,k3⟩
 have K3:=tK (HK.out.trans k3)
 have KX3:=tK k3
 have⟨y0,y1,y2,y3,y4⟩:=(k3.own HR.out b?).k5
 have⟨x0,x1,x2,x3⟩:=(k3.own HX.out b?).c4
 clear k3
 go_wp2_with fail
 refine(HI.out _ _ l _ K3.out (HH.out.kept0 K3.out) a? ⟨ZW.out.1.kept0 KX3.out,ZW.out.2⟩).mono ?_;rintro e w4 ⟨v4,rfl,h4,k4⟩
 have H4:=tK h4
 have K4:=tK (K3.out.trans k4)
 obtain⟨p4,c4,rfl⟩:=h4.plain.shape
 clear h4 k4
 go_wp2_with fail
 go_ret2
 exact eu (Ub.out _) (by rw[if_pos rfl];exact H4.out) K4.out):A:=h
theorem M14 {A:Prop}(h:A:=by
 go_wp2_with fail
 refine(HA.out _ HK.out).mono ?_;rintro e w3 ⟨rfl,k3⟩
 have K3:=tK (HK.out.trans k3)
 have⟨y0,y1,y2,y3,y4⟩:=(k3.own HR.out b?).k5
 have⟨x0,x1,x2,x3⟩:=(k3.own HX.out b?).c4
 clear k3
 go_wp2_with fail
 go_ret2
 exact eu (Ub.out _) i! K3.out):A:=h
theorem wY (v:Value) (l:List NS) (r:ag) (rv:Value) (next:Int) (most:Nat) (w:World) (h:aq S w v l) (hS:∀x,S x->x<w.heap.size) (hl:l.length<=90000) (hr:cG l) (Qh:af w rv r.runs 0 w) (hf:r.fits) (Pj:∀a∈r.runs,aQ a) (P3:r.runs.length<=1000000) (hmo:most<=1000000) (hk:r.kind=1\/r.kind=2\/r.kind=3) (XT:r.kind=3->next=0):
  am! 258 #[v,.agg (r.cells rv),(next,()),(most:Int)] w (jm S l (Oc l r.item next most (decide (r.kind=2))) w):=by
 have HA:=tK fun W (q:NP [] w W)=>L0 v l r.item W (h.plain.kept0 q) a?
 have Vi:Hid (∀W u,W.ownsRow w 128 2 u r.runs.length (NW r.runs)->bd W (r.item,u)/\bD S u r.runs.length):=tK (fun W u ho=>⟨⟨(af.bB ho).upto,ag.jW hf,Pj⟩,bD.row ho hS _⟩)
 have HW:=tK fun W (i:Nat) (q:NP [] w W) (hi:i<l.length)=>wT v l i W (h.kept0 q) (fun x hx=>MR (hS x hx) q.size) hi a?
 have HI:=tK fun W u m v' (q:NP [] w W) (hm:aq S W v' m) (Xd:m.length<=100000) (hx:bd W (r.item,u)/\bD S u r.runs.length)=>KU v' m r.item u W hm (fun x hx=>MR (hS x hx) q.size) hx Xd
 have⟨HH,HRS⟩:=f? h hr
 obtain⟨pv,cv,rfl⟩:=h.plain.shape
 obtain⟨TQ,crr,rfl⟩:=Qh.shape
 obtain⟨W1,hW1⟩:∃W1,W1=w.alloc (.cells (r.cells (TQ,r.runs.length,crr)) 102):=⟨_,rfl⟩
 have oR:ae W1 w (r.cells (TQ,r.runs.length,crr)) 102:=U?
 have k0:NP [] w W1:=H?
 unfold ag.cells at oR hW1 ⊢
 unfold NS.cells at HI
 have er1:r.item.id=r.id:=rfl
 have er2:r.item.name=r.name:=rfl
 have er3:r.item.size=r.size:=rfl
 rw[er1,er2,er3]at HI
 have⟨OR,K0⟩:=f? oR k0
 have Uc:=tK fun W (q:NP [] w W)=>Qh.kept0 q
 have Tc:Hid (w.heap.size<=W1.heap.size/\w.heap.size<W1.heap.size):=tK ⟨k0.size,oR.lt⟩
 have XV:=tK P3
 have j1:(l.length:Int)<=90000:=a?
 have j2:(most:Int)<=1000000:=a?
 have⟨Qv,XY⟩:=f? hk XT
 have acm:Hid (0<=r.id):=tK (eG hf.2.1).1
 clear oR k0 h Qh hf Pj hr er1 er2 er3 hS P3 hmo hl hk XT
 unfold fY at HA
 unfold fp at HW HI
 go_enter func258,ntmps258
 go_upto_region 1 with fail
 rw[<-hW1]
 clear hW1
 go_cut [10]from 12 to 22 (fun v10 wx=>∃xb u,v10=.pointer (some ⟨xb,0,none⟩)/\ae wx xb #[(r.id,()),r.name,r.size,u] 113/\(bd wx (r.item,u)/\bD S u r.runs.length)/\ae wx w #[r.kind,(r.id,()),r.name,r.size,(TQ,r.runs.length,crr)] 102/\NP [] w wx/\w.heap.size<=xb)
 case first=>
  refine MK (S:=(fun W=>W.cell? w=r.kind/\W.cell? (aa w 1)=(r.id,())/\W.cell? (aa w 2)=r.name/\W.cell? (aa w 3)=r.size/\W.cell? (aa w 4)=(TQ,r.runs.length,crr))) c? ac! (fun hHeld=>?_)
  refine tS ?_
  refine wpAnyH_ready (rs:=[6,11]) c? b? ?_
  refine(AllReadyH.cons rfl (fun K hK=>?_) (AllReadyH.cons rfl (fun K hK=>?_) AllReadyH.nil))
  .go_simp
   refine hK.out _ _ ?_ (fun hHeld=>nM ?_)
   .exact(OR.out.drew.alloc _).k5
   clear hK K
   refine wpAnyH_ready (rs:=[9,11]) c? b? ?_
   refine(AllReadyH.cons rfl (fun K hK=>?_) (AllReadyH.cons rfl (fun K hK=>?_) AllReadyH.nil))
   .skip
    have⟨v5,w5,PZ,OG,hgr5⟩:=eC w _ 0 [] (bJ W1.drew w 128 2 Tc.out.1) (TQ,r.runs.length,crr) r.runs 0 w (Uc.out _ ((K0.out.drew).alloc (.cells #[] 128))) j! (by have:=XV.out;omega) ((K0.out.drew).alloc (.cells #[] 128)).size
    rw[Nat.zero_add,NI]at OG
    have K5:=tK (((K0.out.drew).alloc (.cells #[] 128)).grown hgr5 (fun q hq=>Or.inr (ML (bJ W1.drew w 128 2 Tc.out.1) q hq).1))
    have KT5:=tK ((NP.refl [W1.heap.size] _).grown hgr5 (fun q hq=>Or.inl C?))
    have O5:=tK (KT5.out.own ((OR.out.drew).alloc (.cells #[] 128)) F?)
    have⟨Si,Ru⟩:=f? OG PZ
    obtain⟨p5,c5,rfl⟩:=ah OG
    refine aO rfl _ _ 56 56 rfl _ _ g? g? Ru.out ?_
    refine hK.out _ _ ?_ (fun hHeld=>nM ?_)
    .exact O5.out.k5
    clear hK K
    clear PZ OG hgr5
    try simp only[List.getElem_toArray,Nt,List.getElem_cons_zero,List.set_cons_zero,List.set_cons_succ]
    refine tS ?_
    refine rD 11 (fun K hK=>?_)
    go_simp
    refine hK.out _ _ ?_ (fun hHeld=>nM ?_)
    .exact(O5.out.alloc _).k5
    clear hK K
    refine rD 12 (fun K hK=>?_)
    go_simp
    refine hK.out _ _ ?_ (fun hHeld=>nM ?_)
    .exact(O5.out.alloc _).k5
    clear hK K
    refine Ng c? ?_ _
    go_wp2_with fail
    go_meet
    exact⟨_,_,rfl,ae.new _ _ _,⟨(Vi.out _ _ Si.out).1.kept0 ((NP.refl _ _).alloc _),(Vi.out _ _ Si.out).2⟩,O5.out.alloc _,K5.out.alloc _,K5.out.size⟩
   .go_simp
    refine hK.out _ _ ?_ (fun hHeld=>nM ?_)
    .exact((OR.out.drew.alloc _).alloc _).k5
    clear hK K
    have⟨v5,w5,PZ,OG,hgr5⟩:=eC w _ 0 [] (MH (bJ W1.drew w 128 2 Tc.out.1) (.cells #[.int .u32 0,.string {data:=#[]},(0:Int),()] 113)) (TQ,r.runs.length,crr) r.runs 0 w (Uc.out _ ((((K0.out.drew).alloc (.cells #[] 128)).alloc (.cells #[.int .u32 0,.string {data:=#[]},(0:Int),()] 113)))) j! (by have:=XV.out;omega) ((((K0.out.drew).alloc (.cells #[] 128)).alloc (.cells #[.int .u32 0,.string {data:=#[]},(0:Int),()] 113))).size
    rw[Nat.zero_add,NI]at OG
    have K5:=tK (((((K0.out.drew).alloc (.cells #[] 128)).alloc (.cells #[.int .u32 0,.string {data:=#[]},(0:Int),()] 113))).grown hgr5 (fun q hq=>Or.inr (ML (MH (bJ W1.drew w 128 2 Tc.out.1) (.cells #[.int .u32 0,.string {data:=#[]},(0:Int),()] 113)) q hq).1))
    have KT5:=tK ((NP.refl [W1.heap.size] _).grown hgr5 (fun q hq=>Or.inl C?))
    have O5:=tK (KT5.out.own ((((OR.out.drew).alloc (.cells #[] 128)).alloc (.cells #[.int .u32 0,.string {data:=#[]},(0:Int),()] 113))) F?)
    have⟨Si,Ru⟩:=f? OG PZ
    obtain⟨p5,c5,rfl⟩:=ah OG
    refine rD 9 (fun K hK=>?_)
    refine aO rfl _ _ 56 56 rfl _ _ g? g? Ru.out ?_
    refine hK.out _ _ ?_ (fun hHeld=>nM ?_)
    .exact O5.out.k5
    clear hK K
    clear PZ OG hgr5
    try simp only[List.getElem_toArray,Nt,List.getElem_cons_zero,List.set_cons_zero,List.set_cons_succ]
    have UP:=KT5.out.own (ae.new ((W1.drew).alloc (.cells #[] 128)) #[.int .u32 0,.string {data:=#[]},(0:Int),()] 113) b?
    simp only[Nd,World.size_drew]at UP
    have Zc:=tK UP
    have⟨z0,z1,z2,z3⟩:=UP.c4
    have⟨y0,y1,y2,y3⟩:=UP.z4
    have S6:Hid (w.heap.size≠W1.heap.size+1/\w.heap.size<=W1.heap.size+1):=tK (by have:=Tc.out;omega)
    refine tS ?_
    refine rD 12 (fun K hK=>?_)
    go_simp
    refine hK.out _ _ ?_ (fun hHeld=>nM ?_)
    .exact(O5.out.jV S6.out.1 _ _ _ _).k5
    clear hK K
    refine Ng c? ?_ _
    go_wp2_with fail
    go_meet
    exact⟨_,_,rfl,Zc.out.fU _ _ _ _,Vi.out _ _ (bI Si.out ((NP.refl [W1.heap.size+1] w5).fU (Or.inl b?) _ _ _ _) Zc.out d?),O5.out.jV S6.out.1 _ _ _ _,K5.out.fU (Or.inr S6.out.2) _ _ _ _,S6.out.2⟩
  .go_simp
   refine hK.out _ _ ?_ (fun hHeld=>nM ?_)
   .exact(OR.out.drew.alloc _).k5
   clear hK K
   refine rD 6 (fun K hK=>?_)
   go_simp
   refine hK.out _ _ ?_ (fun hHeld=>nM ?_)
   .exact((OR.out.drew.alloc _).alloc _).k5
   clear hK K
   have⟨v5,w5,PZ,OG,hgr5⟩:=eC w _ 0 [] (bJ ((W1.drew).alloc (.cells #[.int .u32 0,.string {data:=#[]},(0:Int),()] 113)) w 128 2 F?) (TQ,r.runs.length,crr) r.runs 0 w (Uc.out _ ((((K0.out.drew).alloc (.cells #[.int .u32 0,.string {data:=#[]},(0:Int),()] 113)).alloc (.cells #[] 128)))) j! (by have:=XV.out;omega) ((((K0.out.drew).alloc (.cells #[.int .u32 0,.string {data:=#[]},(0:Int),()] 113)).alloc (.cells #[] 128))).size
   rw[Nat.zero_add,NI]at OG
   have K5:=tK (((((K0.out.drew).alloc (.cells #[.int .u32 0,.string {data:=#[]},(0:Int),()] 113)).alloc (.cells #[] 128))).grown hgr5 (fun q hq=>Or.inr (ML (bJ ((W1.drew).alloc (.cells #[.int .u32 0,.string {data:=#[]},(0:Int),()] 113)) w 128 2 F?) q hq).1))
   have KT5:=tK ((NP.refl [W1.heap.size+1] _).grown hgr5 (fun q hq=>Or.inl C?))
   have O5:=tK (KT5.out.own ((((OR.out.drew).alloc (.cells #[.int .u32 0,.string {data:=#[]},(0:Int),()] 113)).alloc (.cells #[] 128))) F?)
   have⟨Si,Ru⟩:=f? OG PZ
   obtain⟨p5,c5,rfl⟩:=ah OG
   refine rD 9 (fun K hK=>?_)
   refine aO rfl _ _ 56 56 rfl _ _ g? g? Ru.out ?_
   refine hK.out _ _ ?_ (fun hHeld=>nM ?_)
   .exact O5.out.k5
   clear hK K
   clear PZ OG hgr5
   try simp only[List.getElem_toArray,Nt,List.getElem_cons_zero,List.set_cons_zero,List.set_cons_succ]
   have UP:=KT5.out.own ((ae.new (W1.drew) #[.int .u32 0,.string {data:=#[]},(0:Int),()] 113).alloc (.cells #[] 128)) b?
   simp only[World.size_drew]at UP
   have Zc:=tK UP
   have⟨z0,z1,z2,z3⟩:=UP.c4
   have⟨y0,y1,y2,y3⟩:=UP.z4
   have S6:Hid (w.heap.size≠W1.heap.size/\w.heap.size<=W1.heap.size):=tK (by have:=Tc.out;omega)
   refine tS ?_
   refine rD 12 (fun K hK=>?_)
   go_simp
   refine hK.out _ _ ?_ (fun hHeld=>nM ?_)
   .exact(O5.out.jV S6.out.1 _ _ _ _).k5
   clear hK K
   refine Ng c? ?_ _
   go_wp2_with fail
   go_meet
   exact⟨_,_,rfl,Zc.out.fU _ _ _ _,Vi.out _ _ (bI Si.out ((NP.refl [W1.heap.size] w5).fU (Or.inl b?) _ _ _ _) Zc.out d?),O5.out.jV S6.out.1 _ _ _ _,K5.out.fU (Or.inr S6.out.2) _ _ _ _,S6.out.2⟩
 case rest=>
  obtain⟨xb,u,rfl,hX,hIO,hR,hK,hxb⟩:=hcut
  have⟨HX,ZW,HR,HK⟩:=gh! hX hIO hR hK
  obtain⟨pu,nu,cu,rfl⟩:fP u:=hIO.1.fz
  clear hX hIO hR hK hxb
  have⟨x0,x1,x2,x3⟩:=HX.out.c4
  have⟨y0,y1,y2,y3,y4⟩:=HR.out.k5
  obtain⟨AT,hAT⟩:∃a,qX l r.item=a:=⟨_,rfl⟩
  rw[hAT]at HA
  obtain⟨kd,id,nm,sz,rr⟩:=r
  simp only[ag.item]at HA HI HX HR ZW Qv XY acm x0 x1 x2 y0 y1 y2 y3 y4 hAT ⊢
  by_cases hh:di l ⟨id,nm,sz,rr⟩
  .have Rm:AT=(PJ l ⟨id,nm,sz,rr⟩:Int):=by rw[<-hAT];unfold qX;exact if_pos hh
   have hii:PJ l ⟨id,nm,sz,rr⟩<l.length:=hh
   have abb:Hid (∀m,m=dI l (PJ l ⟨id,nm,sz,rr⟩)->m.length<=100000/\Qm m ⟨id,nm,sz,rr⟩=gL l (PJ l ⟨id,nm,sz,rr⟩) ⟨id,nm,sz,rr⟩):=tK (fun m hm=>by
    subst hm
    exact⟨by have:=nS hii;omega,Iq HRS.out hii (iW hh)⟩)
   have ZK:Hid (Oc l ⟨id,nm,sz,rr⟩ next most true=(gL l (PJ l ⟨id,nm,sz,rr⟩) ⟨id,nm,sz,rr⟩,0)):=tK (by unfold Oc;rw[if_pos ⟨hh,rfl⟩])
   have HE1:Hid (Oc l ⟨id,nm,sz,rr⟩ next most false=([],252)):=tK (by unfold Oc;rw[if_neg b?,if_pos (Or.inl hh)])
   have HII:=tK hii
   obtain⟨ii,hie⟩:∃i,i=PJ l ⟨id,nm,sz,rr⟩:=⟨_,rfl⟩
   rw[<-hie]at Rm abb ZK HII
   subst Rm
   clear hh hii hAT hie
   have g0:decide ((ii:Int)≥0)=true:=b?
   have g0':decide ((0:Int)<=ii)=true:=g0
   rcases Qv.out with rfl|rfl|rfl
   .clear Qv
    exact M47
   .clear Qv
    go_wp2_with fail
    refine(HA.out _ HK.out).mono ?_;rintro e w3 ⟨rfl,k3⟩
    have K3:=tK (HK.out.trans k3)
    have I3:=tK (And.intro (ZW.out.1.kept0 k3) ZW.out.2)
    have X3:=tK (k3.own HX.out b?)
    have⟨y0,y1,y2,y3,y4⟩:=(k3.own HR.out b?).k5
    clear k3
    go_wp2_with fail
    refine MK (S:=(fun W=>W.cell? xb=(id,())/\W.cell? (aa xb 1)=nm/\W.cell? (aa xb 2)=sz/\W.cell? (aa xb 3)=(pu,nu,cu))) c? (by exact X3.out.drew.c4) (fun hHeld=>?_)
    refine tS ?_
    refine rD 2 (fun K hK=>?_)
    go_simp
    ((with_reducible refine(HW.out _ ii K3.out.drew HII.out).mono ?_));rintro e w4 ⟨v4,rfl,h4,k4⟩
    have H4:=tK h4
    have K4:=tK (K3.out.drew.trans k4)
    have X4:=tK (k4.own X3.out.drew b?)
    have I4:=tK (And.intro ((I3.out.1.kept0 ((NP.refl _ _).drew)).kept0 k4) I3.out.2)
    obtain⟨p4,c4,rfl⟩:=h4.plain.shape
    clear h4 k4
    go_wp2_with fail
    refine hK.out _ _ ?_ (fun hHeld=>nM ?_)
    .exact X4.out.c4
    clear hK K
    refine rD 4 (fun K hK=>?_)
    go_simp
    ((with_reducible refine(HI.out _ _ (dI l ii) _ K4.out H4.out (abb.out _ rfl).1 I4.out).mono ?_));rintro e w5 ⟨v5,rfl,h5,k5⟩
    rw[(abb.out _ rfl).2]at h5
    have H5:=tK h5
    have K5:=tK (K4.out.trans k5)
    have X5:=tK (k5.own X4.out b?)
    obtain⟨p5,c5,rfl⟩:=h5.plain.shape
    clear h5 k5
    go_wp2_with fail
    refine hK.out _ _ ?_ (fun hHeld=>nM ?_)
    .exact X5.out.c4
    clear hK K
    refine tS ?_
    refine Ng c? ?_ _
    go_wp2_with fail
    go_ret2
    exact eu ZK.out (by rw[if_pos rfl];exact H5.out) K5.out
   .clear Qv
    exact M47
  .have Rm:AT= -1:=by rw[<-hAT];unfold qX;exact if_neg hh
   subst Rm
   have hx:∀t,Oc l ⟨id,nm,sz,rr⟩ next most t=if id<next then([],252)else if most<=l.length then([],240)else(Qm l ⟨id,nm,sz,rr⟩,0):=fun t=>by
    unfold Oc
    rw[if_neg (fun h=>hh h.1)]
    by_cases g:id<next
    .rw[if_pos (Or.inr g),if_pos g]
    .rw[if_neg (fun h=>h.elim hh g),if_neg g]
   have HX0:=tK hx
   clear hx hh hAT
   have g0:decide ((-1:Int)≥0)=false:=b?
   have g0':decide ((0:Int)<= -1)=false:=g0
   by_cases g1:id<next
   .have Ub:Hid (∀t,Oc l ⟨id,nm,sz,rr⟩ next most t=([],252)):=tK (fun t=>by rw[HX0.out,if_pos g1])
    have g2:decide (id<next)=true:=MV g1
    rcases Qv.out with rfl|rfl|rfl
    .clear Qv g1
     exact M14
    .clear Qv g1
     exact M14
    .exact absurd (XY.out rfl) (by have:=acm.out;omega)
   .have g2:decide (id<next)=false:=MS g1
    by_cases g3:most<=l.length
    .have Ub:Hid (∀t,Oc l ⟨id,nm,sz,rr⟩ next most t=([],240)):=tK (fun t=>by rw[HX0.out,if_neg g1,if_pos g3])
     have g4:decide ((l.length:Int)≥most)=true:=e?
     have g4':decide ((most:Int)<=l.length)=true:=g4
     have g4n:decide (most<=l.length)=true:=MV g3
     rcases Qv.out with rfl|rfl|rfl
     .clear Qv g1 g3
      exact M14
     .clear Qv g1 g3
      exact M14
     .clear Qv g1 g3
      exact M14
    .have Ub:Hid (∀t,Oc l ⟨id,nm,sz,rr⟩ next most t=(Qm l ⟨id,nm,sz,rr⟩,0)):=tK (fun t=>by rw[HX0.out,if_neg g1,if_neg g3])
     have g4:decide ((l.length:Int)≥most)=false:=e?
     have g4':decide ((most:Int)<=l.length)=false:=g4
     have g4n:decide (most<=l.length)=false:=MS g3
     rcases Qv.out with rfl|rfl|rfl
     .clear Qv g1 g3
      exact M15
     .clear Qv g1 g3
      exact M15
     .clear Qv g1 g3
      exact M15
theorem yZ (x:VC) (w:World):am! 95 #[.agg #[x.kind,(x.id,()),x.name,x.bytes]] w fun e w'=>e=.returned (.agg #[x.kind,(x.id,()),x.name,(0:Int),()])/\NP [] w w':=by
 go_enter func95,ntmps95
 go_wp2_with fail
 obtain⟨k,i,n,s⟩:=x
 simp only
 refine MN (v:=.agg #[k,(i,()),n,(0:Int),()]) (iu results95 rfl (t:=102) ?_ underlying102 rfl c?) rfl ⟨rfl,?_⟩
 .first
   |exact(ch w _ _ _ _).2
 .first
   |exact((NP.refl _ _).alloc _).alloc _
theorem DR {u} (h:dJ w u c):∀a∈OK c,aQ a:=by
 obtain⟨vb,vm,vn,rfl,hb,hm,hn,_⟩:=h
 have key:∀{u:Value} {l:List NS},aU w u l->∀x∈l,∀a∈x.runs,aQ a:=by
  intro u l h x hx
  obtain⟨vs,rfl,_,h3⟩:=h
  obtain⟨y,hy,rfl⟩:=ND.1 hx
  exact(h3 y hy).2.2
 intro a ha
 unfold OK Ov at ha
 have⟨l,hl,hal⟩:=List.mem_flatten.1 ha
 obtain⟨r,hr,rfl⟩:=ND.1 hl
 simp only[Na,ND]at hr
 rcases hr with(⟨x,hx,rfl⟩|⟨x,hx,rfl⟩)|⟨x,hx,rfl⟩
 .exact key hb x hx a hal
 .exact key hm x hx a hal
 .exact key hn x hx a hal
theorem qg {s:SB} (h:s.may):∀a∈s.runs,aQ a:=by
 intro a ha
 obtain⟨k,hk,rfl⟩:=Nr.1 ha
 have h1:=fJ (MG _) h.2.1 k hk
 have h2:=dN.1 h1
 have h3:=h.1
 unfold SB.dD at h3
 unfold aQ
 omega
theorem Gw {T B b sb mb lo v} (hV:aL T w B b sb mb lo v) (hm:v.s.may) (hc:OL v.c) (hf:v.c.boxes.length+v.c.mans.length+v.c.names.length<=5000):
  am! 56 #[B] w (bh (Oh v) w):=by
 have⟨sv,vb,vm,vn,o,hr,Oz⟩:=hV.vol
 obtain⟨⟨PU,PC,Oe⟩,_⟩:=hr
 have P3:=l7 hc
 have S2:=hm.1
 have Zi:=qg hm
 have YP:=DR Oz.plain
 have Yx:=tK fun W k=>vV _ v.c W (Oz.plain.kept0 k) hf a?
 have HB:=tK hV.bH
 have HO:=tK fun W (k:NP [] w W)=>k.own o b?
 have Sa:Hid (∀W,NP [] w W->af W sv v.s.runs PU PC):=tK (fun W k=>Oe.kept0 k)
 unfold SB.dD at S2
 have HMI:Hid (∀W va loa hia vb2 lob Rr,af W va [(2+v.s.journal,v.s.sectors-(2+v.s.journal))] loa hia->af W vb2 (OK v.c++v.s.runs) lob Rr->am! 96 #[va,vb2] W (bh (Oh v) W)):=tK (fun W va loa hia vb2 lob Rr h1 h2=>BT va _ loa hia vb2 _ lob Rr W h1 h2 b? ab! (fun a ha=>by
   obtain rfl:=Nm.1 ha
   unfold aQ;simp only;omega) (fun a ha=>by
   rcases Na.1 ha with ha|ha
   .exact YP a ha
   .exact Zi a ha))
 have Tu:(OK v.c).length<=80000:=a?
 have Tn:v.s.runs.length<=16:=a?
 have j1:1<=v.s.journal:=a?
 have j2:v.s.journal<=v.s.sectors-2:=a?
 have j3:v.s.sectors<=8192:=a?
 have⟨Yc,YR⟩:=f? Tu Tn
 obtain⟨p1,c1,rfl⟩:=Oe.shape
 obtain⟨d,s,c,dead⟩:=v
 obtain⟨sq,se,jr,us,sz,rs⟩:=s
 simp only at*
 obtain⟨fr,hfr⟩:∃fr,fr=2+jr:=⟨_,rfl⟩
 obtain⟨ln,hln⟩:∃ln,ln=se-fr:=⟨_,rfl⟩
 generalize OK c=RC at*
 generalize Oh _=RX at*
 have⟨x0,x1,x2,x3,x4,x5,x6,x7,x8,x9,x10,x11,x12⟩:=o.ku
 clear hV hm hc hf Oz Oe P3 S2 Zi YP Tu Tn
 go_enter func56,ntmps56
 clear x0 x1 x4 x5 x12
 have Ow:Hid (∀W,NP [] w W->W.cell? (aa B 2)=se/\W.cell? (aa B 6)=(p1,rs.length,c1)/\W.cell? (aa B 7)=(c.nextBox,())/\W.cell? (aa B 8)=(c.nextMan,())/\W.cell? (aa B 9)=some (vb)/\W.cell? (aa B 10)=some (vm)/\W.cell? (aa B 11)=some (vn)):=tK (fun W k=>by
  have⟨_,_,a2,_,_,_,a6,a7,a8,a9,a10,a11,_⟩:=(HO.out W k).ku
  exact⟨a2,a6,a7,a8,a9,a10,a11⟩)
 clear o
 go_upto_region 2 with fail
 refine MK (S:=(fun W=>W.cell? (aa B 2)=se/\W.cell? (aa B 6)=(p1,rs.length,c1)/\W.cell? (aa B 7)=(c.nextBox,())/\W.cell? (aa B 8)=(c.nextMan,())/\W.cell? (aa B 9)=some (vb)/\W.cell? (aa B 10)=some (vm)/\W.cell? (aa B 11)=some (vn))) c? (by exact Ow.out _ ((NP.refl [] w).drew)) (fun hHeld=>?_)
 refine tS ?_
 refine rD 4 (fun K hK=>?_)
 go_simp
 ((with_reducible refine(Yx.out _ ((NP.refl [] w).drew)).mono ?_));rintro e w2 ⟨u,rfl,Ot,k2⟩
 have kk:=((NP.refl [] w).drew).trans k2
 have Vu:w2.ownsRow w 128 2 u RC.length (NW RC):=aF Ot b?
 have⟨K2,Yq⟩:=f? kk Vu
 obtain⟨pu,cu,rfl⟩:=ah Ot
 clear Ot kk k2 Vu
 go_wp2_with fail
 refine hK.out _ _ (Ow.out _ K2.out) (fun hHeld=>nM ?_)
 clear hK K
 have⟨v5,w5,PZ,OG,hgr5⟩:=eC w _ RC.length (NW RC) Yq.out (p1,rs.length,c1) rs PU PC (Sa.out _ K2.out) N? o! K2.out.size
 have K5:=tK (K2.out.grown hgr5 (fun q hq=>Or.inr (ML Yq.out q hq).1))
 obtain⟨p5,c5,rfl⟩:=ah OG
 have TP:w5.ownsRow w 128 2 (p5,RC.length+rs.length,c5) (RC++rs).length (NW (RC++rs)):=by rw[tN,show NW (RC++rs)=NW RC++NW rs from by simp[NW]];exact OG
 have⟨Si,Ru⟩:=f? TP PZ
 clear PZ OG hgr5 TP
 refine rD 10 (fun K hK=>?_)
 refine aO rfl _ _ 56 56 rfl _ _ g? g? Ru.out ?_
 refine hK.out _ _ (Ow.out _ K5.out) (fun hHeld=>nM ?_)
 clear hK K
 refine tS ?_
 refine Ng c? ?_ _
 try simp only[List.set_cons_succ,List.set_cons_zero]
 have⟨a2,_⟩:=Ow.out _ K5.out
 go_wp2_with fail
 with_reducible refine(HMI.out _ _ w5 (w5.heap.size+1) _ _ _ (uD w5 (2+jr) (se-(2+jr))) (af.bB (MH Si.out _))).mono ?_
 rintro e w6 ⟨u6,rfl,hown6,k6⟩
 have K6:=tK ((K5.out.alloc (.cells #[(2+jr:Int),(se-(2+jr):Int)] 128)).trans k6)
 have aa5:=tK (aF hown6 (K5.out.alloc (.cells #[(2+jr:Int),(se-(2+jr):Int)] 128)).size)
 obtain⟨p6,c6,rfl⟩:=ah hown6
 clear hown6 k6
 go_wp2_with fail
 go_ret
 exact⟨_,rfl,aa5.out,K6.out⟩
theorem fl {L:au×Int} (h:L=(c,C)) (h1:av S w' v c) (k:NP [] w w'):dC S L w (.returned (.tuple #[v,C])) w':=by
 subst h;exact⟨v,rfl,h1,k⟩
theorem jY (S w):av S w (.agg #[.int .u32 0,.int .u32 0,(),(),()]) jR:=⟨_,_,_,rfl,aq.nil _ _,aq.nil _ _,aq.nil _ _,d?,d?⟩
theorem wO (h:k<l.length) (hm:az (l[k]'h)=false):cH c (l.drop k)=(jR,1):=by
 rw[List.drop_eq_getElem_cons h,cH,if_neg (by rw[hm];decide)]
theorem uJ (h:k<l.length) (hm:az (l[k]'h)=true) {C} (hC:(aW c (l[k]'h)).2=C) (h0:¬C=0):cH c (l.drop k)=(jR,C):=by
 rw[List.drop_eq_getElem_cons h,cH,if_pos hm,if_neg (by rw[hC];exact h0),hC]
theorem wN (h:k<l.length) (hm:az (l[k]'h)=true) (hC:(aW c (l[k]'h)).2=0):cH c (l.drop k)=cH (aW c (l[k]'h)).1 (l.drop (k+1)):=by
 rw[List.drop_eq_getElem_cons h,cH,if_pos hm,if_pos hC]
theorem av.cI {T} (h:av S w v c) (hST:∀x,T x->S x):av T w v c:=by
 obtain⟨a,b,d,e,h1,h2,h3,h4⟩:=h
 exact⟨a,b,d,e,h1.weaken hST,h2.weaken hST,h3.weaken hST,h4⟩
structure Aa (S0:Nat->Prop) (w:World) (l:List ag) (R:au×Int) (k:Nat) (cc:au) (wr:World) (vb vm vn:Value):Prop where
 own:ae wr w #[(cc.nextBox,()),(cc.nextMan,()),vb,vm,vn] 52
 res:ae wr (w.heap.size+1) #[.int .u32 0,.int .u32 0,(),(),()] 52
 cat:av (fun x=>S0 x\/(x=w.heap.size\/x=w.heap.size+1)) wr (.agg #[(cc.nextBox,()),(cc.nextMan,()),vb,vm,vn]) cc
 may:OL cc
 here:cH cc (l.drop k)=R
 kept:NP [] w wr
theorem av.parts {a b c d e cc} (h:av S w (.agg #[a,b,c,d,e]) cc):a=(cc.nextBox,())/\b=(cc.nextMan,())/\fP c/\fP d/\fP e:=by
 obtain⟨x,y,z,e1,h1,h2,h3,_⟩:=h
 simp at e1
 obtain⟨rfl,rfl,rfl,rfl,rfl⟩:=e1
 have⟨p1,q1,r1⟩:=h1.plain.shape
 have⟨p2,q2,r2⟩:=h2.plain.shape
 have⟨p3,q3,r3⟩:=h3.plain.shape
 exact⟨rfl,rfl,⟨_,_,_,r1⟩,⟨_,_,_,r2⟩,⟨_,_,_,r3⟩⟩
theorem sf {S0} (v c vl l lo hi w) (h:av S0 w v c) (Q6:∀x,S0 x->x<w.heap.size) (hc:ie c) (hr:bX w vl l lo hi) (WH:∀r∈l,∀a∈r.runs,aQ a) (P3:∀r∈l,r.runs.length<=1000000):
  am! 45 #[v,vl] w (dC S0 (N8 c l) w):=by
 have Tq:=tK fun W q=>BQ v c W (h.plain.kept0 q) hc
 have QK:Hid (∀W,NP [] w W->av (fun x=>S0 x\/(x=w.heap.size\/x=w.heap.size+1)) W v c):=tK (fun W q=>by
  obtain⟨a,b,d,e,h1,h2,h3,h4⟩:=h
  exact av.kept0 ⟨a,b,d,e,h1.more (fun x hx=>by omega),h2.more (fun x hx=>by omega),h3.more (fun x hx=>by omega),h4⟩ q)
 obtain⟨vb,vm,vn,rfl,hb,hm,hn,Rp,Te⟩:=h
 obtain⟨p1,c1,rfl⟩:=hb.plain.shape
 obtain⟨p2,c2,rfl⟩:=hm.plain.shape
 obtain⟨p3,c3,rfl⟩:=hn.plain.shape
 obtain⟨pl,cl,rfl⟩:=bS.shape hr
 have hL1:(l.length:Int)<=9223372036854775807:=by have:=bS.len hr;unfold maxLen at this;omega
 have⟨HR,HWL,XV,HS0⟩:=gh! hr WH P3 Q6
 have⟨oA,oB⟩:=ch w #[(c.nextBox,()),(c.nextMan,()),(p1,c.boxes.length,c1),(p2,c.mans.length,c2),(p3,c.names.length,c3)] #[.int .u32 0,.int .u32 0,(),(),()] 52 52
 have k0:NP [] w ((w.alloc (.cells #[(c.nextBox,()),(c.nextMan,()),(p1,c.boxes.length,c1),(p2,c.mans.length,c2),(p3,c.names.length,c3)] 52)).alloc (.cells #[.int .u32 0,.int .u32 0,(),(),()] 52)):=((NP.refl _ _).alloc _).alloc _
 have⟨K0,OA,OB⟩:=gg! k0 oA oB
 have⟨x0,x1,x2,x3,x4⟩:=oA.k5
 clear hb hm hn Rp Te hr WH P3 Q6 oA oB k0 hc
 unfold iC at Tq
 by_cases Pz:OL c
 .have Zg:lK c=0:=by unfold lK;rw[if_pos Pz]
  have Qf:N8 c l=cH c l:=by unfold N8;rw[if_pos Pz]
  rw[Qf]
  rw[Zg]at Tq
  have VT:=tK Pz
  obtain⟨R,hR⟩:∃R,cH c l=R:=⟨_,rfl⟩
  rw[hR]
  have Uc:=tK hR
  clear Zg Qf Pz hR
  go_enter func45,ntmps45
  go_wp2_with fail
  refine(Tq.out _ K0.out).mono ?_;rintro e w2 ⟨rfl,k2⟩
  have K2:=tK (K0.out.trans k2)
  have UW:=tK (k2.own OA.out b?)
  have XS:=tK (k2.own OB.out b?)
  go_wp2_with fail
  go_loopw [17] (fun i wr=>∃k cc vb vm vn,k<=l.length/\i=.int .i64 (k:Nat)/\Aa S0 w l R k cc wr vb vm vn) (fun i _=>l.length-(intOf i).toNat)
  case atStart=>exact⟨0,c,_,_,_,Nb _,rfl,⟨UW.out,XS.out,QK.out _ K2.out,VT.out,by rw[List.drop_zero];exact Uc.out,K2.out⟩⟩
  case round=>
   obtain⟨k,cc,vb,vm,vn,hk,rfl,hA⟩:=hrel
   have HA:=tK hA
   obtain⟨_,_,⟨pb,nb,cb,rfl⟩,⟨pm,nm,cm,rfl⟩,⟨pn,nn,cn,rfl⟩⟩:=av.parts hA.cat
   have⟨x0,x1,x2,x3,x4⟩:=hA.own.k5
   have⟨y0,y1,y2,y3,y4⟩:=hA.res.k5
   have⟨f0,f1,f2,f3,f4⟩:=hA.own.y5
   have⟨g0,g1,g2,g3,g4⟩:=hA.res.y5
   by_cases NV:k<l.length
   .obtain⟨b,off,kv,rfl,r0,r1,r2,r3,r4,Oe,Oq,US,hbh,hih⟩:=bX.at_ (HR.out.kept0 hA.kept) k NV
    obtain⟨pr,cr,rfl⟩:=Oe.shape
    have Of:Hid (k<l.length):=NV
    have i1:(k:Int)<l.length:=a?
    have Sr:=HWL.out _ (MJ NV)
    have Qh:=XV.out _ (MJ NV)
    have UI:=fun hm=>wO (c:=cc) NV hm
    have T4:=fun hm C hC h0=>uJ (c:=cc) NV hm (C:=C) hC h0
    have UE:=fun hm hC=>wN (c:=cc) NV hm hC
    rw[hA.here]at UI T4 UE
    have adl:az (l[k]'NV)=true->0<=(l[k]'NV).id:=fun _=>(eG Oq.2.1).1
    generalize hrk:l[k]'NV=rk at*
    have⟨Pk,RY,QH,HID⟩:=gh! UI T4 UE adl
    have hjc:=fun W (q:NP [] wr W)=>ta rk (pr,rk.runs.length,cr) lo hi W (Oe.kept0 q) Qh Oq
    have HJC:=tK hjc
    have Qf:Hid (∀W,NP [] wr W->az rk=true->am! 99 #[.agg #[(cc.nextBox,()),(cc.nextMan,()),(pb,nb,cb),(pm,nm,cm),(pn,nn,cn)],.agg (rk.cells (pr,rk.runs.length,cr))] W (dC (fun x=>S0 x\/(x=w.heap.size\/x=w.heap.size+1)) (aW cc rk) W)):=tK (fun W q hm=>
     IX _ cc rk _ W (HA.out.cat.kept0 q) (fun x hx=>by
      have PW:=q.size
      have h2:=HA.out.res.lt
      rcases hx with hx|hx
      .have:=HS0.out x hx;have:=HA.out.kept.size;omega
      .omega) HA.out.may (Oe.kept0 q).upto Oq Sr hm)
    unfold mZ at HJC
    unfold dC at Qf
    unfold ag.cells at HJC Qf
    clear UI T4 UE adl hjc Oe Oq Sr Qh hA US hbh hih NV hrk
    have oR:=ae.new wr #[rk.kind,(rk.id,()),rk.name,rk.size,(pr,rk.runs.length,cr)] 102
    have kR:NP [] wr (wr.alloc (.cells #[rk.kind,(rk.id,()),rk.name,rk.size,(pr,rk.runs.length,cr)] 102)):=(NP.refl _ _).alloc _
    have⟨OR,KR⟩:=f? oR kR
    clear oR kR
    obtain⟨M,hM⟩:∃M,az rk=M:=⟨_,rfl⟩
    rw[hM]at Pk RY QH HID Qf HJC
    have XX:=tK hM
    clear hM
    cases M with
    |false=>
     have HE:=tK (Pk.out rfl)
     go_wp2_with fail
     refine(HJC.out _ KR.out).mono ?_;rintro e w3 ⟨rfl,k3⟩
     have K3:=tK (HA.out.kept.trans (KR.out.trans k3))
     have O3:=tK (k3.own (HA.out.res.alloc (.cells #[rk.kind,(rk.id,()),rk.name,rk.size,(pr,rk.runs.length,cr)] 102)) b?)
     have⟨y0,y1,y2,y3,y4⟩:=O3.out.k5
     have⟨g0,g1,g2,g3,g4⟩:=O3.out.y5
     go_wp2_with fail
     refine MN (v:=.tuple #[.agg #[.int .u32 0,.int .u32 0,(),(),()],(1:Int)]) (aj results45 rfl rfl (t:=52) ?_ underlying52 rfl c?) rfl ?_
     .exact O3.out.aV _ _ _ _ _
     .exact fl HE.out (jY _ _) (NP.ay K3.out (Or.inr (Nat.le_succ _)) _ _ _ _ _)
    |true=>
     obtain⟨⟨N,C⟩,hN⟩:∃N,aW cc rk=N:=⟨_,rfl⟩
     rw[hN]at Qf RY QH
     simp only at Qf RY QH
     have RZ:Hid (C=0->OL N):=tK (fun hC=>by
      have h1:=tY HA.out.may XX.out (HID.out rfl) (by rw[hN];exact hC)
      rw[hN]at h1;exact h1)
     clear hN
     go_wp2_with fail
     refine(HJC.out _ KR.out).mono ?_;rintro e w3 ⟨rfl,k3⟩
     have KR3:=tK (KR.out.trans k3)
     have Uu:=tK (k3.own OR.out b?)
     have XJ:=tK (KR3.out.own HA.out.own b?)
     have Uk:=tK (KR3.out.own HA.out.res b?)
     have⟨x0,x1,x2,x3,x4⟩:=XJ.out.k5
     have⟨r0,r1,r2,r3,r4⟩:=Uu.out.k5
     go_wp2_with fail
     refine(Qf.out _ KR3.out b?).mono ?_;rintro e w4 ⟨cv,rfl,XL,k4⟩
     obtain⟨vb4,vm4,vn4,rfl,Wr,UT,hx3,YZ,hx5⟩:=XL
     have Oz:av (fun x=>S0 x\/(x=w.heap.size\/x=w.heap.size+1)) w4 (.agg #[(N.nextBox,()),(N.nextMan,()),vb4,vm4,vn4]) N:=⟨vb4,vm4,vn4,rfl,Wr,UT,hx3,YZ,hx5⟩
     obtain⟨_,_,⟨pb4,nb4,cb4,rfl⟩,⟨pm4,nm4,cm4,rfl⟩,⟨pn4,nn4,cn4,rfl⟩⟩:=av.parts Oz
     have T5:=tK Oz
     have K4:=tK (HA.out.kept.trans (KR3.out.trans k4))
     have Q5:=tK ((k4.own XJ.out b?).alloc (.cells #[(N.nextBox,()),(N.nextMan,()),(pb4,nb4,cb4),(pm4,nm4,cm4),(pn4,nn4,cn4)] 52))
     have UO:=tK ((k4.own Uk.out b?).alloc (.cells #[(N.nextBox,()),(N.nextMan,()),(pb4,nb4,cb4),(pm4,nm4,cm4),(pn4,nn4,cn4)] 52))
     have ON4:=tK (ae.new w4 #[(N.nextBox,()),(N.nextMan,()),(pb4,nb4,cb4),(pm4,nm4,cm4),(pn4,nn4,cn4)] 52)
     have⟨x0,x1,x2,x3,x4⟩:=Q5.out.k5
     have⟨f0,f1,f2,f3,f4⟩:=Q5.out.y5
     have⟨y0,y1,y2,y3,y4⟩:=UO.out.k5
     have⟨g0,g1,g2,g3,g4⟩:=UO.out.y5
     have⟨n0,n1,n2,n3,n4⟩:=ON4.out.k5
     clear Wr UT hx3 YZ hx5 Oz
     by_cases hC:C=0
     .subst hC
      have Xk:=tK (QH.out b? rfl)
      have Ul:=tK (RZ.out rfl)
      go_wp2_with fail
      go_roundw
      case rel=>
       have hkT:NP [w.heap.size] w4 ((((((w4.alloc (.cells #[(N.nextBox,()),(N.nextMan,()),(pb4,nb4,cb4),(pm4,nm4,cm4),(pn4,nn4,cn4)] 52)).setCell w (N.nextBox,())).setCell (aa w 1) (N.nextMan,())).setCell (aa w 2) (pb4,nb4,cb4)).setCell (aa w 3) (pm4,nm4,cm4)).setCell (aa w 4) (pn4,nn4,cn4)):=NP.ay ((NP.refl _ _).alloc _) (Or.inl b?) _ _ _ _ _
       refine⟨k+1,N,_,_,_,Of.out,j?,⟨Q5.out.aV _ _ _ _ _,?_,T5.out.aS hkT (fun x hx=>Or.inr (Or.inl h?)),Ul.out,Xk.out.symm,NP.ay (K4.out.alloc _) (Or.inr (MG _)) _ _ _ _ _⟩⟩
       exact((((UO.out.other (p:=w) (Nat.succ_ne_self _) _).other (p:=(aa w 1)) (Nat.succ_ne_self _) _).other (p:=(aa w 2)) (Nat.succ_ne_self _) _).other (p:=(aa w 3)) (Nat.succ_ne_self _) _).other (p:=(aa w 4)) (Nat.succ_ne_self _) _
      case measure=>(have hh:=Of.out;simp[intOf];omega)
     .have HE:=tK (RY.out b? C rfl hC)
      go_wp2_with fail
      refine MN (v:=.tuple #[.agg #[.int .u32 0,.int .u32 0,(),(),()],C]) (aj results45 rfl rfl (t:=52) ?_ underlying52 rfl c?) rfl ?_
      .exact UO.out.aV _ _ _ _ _
      .exact fl HE.out (jY _ _) (NP.ay (K4.out.alloc _) (Or.inr (Nat.le_succ _)) _ _ _ _ _)
   .obtain rfl:k=l.length:=a?
    have Ph:R=(cc,0):=by
     have:=hA.here
     rw[List.drop_length]at this
     exact this.symm
    have HE:=tK Ph
    have i1:¬(l.length:Int)<l.length:=a?
    clear hA Ph
    go_wp2_with fail
    have hkT:NP [w.heap.size+1] wr (((((wr.setCell (aa (w+1) 0) (cc.nextBox,())).setCell (aa (w+1) 1) (cc.nextMan,())).setCell (aa (w+1) 2) (pb,nb,cb)).setCell (aa (w+1) 3) (pm,nm,cm)).setCell (aa (w+1) 4) (pn,nn,cn)):=NP.ay (NP.refl _ _) (Or.inl b?) _ _ _ _ _
    have Ws:=HA.out.cat.aS hkT (fun x hx=>Or.inr (Or.inr h?))
    have Za:av S0 _ _ cc:=av.cI Ws (fun x hx=>Or.inl hx)
    refine MN (v:=.tuple #[.agg #[(cc.nextBox,()),(cc.nextMan,()),(pb,nb,cb),(pm,nm,cm),(pn,nn,cn)],(0:Int)]) (aj results45 rfl rfl (t:=52) ?_ underlying52 rfl c?) rfl ?_
    .exact HA.out.res.aV _ _ _ _ _
    .exact fl HE.out Za (NP.ay HA.out.kept (Or.inr (Nat.le_succ _)) _ _ _ _ _)
 .have Zg:lK c=110:=by unfold lK;rw[if_neg Pz]
  have Qf:N8 c l=(jR,110):=by unfold N8;rw[if_neg Pz]
  rw[Zg]at Tq
  have HE:=tK Qf
  clear Zg Qf Pz
  go_enter func45,ntmps45
  go_wp2_with fail
  refine(Tq.out _ K0.out).mono ?_;rintro e w2 ⟨rfl,k2⟩
  have K2:=tK (K0.out.trans k2)
  have XS:=tK (k2.own OB.out b?)
  have⟨y0,y1,y2,y3,y4⟩:=XS.out.k5
  have⟨g0,g1,g2,g3,g4⟩:=XS.out.y5
  go_wp2_with fail
  refine MN (v:=.tuple #[.agg #[.int .u32 0,.int .u32 0,(),(),()],(110:Int)]) (aj results45 rfl rfl (t:=52) ?_ underlying52 rfl c?) rfl ?_
  .exact XS.out.aV _ _ _ _ _
  .exact fl HE.out (jY _ _) (NP.ay K2.out (Or.inr (Nat.le_succ _)) _ _ _ _ _)
theorem vj (n l x):(Ol n l x).2.1.length<=l.length:=by
 unfold Ol
 grind
theorem gY (k l x):(N6 k l x).2.1.length<=l.length:=vj _ _ _
theorem xI (m l x):(PN m l x).2.1.length<=l.length:=by
 unfold PN
 simp only
 split
 .simp
 .exact gY _ _ _
theorem Dt (l x):(dY l x).2.1.length<=l.length:=by
 grind [dY,vj,xI]
theorem zL (k l x):(qP k l x).2.1.length<=l.length:=by
 unfold qP;split
 .exact gY _ _ _
 simp
theorem zK (k l x):(uV k l x).2.1.length<=l.length:=by
 unfold uV;split
 .exact Dt _ _
 simp
theorem zJ (k l x):(ux k l x).2.1.length<=l.length:=by
 unfold ux;split
 .exact gY _ _ _
 simp
theorem zM (k l x):(vq k l x).2.1.length<=l.length:=by
 unfold vq;split
 .exact gY _ _ _
 simp
theorem vk (n l x):(Od n l x).2.1.length<=l.length:=by
 induction n with
 |zero=>exact MG _
 |succ n ih=>
  grind [Od,gY]
theorem M71 (h:A:=by
 by_cases hx:(Ol ((PN 65536 (iR s).2.1 (iR s).2.2).1:Int) (PN 65536 (iR s).2.1 (iR s).2.2).2.1 (PN 65536 (iR s).2.1 (iR s).2.2).2.2).2.2=0
 .exact hx
 .exact absurd (by rw[eT,eT2];exact lh hx) hn):A:=h
theorem M70 {A:Prop}(h:A:=by
 have hi:(iR s).1≠0:=by
  have:=of_decide_eq_true m2.symm
  omega
 have eI:iR s=N6 4 (PP s).2.1 (PP s).2.2:=by unfold iR qP;rw[m1];rfl
 rw[eI]at hi
 have:=(jy (jx hi)).2
 rw[<-eI]at this
 omega):A:=h
theorem Du (h:gk s=some (r,t)):az r=true/\t.length+2<=s.length:=by
 unfold gk at h
 split at h
 .rename_i hh
  injection h with h
  injection h with h1 h2
  subst h1 h2
  refine⟨hh.2,?_⟩
  have hk:=nI hh.2
  have hm:=hh.2
  have l5:(Ps (nR s).1 s).2.1.length<=(nR s).2.1.length:=vk _ _ _
  have l4:(nR s).2.1.length<=(zR s).2.1.length:=zM _ _ _
  have l3:(zR s).2.1.length<=(tR s).2.1.length:=zJ _ _ _
  have l2:(tR s).2.1.length<=(iR s).2.1.length:=zK _ _ _
  have l1:(iR s).2.1.length<=(PP s).2.1.length:=zL _ _ _
  have ek:(Ps (nR s).1 s).1.kind=((PP s).1:Int):=rfl
  have ei:(Ps (nR s).1 s).1.id=((iR s).1:Int):=rfl
  have en:(Ps (nR s).1 s).1.name=(tR s).1:=rfl
  rw[ek]at hk
  have k0:(PP s).1≠0:=a?
  have e0:=jy (jx (k:=1) (l:=s) (x:=0) k0)
  have e0':(PP s).2.1.length+1=s.length:=e0.2
  unfold az gq at hm
  simp only[No,Bool.or_eq_true,decide_eq_true_eq,beq_iff_eq]at hm
  obtain⟨m1,m2,m3,m4,_⟩:=hm
  rw[ek,ei]at m2
  rw[ek,en]at m4
  rw[ek]at m1
  rcases m1 with m1|m1
  .rw[m1]at m2
   exact M70
  .rw[m1]at m4
   have hn:(tR s).1≠[]:=by
    intro e;rw[e]at m4;cases m4
   have eT:tR s=dY (iR s).2.1 (iR s).2.2:=by unfold tR uV;rw[m1];rfl
   have eT2:dY (iR s).2.1 (iR s).2.2=Ol ((PN 65536 (iR s).2.1 (iR s).2.2).1:Int) (PN 65536 (iR s).2.1 (iR s).2.2).2.1 (PN 65536 (iR s).2.1 (iR s).2.2).2.2:=rfl
   have h0:(Ol ((PN 65536 (iR s).2.1 (iR s).2.2).1:Int) (PN 65536 (iR s).2.1 (iR s).2.2).2.1 (PN 65536 (iR s).2.1 (iR s).2.2).2.2).2.2=0:=by
    exact M71
   have⟨q1,q2,q3⟩:=nf h0
   have q4:=congrArg List.length q3
   rw[tN,<-eT2,<-eT]at q4
   have q5:=xI 65536 (iR s).2.1 (iR s).2.2
   have q6:0<(tR s).1.length:=Nu.2 hn
   omega
 .cases h
theorem adD {A:Prop}(h:A:=by
 rw[dg]at h
 injection h with h
 injection h with h1 h2
 subst h1 h2
 exact⟨fun r hr=>(by cases hr),a?,rfl⟩):A:=h
theorem M80 (h:A:=by
 refine⟨fun r hr=>?_,a?,by rw[tN,i3];rfl⟩
 rcases Na.1 hr with hr|hr
 .exact i1 r hr
 .have:r=x:=F!
  subst this;exact j1):A:=h
theorem td:∀(n:Nat) {s t:List UInt8} {o:List ag},dg n s=some (o,t)->(∀r∈o,az r=true)/\t.length+2*n<=s.length/\o.length=n
 |0,s,t,o,h=>by
  exact adD
 |n+1,s,t,o,h=>by
  rw[dg]at h
  split at h
  .cases h
  .rename_i o' r' he
   have⟨i1,i2,i3⟩:=td n he
   split at h
   .cases h
   .rename_i x t' hx
    injection h with h
    injection h with h1 h2
    subst h1 h2
    have⟨j1,j2⟩:=Du hx
    exact M80
theorem Bp (h:dp s=some o):(∀r∈o,az r=true)/\2*o.length<=s.length:=by
 unfold dp at h
 split at h
 .split at h
  .rename_i o' he
   injection h with h
   subst h
   have⟨i1,i2,i3⟩:=td _ he
   have:=gY 2 s 0
   exact⟨i1,a?⟩
  .cases h
 .cases h
theorem FY (h:gO s=some (o,t)):(∀r∈o,az r=true)/\2*o.length<=s.length:=by
 unfold gO at h
 split at h
 .cases h
 .rename_i o' hb
  split at h
  .rename_i hc
   injection h with h
   injection h with h1 _
   subst h1
   have⟨i1,i2⟩:=Bp hb
   have:=(iZ hc.1).2
   exact⟨i1,a?⟩
  .cases h
theorem te:∀(f:Nat) {s:List UInt8} {ls:List (List ag)},fq f s=some ls->∀l∈ls,(∀r∈l,az r=true)/\2*l.length<=s.length
 |0,s,ls,h=>by
  grind [fq]
 |f+1,s,ls,h=>by
  rw[fq]at h
  split at h
  .simp_all
  .cases ht:gO s with
   |none=>simp_all
   |some p=>
    rw[ht]at h
    simp only[Option.bind_some]at h
    cases hr:fq f p.2 with
    |none=>simp_all
    |some ms=>
     rw[hr]at h
     simp only[Option.map_some]at h
     injection h with h
     subst h
     intro l hl
     have hless:=q7 (s:=s) (r:=p.2) (o:=p.1) ht
     rcases List.mem_cons.1 hl with rfl|hl
     .exact FY (t:=p.2) ht
     .obtain⟨i1,i2⟩:=te f hr l hl
      grind
theorem kO {ls} (h:O4 s=some ls):∀l∈ls,(∀r∈l,az r=true)/\2*l.length<=s.length:=te _ h
theorem sV (h:az r=true) (hf:r.fits):∀a∈r.runs,aQ a:=by
 intro a ha
 obtain⟨k,hk,rfl⟩:=Nr.1 ha
 have:=(jU h hf).rf.2 k hk
 unfold aQ
 omega
end
section
section
open Go.Proofs.Tryz Go.RowKit
variable {s:List UInt8} {w w' w1:World} {v:Value} {ls:List (List ag)} {base bx:Nat} {nb nm:Int} {A B C:List NS}
def jI (s:List UInt8) (w:World) (e:Ending) (w':World):Prop:=
 ((∃c v,OL c/\il c/\bN c=s/\av (fun x=>x<w.heap.size) w' v c/\e=.returned (.tuple #[v,(0:Int)]))\/(fT s/\e=.returned (.tuple #[.agg #[.int .u32 0,.int .u32 0,(),(),()],(110:Int)])))/\NP [] w w'
theorem iX (h:fT s) (k:NP [] w w'):jI s w (.returned (.tuple #[.agg #[.int .u32 0,.int .u32 0,(),(),()],(110:Int)])) w':=⟨Or.inr ⟨h,rfl⟩,k⟩
theorem Gf {c} (h1:OL c) (h2:bN c=s) (h3:av (fun x=>x<w.heap.size) w' v c) (k:NP [] w w'):jI s w (.returned (.tuple #[v,(0:Int)])) w':=⟨Or.inl ⟨c,v,h1,h3.plain.fit,h2,h3,rfl⟩,k⟩
theorem ve (k l):(aH k l).length<=l.length:=by
 unfold aH;rw[MP];exact List.length_filter_le _ _
theorem vd (l):(aH 1 l).length+(aH 2 l).length+(aH 3 l).length<=l.length:=by
 induction l with
 |nil=>simp[aH]
 |cons a l ih=>
  have e:∀k,aH k (a::l)=aH k [a]++aH k l:=fun k=>lG k [a] l
  simp only[e,tN,Nj]
  have:(aH 1 [a]).length+(aH 2 [a]).length+(aH 3 [a]).length<=1:=by
   unfold aH
   by_cases h1:a.kind=1
   .simp[h1]
   .by_cases h2:a.kind=2
    .simp[h2]
    .by_cases h3:a.kind=3
     .simp[h3]
     .simp[h1,h2,h3]
  omega
theorem Dj {k l a} (h:a∈aH k l):∃r∈l,r.item=a:=by
 unfold aH at h
 obtain⟨r,hr,rfl⟩:=ND.1 h
 exact⟨r,(List.mem_filter.1 hr).1,rfl⟩
theorem nV {u} (h:∀l∈ls,∀r∈l,az r=true) (hl:ls.flatten.length<=3000):ie (Qr u ls)/\(Qr u ls).boxes.length+(Qr u ls).mans.length+(Qr u ls).names.length<=3000:=by
 have hs:∀k,jk (aH k ls.flatten):=fun k=>⟨by have:=ve k ls.flatten;omega,fun a ha=>by
  obtain⟨r,hr,rfl⟩:=Dj ha
  have⟨l,hl,hr⟩:=List.mem_flatten.1 hr
  have:=jz (h l hl r hr)
  show r.runs.length<=_
  omega⟩
 exact⟨⟨hs 1,hs 2,hs 3⟩,Nk (vd _) hl⟩
theorem wG {e:TypeId} {size n xs} (h:w.ownsRow base e size v n xs) (m):bD (fun x=>x<base) v m:=by
 intro g off sp n' c hv _ NV
 rcases h.2 with⟨rfl,_⟩|⟨g',cap,cur,rfl,hb,_⟩
 .cases hv
 .injection hv with hv
  injection hv with hv
  injection hv with hv
  subst hv
  omega
theorem eP.tZ {va vb vc xs ys zs} (h:eP base w va vb vc xs ys zs):aq (fun x=>x<base) w va (xs.map (·.1)):=
 ⟨xs,rfl,bO.bB h.ra,fun x hx=>⟨(h.ia x hx).ok,wG (h.ia x hx).1 _⟩,wG h.ra _⟩
theorem M98 {A:Prop}(h:A:=by
 have i1:=r.tZ
 have i2:=r.cM.tZ
 have i3:=r.cM.cM.tZ
 rw[e1]at i1
 rw[e2]at i2
 rw[e3]at i3
 exact⟨va,vb,vc,rfl,i1,i2,i3,hb,hm⟩):A:=h
theorem iP.cat (h:iP w1 w bx nb nm A B C) (hb:(Lit.int .u32 nb).wf=true) (hm:(Lit.int .u32 nm).wf=true):
  ∃va vb vc,(fP va/\fP vb/\fP vc)/\ae w bx #[(nb,()),(nm,()),va,vb,vc] 52/\NP [bx] w1 w/\(∀w',NP [] w w'->av (fun x=>x<w1.heap.size) w' (.agg #[(nb,()),(nm,()),va,vb,vc]) ⟨nb,nm,A,B,C⟩/\∀g cs,ae w' g cs 52->∀a b c d e,av (fun x=>x<w1.heap.size) (((((w'.setCell ⟨g,0,none⟩ a).setCell ⟨g,1,none⟩ b).setCell ⟨g,2,none⟩ c).setCell ⟨g,3,none⟩ d).setCell ⟨g,4,none⟩ e) (.agg #[(nb,()),(nm,()),va,vb,vc]) ⟨nb,nm,A,B,C⟩):=by
 obtain⟨va,vb,vc,xs,ys,zs,o,r3,e1,e2,e3,k⟩:=h
 have hc:∀W,eP w1 W va vb vc xs ys zs->av (fun x=>x<w1.heap.size) W (.agg #[(nb,()),(nm,()),va,vb,vc]) ⟨nb,nm,A,B,C⟩:=fun W r=>by
  exact M98
 have PX:∀{v:Value} {n:Nat} {us:List Value},w.ownsRow w1 113 4 v n us->fP v:=fun h=>by
  obtain⟨p,c,rfl⟩:=ah h
  exact⟨_,_,_,rfl⟩
 refine⟨va,vb,vc,⟨PX r3.ra,PX r3.rb,PX r3.rc⟩,o,k,fun w' q=>⟨hc _ (r3.kept0 q),fun g cs og a b c d e=>hc _ ?_⟩⟩
 exact(((((r3.kept0 q).set og 0 a).set (og.set 0 a) 1 b).set ((og.set 0 a).set 1 b) 2 c).set (((og.set 0 a).set 1 b).set 2 c) 3 d).set ((((og.set 0 a).set 1 b).set 2 c).set 3 d) 4 e
theorem iP.kept0 (h:iP w1 w bx nb nm A B C) (k:NP [] w w'):iP w1 w' bx nb nm A B C:=by
 obtain⟨va,vb,vc,xs,ys,zs,o,r3,e1,e2,e3,kk⟩:=h
 exact⟨va,vb,vc,xs,ys,zs,k.own o b?,r3.kept0 k,e1,e2,e3,kk.trans (k.mono (fun x hx=>by cases hx))⟩
theorem cD.at_ {w0 ll} (h:cD w0 w v ll) (i) (hi:i<ll.length):
  ∃b off kv c,v=.slice (some ⟨b,off,none⟩) ll.length c/\∀W S,NP S w W->ig w0 w S->W.cell? ⟨b,off+i,none⟩=some kv/\aI w0 W kv ll[i]:=by
 obtain⟨vs,rfl,h2,h3⟩:=h
 have hi':i<vs.length:=D?
 obtain⟨g,c,rfl,g1,g2,g3,g4,g5⟩:=cU h2 e?
 refine⟨g,0,vs[i].2,c,rfl,fun W S k hS=>⟨?_,?_⟩⟩
 .have hr:=cF h2 k (fun x hx hb cs hc=>by
   rcases hS x hx with h1|⟨TL,t,o,_,_,ht⟩
   .omega
   .exact ht (lA o hc))
  have⟨g',c',e,_,_,_,_,g5'⟩:=cU hr e?
  injection e with e
  injection e with e
  injection e with e
  subst e
  rw[Nat.zero_add]
  refine g5' i _ ?_
  simp[hi']
 .rw[Ny]
  exact(h3 _ (MJ hi')).kept k hS.recs
theorem iP.start {w1 bx nb nm} (o:ae w1 bx #[(nb,()),(nm,()),(),(),()] 52):iP w1 w1 bx nb nm [] [] []:=
 ⟨_,_,_,[],[],[],o,eP.nil _ _,rfl,rfl,rfl,NP.refl _ _⟩
theorem pO {k} (hk:k<ls.length):(ls.take (k+1)).flatten=(ls.take k).flatten++ls[k]:=by
 rw[MI hk,Nv];simp
theorem qo (l x):(Lit.int .u32 ((N6 4 l x).1:Int)).wf=true:=by
 have:(N6 4 l x).1<4294967296:=cp 4 l x
 exact tF a? a?
theorem M45 {A:Prop}(h:A:=by
 have⟨y0,y1,y2,y3,y4⟩:=OA7.out.k5
 have⟨g0,g1,g2,g3,g4⟩:=OA7.out.y5
 go_wp2_with fail
 refine MN (v:=.tuple #[.agg #[.int .u32 0,.int .u32 0,(),(),()],(110:Int)]) (aj results193 rfl rfl (t:=52) ?_ underlying52 rfl c?) rfl ?_
 .exact OA7.out.aV _ _ _ _ _
 .exact iX Pk.out (NP.ay K7.out (Or.inr (MG _)) _ _ _ _ _)):A:=h
theorem M24 {A:Prop}(h:A:=by
 have⟨y0,y1,y2,y3,y4⟩:=UW.out.k5
 have⟨g0,g1,g2,g3,g4⟩:=UW.out.y5
 go_wp2_with fail
 refine MN (v:=.tuple #[.agg #[.int .u32 0,.int .u32 0,(),(),()],(110:Int)]) (aj results193 rfl rfl (t:=52) ?_ underlying52 rfl c?) rfl ?_
 .exact UW.out.aV _ _ _ _ _
 .exact iX Pk.out (NP.ay K2.out (Or.inr (MG _)) _ _ _ _ _)):A:=h
theorem M23 {A:Prop}(h:A:=by
 have⟨y0,y1,y2,y3,y4⟩:=WQ.out.k5
 have⟨g0,g1,g2,g3,g4⟩:=WQ.out.y5
 go_wp2_with fail
 refine MN (v:=.tuple #[.agg #[.int .u32 0,.int .u32 0,(),(),()],(110:Int)]) (aj results193 rfl rfl (t:=52) ?_ underlying52 rfl c?) rfl ?_
 .exact WQ.out.aV _ _ _ _ _
 .exact iX Pk.out (NP.ay K9.out (Or.inr (MG _)) _ _ _ _ _)):A:=h
theorem L6 (s w) (hs:s.length<=1000000) (HL:∀t ls,eO s=some t->O4 (t.drop 12)=some ls->∀l∈ls,l.length<=3000):
  am! 193 #[s] w (jI s w):=by
 have HOP:=tK fun W=>LF s W hs
 have⟨HLL,HS⟩:=f? HL hs
 have oA0:=ae.new w #[.int .u32 0,.int .u32 0,(),(),()] 52
 have OA0:=tK oA0
 have K0:Hid (NP [] w (w.alloc (.cells #[.int .u32 0,.int .u32 0,(),(),()] 52))):=tK ((NP.refl _ _).alloc _)
 clear oA0 HL hs
 go_enter func193,ntmps193
 go_wp2_with fail
 refine(HOP.out _).mono ?_;rintro e w2 ⟨Sq,k2⟩
 have K2:=tK (K0.out.trans k2)
 have UW:=tK (k2.own OA0.out b?)
 clear k2
 rcases Sq with⟨t,Sq,rfl⟩|⟨Sq,cd,hcd,rfl⟩
 .have UY:t.length<=1000000:=by
   have e:=CM Sq
   have:=congrArg List.length e
   unfold dF at this
   rw[tN]at this
   have:=HS.out;omega
  have hz:((bs t).size:Int)=t.length:=ak!
  have Qx:(bs t).size=t.length:=NQ t
  by_cases g1:12<=t.length
  .have d1:decide ((t.length:Int)<12)=false:=e?
   have E4:(bs t).extract 0 4=bs (t.take 4):=by rw[aY];simp
   by_cases g2:t.take 4=[67,65,84,76]
   .have E4':(bs t).extract 0 4={data:=#[67,65,84,76]}:=by rw[E4,g2];rfl
    have E8:(bs t).extract 4 12=bs ((t.take 12).drop 4):=by rw[aY,List.drop_take]
    have E12:(bs t).extract 12 t.length=bs (t.drop 12):=by rw[aY,Nh (Nat.le_of_eq (MQ ..))]
    have Ux:Hid (∀W,am! 188 #[.string ((bs t).extract 4 12)] W fun e w'=>e=.returned (.pointer (some ⟨W.heap.size,0,none⟩))/\aP w' W.heap.size ((t.take 12).drop 4) 0/\NP [] W w'):=tK (fun W=>by
     have:=nz ((bs t).extract 4 12) W
     rw[E8]at this ⊢
     rw[cC]at this
     exact this)
    have HJR:Hid (∀W,am! 124 #[.string ((bs t).extract 12 t.length)] W (lP (t.drop 12) W)):=tK (fun W=>by
     rw[E12]
     exact GI (t.drop 12) W z?)
    have Uy:=tK (fun ls h hh=>AS (ls:=ls) Sq h hh)
    have aam:=tK (fun ls h r hm hh=>AR (ls:=ls) Sq h (r:=r) hm hh)
    have WY:=tK (fun ls h hh=>AQ (ls:=ls) Sq h hh)
    have Se:=tK (fun h=>AN Sq h)
    have YR:=tK (fun ls h=>HLL.out t ls Sq h)
    have i1:(12:Int)<=t.length:=a?
    have i2:(4:Int)<=t.length:=a?
    have j1:(t.length:Int)<=1000000:=a?
    obtain⟨u,hu⟩:∃u,(t.take 12).drop 4=u:=⟨_,rfl⟩
    rw[hu]at Ux Uy
    obtain⟨z,hz'⟩:∃z,t.drop 12=z:=⟨_,rfl⟩
    rw[hz']at HJR Uy aam WY Se YR
    have S6:=tK (qo u 0)
    have S3:=tK (qo (N6 4 u 0).2.1 (N6 4 u 0).2.2)
    clear E4 E8 E12 Sq hu hz' g1 g2 HLL UY
    unfold lP at HJR
    go_wp2_with fail
    refine(Ux.out _).mono ?_;rintro e w3 ⟨rfl,rd3,k3⟩
    have RD3:=tK rd3
    have K3:=tK (K2.out.trans k3)
    have Uh:=tK (k3.own UW.out b?)
    have HB:Hid (w.heap.size<w2.heap.size):=tK UW.out.lt
    clear rd3 k3
    generalize w2.heap.size=rb at*
    go_wp2_with fail
    refine(np rb u 0 _ RD3.out).mono ?_;rintro e w4 ⟨rfl,rd4,k4⟩
    have RD4:=tK rd4
    have K4:=tK (K3.out.call k4 (fun x hx=>Or.inr (by have e:x=rb:=h?;rw[e];have:=HB.out;omega)))
    have Sh:=tK (k4.own Uh.out (by have:=HB.out;simp;omega))
    clear rd4 k4
    go_wp2_with fail
    refine(np rb _ _ _ RD4.out).mono ?_;rintro e w5 ⟨rfl,rd5,k5⟩
    have K5:=tK (K4.out.call k5 (fun x hx=>Or.inr (by have e:x=rb:=h?;rw[e];have:=HB.out;omega)))
    have OA5:=tK (k5.own Sh.out (by have:=HB.out;simp;omega))
    clear rd5 k5
    have ENB:Hid (nbT u=(N6 4 u 0).1):=tK rfl
    have ENM:Hid (nmT u=(N6 4 (N6 4 u 0).2.1 (N6 4 u 0).2.2).1):=tK rfl
    rw[<-ENB.out]at S6
    rw[<-ENM.out]at S3
    rw[<-ENB.out,<-ENM.out]
    obtain⟨nb,RG⟩:∃nb:Int,(nbT u:Int)=nb:=⟨_,rfl⟩
    obtain⟨nm,Rb⟩:∃nm:Int,(nmT u:Int)=nm:=⟨_,rfl⟩
    rw[RG]at S6
    rw[Rb]at S3
    rw[RG,Rb]
    have HCT:Hid (∀ls,Qr u ls=⟨nb,nm,aH 1 ls.flatten,aH 2 ls.flatten,aH 3 ls.flatten⟩):=tK (fun ls=>by unfold Qr;rw[RG,Rb])
    have OB6:=tK (ae.new w5 #[(nb,()),(nm,()),(),(),()] 52)
    have OA6:=tK (OA5.out.alloc (.cells #[(nb,()),(nm,()),(),(),()] 52))
    have K6:=tK (K5.out.alloc (.cells #[(nb,()),(nm,()),(),(),()] 52))
    have Xv:Hid (w.heap.size<w5.heap.size):=tK OA5.out.lt
    clear RG Rb ENB ENM
    go_wp2_with fail
    refine(HJR.out _).mono ?_;rintro e w7 ⟨hjr,k7⟩
    have K7:=tK (K6.out.trans k7)
    have OA7:=tK (k7.own OA6.out b?)
    have OB7:=tK (k7.own OB6.out b?)
    clear k7
    generalize w5.heap.size=bx at*
    rcases hjr with⟨ls,v,P0,Tt,rfl⟩|⟨P0,rfl⟩
    .have VU:=tK Tt
     obtain⟨p8,c8,rfl⟩:=Tt.shape
     have Up:=tK P0
     have HLE:=tK (YR.out ls P0)
     have RZ:=tK (fun l hl=>(kO P0 l hl).1)
     clear Tt
     by_cases g3:ls.length<=1
     .have d3:decide ((ls.length:Int)>1)=false:=e?
      have d3':decide ((1:Int)<ls.length)=false:=d3
      have Ug:ls.flatten.length<=3000:=by
       cases hls:ls with
       |nil=>simp
       |cons a m=>
        have hm:m=[]:=Nc (by rw[hls]at g3;simpa using g3)
        have:=HLE.out a (by rw[hls];simp)
        rw[hm]
        simpa using this
      have ZL:=tK Ug
      have j3:(ls.length:Int)<=1:=a?
      have G0:=tK (iP.start OB7.out)
      have SP:Hid (bx<w7.heap.size):=tK OB7.out.lt
      have abE:Hid (∀k (hk:k<ls.length),∃b off kv,p8=some ⟨b,off,none⟩/\∀W,NP [bx] w7 W->W.cell? ⟨b,off+k,none⟩=some kv/\aI (w5.alloc (.cells #[(nb,()),(nm,()),(),(),()] 52)) W kv ls[k]):=tK (fun k hk=>by
       have⟨b,off,kv,c,e,hh⟩:=VU.out.at_ k hk
       injection e with e
       exact⟨b,off,kv,e,fun W q=>hh W _ q (ig.one OB7.out d? d? d?)⟩)
      have XQ:=tK fun W (q:NP [bx] w7 W)=>q.own OA7.out (by have:=Xv.out;simp;omega)
      have V6:=tK fun W (q:NP [bx] w7 W)=>K7.out.call q (fun x hx=>Or.inr (by have e:x=bx:=h?;rw[e];have:=Xv.out;omega))
      clear P0 Ug g3 d1
      go_wp2_with fail
      clear d3 d3'
      go_loopw [57] (fun i wr=>∃k:Nat,k<=ls.length/\i=(k:Int)/\iP w7 wr bx nb nm (aH 1 (ls.take k).flatten) (aH 2 (ls.take k).flatten) (aH 3 (ls.take k).flatten)) (fun i _=>ls.length-(intOf i).toNat)
      case atStart=>exact⟨0,Nb _,rfl,G0.out⟩
      case round=>
       obtain⟨k,hk,rfl,hG⟩:=hrel
       rename World=>wr
       by_cases NV:k<ls.length
       .have i3:(k:Int)<ls.length:=a?
        have⟨va0,vb0,vc0,_,_,hkp,_⟩:=hG.cat S6.out S3.out
        obtain⟨b,off,kv,rfl,ZV⟩:=abE.out k NV
        have⟨hc0,hrec0⟩:=ZV wr hkp
        obtain⟨p9,c9,rfl⟩:=hrec0.shape
        have Tp:=tK fun W (q:NP [bx] w7 W)=>(ZV W q).2.oI
        have⟨HG,Of⟩:=f? hG NV
        have HFT:=tK (pO NV)
        have HML:=tK (RZ.out ls[k] (MJ NV))
        have ac0:=tK (HLE.out ls[k] (MJ NV))
        have aey:Hid (∀r∈ls[k],r∈ls.flatten):=tK (fun r hr=>List.mem_flatten.2 ⟨_,MJ NV,hr⟩)
        have acP:Hid ((ls.take k).flatten.length<=3000):=tK (by
         have h1:(ls.take k).flatten.length+(ls.drop k).flatten.length=ls.flatten.length:=by rw[<-tN,<-Nv,List.take_append_drop]
         have:=ZL.out;omega)
        clear hG hkp ZV hrec0 hk
        obtain⟨acc,hacc⟩:∃acc,(ls.take k).flatten=acc:=⟨_,rfl⟩
        rw[hacc]at HG HFT acP
        clear hacc
        generalize WU:ls[k]'NV=l0 at*
        have i5:(l0.length:Int)<=3000:=by have:=ac0.out;omega
        clear WU NV
        go_wp2_with fail
        obtain⟨wo,rfl⟩:∃wo:World,wo=wr:=⟨_,rfl⟩
        go_loopw [63] (fun i wx=>∃j:Nat,j<=l0.length/\i=(j:Int)/\iP w7 wx bx nb nm (aH 1 (acc++l0.take j)) (aH 2 (acc++l0.take j)) (aH 3 (acc++l0.take j))) (fun i _=>l0.length-(intOf i).toNat)
        case atStart=>exact⟨0,Nb _,rfl,by simpa using HG.out⟩
        case round=>
         obtain⟨j,hj,rfl,ZM⟩:=hrel
         rename World=>wx
         by_cases WE:j<l0.length
         .have i4:(j:Int)<l0.length:=a?
          have⟨va1,vb1,vc1,_,_,hkp1,_⟩:=ZM.cat S6.out S3.out
          obtain⟨b',off',rv,rfl,y0,y1,y2,y3,y4,hruns,Oq,_⟩:=(Tp.out wx hkp1).at_ j WE
          have VA:=HML.out l0[j] (MJ WE)
          have PF:acc++l0.take (j+1)=(acc++l0.take j)++[l0[j]]:=by rw[MI WE,MW]
          have hlen:(aH 1 (acc++l0.take j)).length+(aH 2 (acc++l0.take j)).length+(aH 3 (acc++l0.take j)).length<=100000:=by
           have h1:=vd (acc++l0.take j)
           rw[tN,MO]at h1
           have:=acP.out;have:=ac0.out;omega
          have R7:=fun W (q:NP [] wx W)=>Kl l0[j] rv w7 W bx nb nm _ _ _ _ _ (ZM.kept0 q) SP.out (hruns.kept0 q) Oq (sV VA Oq) (by have:=jz VA;omega) hlen
          unfold eS at R7
          simp only[<-s7]at R7
          rw[<-PF]at R7
          have⟨VH,Yt⟩:=f? R7 WE
          have RY:Hid (¬(l0[j].kind=1\/l0[j].kind=2\/l0[j].kind=3)->fT s):=tK (fun hh=>aam.out ls Up.out l0[j] (aey.out _ (MJ WE)) hh)
          obtain⟨pr,nr,cr,rfl⟩:fP rv:=by
           obtain⟨p,c,rfl⟩:=hruns.shape
           exact⟨_,_,_,rfl⟩
          clear ZM hkp1 hruns Oq VA PF hlen R7 hj
          generalize l0[j]'WE=r at*
          clear WE
          obtain⟨kd,id,nm',sz,rr⟩:=r
          unfold ag.cells at VH
          simp only at VH RY y0 y1 y2 y3 y4
          go_wp2_with fail
          refine(VH.out _ ((NP.refl _ _).alloc _)).mono ?_;rintro e w9 ⟨rfl,hG9⟩
          have HG9:=tK hG9
          have⟨va2,vb2,vc2,_,_,hkp2,_⟩:=hG9.cat S6.out S3.out
          have WQ:=tK (XQ.out w9 hkp2)
          have K9:=tK (V6.out w9 hkp2)
          clear hG9 hkp2 y0 y1 y2 y3 y4
          by_cases hkd:kd=1\/kd=2\/kd=3
          .have dk:decide (kd=1\/kd=2\/kd=3)=true:=MV hkd
           rw[dk]
           clear hkd dk
           go_wp2_with fail
           go_roundw
           case rel=>exact⟨j+1,Yt.out,G?,HG9.out⟩
           case measure=>(have hh:=Yt.out;simp[intOf];omega)
          .have dk:decide (kd=1\/kd=2\/kd=3)=false:=MS hkd
           have Pk:=tK (RY.out hkd)
           rw[dk]
           clear hkd dk
           exact M23
         .obtain rfl:j=l0.length:=a?
          rw[MU,<-HFT.out]at ZM
          have HG2:=tK ZM
          have i4:¬(l0.length:Int)<l0.length:=a?
          clear ZM WE hj
          go_wp2_with fail
          go_roundw
          case rel=>exact⟨k+1,Of.out,G?,HG2.out⟩
          case measure=>(have hh:=Of.out;simp[intOf];omega)
       .obtain rfl:k=ls.length:=a?
        rw[MU]at hG
        obtain⟨va,vb,vc,⟨⟨p1,n1,c1,rfl⟩,⟨p2,n2,c2,rfl⟩,⟨p3,n3,c3,rfl⟩⟩,ob,hkp,Oz⟩:=hG.cat S6.out S3.out
        have hct:=HCT.out ls
        rw[<-hct]at Oz
        have QK:=tK Oz
        have HP:Hid (∀W,NP [] wr W->am! 52 #[.agg #[(nb,()),(nm,()),(p1,n1,c1),(p2,n2,c2),(p3,n3,c3)]] W (lV (Qr u ls) W)):=tK (fun W q=>by
         have⟨RH,QG⟩:=nV (u:=u) RZ.out ZL.out
         exact L4 _ _ W (Oz W q).1.plain RH QG)
        have OB:=tK ob
        have OA:=tK (XQ.out wr hkp)
        have KW:=tK (V6.out wr hkp)
        have HBK:=tK (Uy.out ls Up.out)
        have i3:¬(ls.length:Int)<ls.length:=a?
        have⟨z0,z1,z2,z3,z4⟩:=ob.k5
        clear hG hkp Oz ob NV hk hct
        unfold lV at HP
        generalize Qr u ls=C at*
        go_wp2_with fail
        refine(HP.out _ (NP.refl _ _)).mono ?_;rintro e w9 ⟨rfl,k9⟩
        have K9:=tK (KW.out.trans k9)
        have KX:=tK k9
        have WQ:=tK (k9.own OA.out b?)
        have OB9:=tK (k9.own OB.out b?)
        clear k9 z0 z1 z2 z3 z4
        by_cases hm:OL C
        .have Wm:cY C=(bN C,0):=by unfold cY;rw[if_pos hm]
         rw[Wm]
         have HM:=tK hm
         clear Wm hm
         by_cases hp:bN C=s
         .have q1:((bs (bN C)).toList==(bs s).toList)=true:=by rw[hp];simp
          have HPE:=tK hp
          have Rv:=tK (QK.out w9 KX.out).2
          have⟨z0,z1,z2,z3,z4⟩:=OB9.out.k5
          have⟨y0,y1,y2,y3,y4⟩:=WQ.out.k5
          have⟨g0,g1,g2,g3,g4⟩:=WQ.out.y5
          clear hp
          go_wp2_with fail
          refine MN (v:=.tuple #[.agg #[(nb,()),(nm,()),(p1,n1,c1),(p2,n2,c2),(p3,n3,c3)],(0:Int)]) (aj results193 rfl rfl (t:=52) ?_ underlying52 rfl c?) rfl ?_
          .exact WQ.out.aV _ _ _ _ _
          .exact Gf HM.out HPE.out ((Rv.out _ _ WQ.out _ _ _ _ _).cI (fun x hx=>MR hx K7.out.size)) (NP.ay K9.out (Or.inr (MG _)) _ _ _ _ _)
         .have q1:((bs (bN C)).toList==(bs s).toList)=false:=by rw[bj,bj];simpa using hp
          have Pk:=tK (HBK.out (fun hh=>hp hh.2))
          clear hp
          exact M23
        .have Wm:cY C=([],110):=by unfold cY;rw[if_neg hm]
         rw[Wm]
         have Pk:=tK (HBK.out (fun hh=>hm hh.1))
         clear Wm hm
         exact M23
     .have d3:decide ((ls.length:Int)>1)=true:=e?
      have d3':decide ((1:Int)<ls.length)=true:=d3
      have Pk:=tK (WY.out ls Up.out g3)
      clear g3 P0 d1
      exact M45
    .have Pk:=tK (Se.out P0)
     clear P0 d1
     exact M45
   .have q1:((bs (t.take 4)).toList==[67,65,84,76])=false:=by rw[bj];simpa using g2
    have q0:({data:=#[67,65,84,76]}:ByteArray).toList=[67,65,84,76]:=bj [67,65,84,76]
    have q2:((bs (t.take 4)).toList==({data:=#[67,65,84,76]}:ByteArray).toList)=false:=by rw[q0];exact q1
    have Pk:=tK (sS Sq (fun hh=>g2 hh.2))
    have i2:(4:Int)<=t.length:=a?
    clear Sq g2 g1
    exact M24
  .have d1:decide ((t.length:Int)<12)=true:=e?
   have Pk:=tK (sS Sq (fun hh=>g1 hh.1))
   clear Sq g1
   exact M24
 .have Pk:=tK (AO Sq)
  have aft:(cd != 0)=true:=by simp[bne,hcd]
  clear Sq
  exact M24
end
section
open Go.Proofs.Tryz Go.RowKit Go.Sort Go.Shelf
variable {q:Prop}
theorem AB (a b):NW (a++b)=NW a++NW b:=by unfold NW;simp
def lS (q:Prop) (w:World) (e:Ending) (w':World):Prop:=∃C:Int,e=C/\((C=0/\q)\/(C=110/\¬q))/\NP [] w w'
theorem gI (h:¬q) {w w'} (k:NP [] w w'):lS q w (.returned (110:Int)) w':=⟨110,rfl,Or.inr ⟨rfl,h⟩,k⟩
theorem xy (h:q) {w w'} (k:NP [] w w'):lS q w (.returned (0:Int)) w':=⟨0,rfl,Or.inl ⟨rfl,h⟩,k⟩
theorem GV (x y:Int×Int) (W):am! 198 #[.agg #[x.1,x.2],.agg #[y.1,y.2]] W fun e w'=>e=(Sl x.1 y.1:Int)/\∃q os',w'=grow (W.drewN q) os':=by
 have UQ:=fun W'=>Ea x.1 y.1 W'
 generalize Sl x.1 y.1=r at UQ ⊢
 go_enter func198,ntmps198
 exact M49
theorem IY (base v l w) (h:w.ownsRow base 128 2 v l.length (NW l)) (hl:l.length<=1000000):
  am! 184 #[v,.func (.func 198) #[] #[]] w (hZ base v l w):=
 Ah 198 base v l w h hl (enters_of func198 c? rfl) GV
theorem M50 {A:Prop}(h:A:=by
 go_wp2_with fail
 rw[Exit.noGoto_ret]
 go_ret
 exact gI HN.out (V6.out.alloc _)):A:=h
theorem Ko (v c) (Pe jr:Int) (u others) (lo hi:Nat) (w) (h:dJ w v c) (hlen:c.boxes.length+c.mans.length+c.names.length<=5000) (Q2:(OK c).length<=500000) (hu:af w u others lo hi) (ho:others.length<=100000) (Pj:∀a∈OK c++others,aQ a) (hs: -9223372036854775808<=Pe) (hj: -9223372036854775808<=jr/\jr<=9223372036854775807) (S7:∀a∈OK c++others,a.1<=1099511627776/\a.2<=1099511627776/\Pe<=1099511627776):
  am! 125 #[v,Pe,jr,u] w (lS (PB Pe jr (OK c++others)) w):=by
 have ZG:=tK fun W (q:NP [] w W)=>vV v c W (h.kept0 q) hlen a?
 have HU:=tK fun W (q:NP [] w W)=>hu.kept0 q
 have OZ:Hid ((OK c).length<=500000/\others.length<=100000):=tK ⟨Q2,ho⟩
 have⟨VI,U9⟩:=f? Pj S7
 have HSJ:=tK (And.intro hs hj)
 obtain⟨vb,vm,vn,rfl,hb,hm,hn,_⟩:=h
 obtain⟨p1,c1,rfl⟩:=hb.shape
 obtain⟨p2,c2,rfl⟩:=hm.shape
 obtain⟨p3,c3,rfl⟩:=hn.shape
 obtain⟨pu,cu,rfl⟩:=hu.shape
 obtain⟨R,hR⟩:∃R,OK c=R:=⟨_,rfl⟩
 rw[hR]at ZG OZ VI U9 ⊢
 obtain⟨W1,hW1⟩:∃W1,W1=w.alloc (.cells #[(c.nextBox,()),(c.nextMan,()),(p1,c.boxes.length,c1),(p2,c.mans.length,c2),(p3,c.names.length,c3)] 52):=⟨_,rfl⟩
 have k1:NP [] w W1:=H?
 have oA:ae W1 w #[(c.nextBox,()),(c.nextMan,()),(p1,c.boxes.length,c1),(p2,c.mans.length,c2),(p3,c.names.length,c3)] 52:=U?
 have⟨z0,z1,z2,z3,z4⟩:=oA.k5
 have VF:=tK k1
 have aao:=tK fun W v' l (hl:l.length<=1000000) (hr:W.ownsRow w 128 2 v' l.length (NW l))=>IY w v' l W hr hl
 unfold bh at ZG
 unfold hZ at aao
 clear Pj S7 hs hj hb hm hn hu ho Q2 hlen hR k1 oA
 go_enter func125,ntmps125
 go_wp2_with fail
 go_step3
 go_wp2_with fail
 rw[<-hW1]
 clear hW1
 refine(ZG.out _ VF.out).mono ?_;rintro e w3 ⟨v3,rfl,r3,k3⟩
 have K3:=tK (VF.out.trans k3)
 have Rn:=tK (aF r3 VF.out.size)
 obtain⟨p3',c3',rfl⟩:=ah r3
 clear r3 k3 z0 z1 z2 z3 z4
 go_wp2_with (at_builtin;go_must (refine gR rfl (.tmp 15) (.tmp 16) rfl w _ _ _ rfl Rn.out _ others lo hi rfl (HU.out _ K3.out) (by have:=OZ.out;unfold maxLen;omega) (by have:=OZ.out;omega) K3.out.size ?_))
 intro v6 w6 o6 Po
 have K6:=tK (K3.out.grown Po (fun q hq=>Or.inr (ML Rn.out q hq).1))
 rw[<-AB,<-tN]at o6
 have ZZ:(R++others).length<=600000:=by rw[tN];have:=OZ.out;omega
 clear Po Rn HU ZG
 generalize R++others=l at*
 have Tx:=tK o6
 obtain⟨p,cc,rfl⟩:=ah o6
 have H:=tK (af.bB o6)
 have Tg:(l.length:Int)<=600000:=a?
 have HL1:=tK ZZ
 clear o6 ZZ
 go_wp2_with fail
 go_step3
 go_wp2_with fail
 go_loopw [10,20] (fun u i wr=>∃k:Nat,k<=l.length/\u=(0:Int)/\i=(k:Int)/\(∀j (hj:j<l.length),j<k->lR Pe jr l[j])/\NP [] w6 wr) (fun _ i _=>l.length-(intOf i).toNat)
 case atStart=>exact⟨0,Nb _,rfl,rfl,fun j hj h=>absurd h (Nat.not_lt_zero j),NP.refl _ _⟩
 case round=>
  obtain⟨k,hk,rfl,rfl,hM,hK⟩:=hrel
  rename World=>wr
  by_cases NV:k<l.length
  .obtain⟨b,off,rfl,c0,c1,hb,hlc,PT⟩:=(H.out.kept0 hK).at_ k NV
   have UB:=VI.out l[k] (MJ NV)
   have Uj:=U9.out l[k] (MJ NV)
   have OF:= @uZ Pe jr l k NV
   have UU:lR Pe jr l[k]->∀j (hj:j<l.length),j<k+1->lR Pe jr l[j]:=fun h1 j hj hjk=>by
    by_cases e:j=k
    .subst e;exact h1
    .exact hM j hj a?
   have i1:(k:Int)<l.length:=a?
   have⟨Of,Pk,Su,HK⟩:=gh! NV OF UU hK
   have V6:=tK (K6.out.trans hK)
   clear OF UU hM hK hk
   generalize l[k]=X at*
   obtain⟨x0,xn⟩:=X
   obtain⟨w1,w2,XU,w4⟩:=UB
   simp only at c0 c1 w1 w2 XU w4 Uj
   unfold lR at Pk Su
   simp only at Pk Su
   have hq:=HSJ.out
   have E1:2<=x0->IntKind.i64.wrap (x0-2)=x0-2:=fun _=>IntWalk.i64_in _ a?
   have E2:2<=x0->x0<=Pe->IntKind.i64.wrap (Pe-x0)=Pe-x0:=fun _ _=>IntWalk.i64_in _ a?
   clear hq
   rcases(by omega:xn<1\/(1<=xn/\x0<2)\/(1<=xn/\2<=x0/\x0-2<jr)\/(1<=xn/\2<=x0/\jr<=x0-2/\Pe<x0)\/(1<=xn/\2<=x0/\jr<=x0-2/\x0<=Pe/\Pe-x0<xn)\/(1<=xn/\2<=x0/\jr<=x0-2/\x0<=Pe/\xn<=Pe-x0))with g1|⟨g1,g2⟩|⟨g1,g2,g3⟩|⟨g1,g2,g3,g4⟩|⟨g1,g2,g3,g4,g5⟩|⟨g1,g2,g3,g4,g5⟩
   .have HN:=tK (Pk.out a?)
    have d1:decide (xn<1)=true:=e?
    clear E1 E2 g1 w1 w2 XU w4 Uj
    exact M50
   .have HN:=tK (Pk.out a?)
    have d1:decide (xn<1)=false:=e?
    have d2:decide (x0<2)=true:=e?
    clear E1 E2 g1 g2 w1 w2 XU w4 Uj
    exact M50
   .have HN:=tK (Pk.out a?)
    have d1:decide (xn<1)=false:=e?
    have d2:decide (x0<2)=false:=e?
    have e1:=E1 g2
    have d3:decide (x0-2<jr)=true:=e?
    clear E1 E2 g1 g2 g3 w1 w2 XU w4 Uj
    exact M50
   .have HN:=tK (Pk.out a?)
    have d1:decide (xn<1)=false:=e?
    have d2:decide (x0<2)=false:=e?
    have e1:=E1 g2
    have d3:decide (x0-2<jr)=false:=e?
    have d4:decide (Pe<x0)=true:=e?
    have d4':decide (x0>Pe)=true:=e?
    clear E1 E2 g1 g2 g3 g4 w1 w2 XU w4 Uj
    exact M50
   .have HN:=tK (Pk.out a?)
    have d1:decide (xn<1)=false:=e?
    have d2:decide (x0<2)=false:=e?
    have e1:=E1 g2
    have d3:decide (x0-2<jr)=false:=e?
    have e2:=E2 g2 g4
    have d4:decide (Pe<x0)=false:=e?
    have d4':decide (x0>Pe)=false:=e?
    have d5:decide (Pe-x0<xn)=true:=e?
    have d5':decide (xn>Pe-x0)=true:=e?
    clear E1 E2 g1 g2 g3 g4 g5 w1 w2 XU w4 Uj
    exact M50
   .have Ye:=tK (Su.out a?)
    have d1:decide (xn<1)=false:=e?
    have d2:decide (x0<2)=false:=e?
    have e1:=E1 g2
    have d3:decide (x0-2<jr)=false:=e?
    have e2:=E2 g2 g4
    have d4:decide (Pe<x0)=false:=e?
    have d4':decide (x0>Pe)=false:=e?
    have d5:decide (Pe-x0<xn)=false:=e?
    have d5':decide (xn>Pe-x0)=false:=e?
    clear E1 E2 g1 g2 g3 g4 g5 w1 w2 XU w4 Uj
    go_wp2_with fail
    go_roundw
    case rel=>exact⟨k+1,Of.out,rfl,j?,Ye.out,HK.out.alloc _⟩
    case measure=>(have hh:=Of.out;simp[intOf];omega)
  .obtain rfl:k=l.length:=a?
   have QH:Hid (∀a∈l,lR Pe jr a):=tK (fun a ha=>by
    obtain⟨j,hj,rfl⟩:=Nr.1 ha
    exact hM j hj hj)
   have HK:=tK hK
   have V6:=tK (K6.out.trans hK)
   have UX:=tK (ax Tx.out hK b?)
   have i1:¬(l.length:Int)<l.length:=a?
   clear hM hK NV hk
   go_wp2_with fail
   refine(aao.out _ _ l (by have:=HL1.out;omega) UX.out).mono ?_;rintro e w7 ⟨rfl,l',Qi,hris,NU,hkt⟩
   have K7:=tK (nK V6.out (fun g hg=>(ML UX.out g hg).1) hkt)
   have YX:=Qi.length_eq
   have HQ:Hid (PB Pe jr l'↔PB Pe jr l):=tK (Bb Qi)
   have Xk:=tK fun a ha=>QH.out a (Qi.mem_iff.1 ha)
   have YY:=tK hris
   have acC:=tK fun a ha=>And.intro (U9.out a (Qi.mem_iff.1 ha)).1 (U9.out a (Qi.mem_iff.1 ha)).2.1
   have HR7:=tK (af.bB NU)
   obtain⟨n,hn⟩:∃n,l.length=n:=⟨_,rfl⟩
   have HLL:Hid (l'.length=n):=tK (by rw[YX,hn])
   have VJ:Hid (n<=600000):=tK (by rw[<-hn];exact HL1.out)
   rw[hn]at Tg HR7
   rw[hn]
   clear Qi hris NU hkt YX UX V6 H Tx hn i1
   go_wp2_with fail
   go_loopw [13] (fun i wr=>∃m:Nat,1<=m/\i=(m:Int)/\(∀j (hj:j+1<l'.length),j+1<m->l'[j].1+l'[j].2<=l'[j+1].1)/\m<=n+1/\NP [] w7 wr) (fun i _=>n+1-(intOf i).toNat)
   case atStart=>exact⟨1,MG _,rfl,fun j hj h=>absurd h a?,a?,NP.refl _ _⟩
   case round=>
    obtain⟨m,hm,rfl,hM,ZX,hK⟩:=hrel
    rename World=>wr
    by_cases NV:m<n
    .obtain⟨q,rfl⟩:∃q,m=q+1:=⟨m-1,a?⟩
     have Zv:q+1<l'.length:=by rw[HLL.out];exact NV
     obtain⟨b,off,rfl,c0,c1,hb,hlc,PT⟩:=(HR7.out.kept0 hK).at_ (q+1) Zv
     have⟨b',off',e',d0,d1,_⟩:=(HR7.out.kept0 hK).at_ q a?
     injection e' with e'
     injection e' with e1 e2 _
     subst e1 e2
     have OF:=fun h=>mt HQ.out.2 (Bc Zv YY.out h)
     have UU:l'[q].1+l'[q].2<=l'[q+1].1->∀j (hj:j+1<l'.length),j+1<q+1+1->l'[j].1+l'[j].2<=l'[j+1].1:=fun h1 j hj hjk=>by
      by_cases e:j=q
      .subst e;exact h1
      .exact hM j hj a?
     have aa3:=Xk.out l'[q] (MJ _)
     have acd:=acC.out l'[q] (MJ _)
     have⟨Pk,Su,Of,HK⟩:=gh! OF UU NV hK
     have Un:=tK (K7.out.trans hK)
     have PC:((q+1:Nat):Int)<n:=a?
     have QZ:(q:Int)<n:=a?
     have E1:IntKind.i64.wrap (((q+1:Nat):Int)-1)=(q:Int):=by have:=VJ.out;rw[IntWalk.i64_in _ a?];omega
     clear OF UU hM hK hm ZX
     generalize l'[q+1]=X at*
     generalize l'[q]=Y at*
     obtain⟨x0,xn⟩:=X
     obtain⟨y0,yn⟩:=Y
     unfold lR at aa3
     simp only at c0 c1 d0 d1 aa3 acd Pk Su
     have E2:IntKind.i64.wrap (y0+yn)=y0+yn:=IntWalk.i64_in _ a?
     have HLM:Hid (q+1<n):=tK NV
     obtain⟨m,hme⟩:∃m,q+1=m:=⟨_,rfl⟩
     have HME:=tK hme
     rw[hme]at c0 c1 PC E1 NV
     rw[hme]
     clear hme aa3 acd
     by_cases g1:x0<y0+yn
     .have t1:decide (x0<y0+yn)=true:=MV g1
      have HN:=tK (Pk.out g1)
      clear g1
      go_wp2_with fail
      go_quiet (fail)
      go_wp2_with fail
      rw[Exit.noGoto_ret]
      go_ret
      exact gI HN.out (Un.out.drewN _)
     .have t1:decide (x0<y0+yn)=false:=MS g1
      have HN:=tK (Su.out a?)
      clear g1
      go_wp2_with fail
      go_quiet (fail)
      go_wp2_with fail
      go_roundw
      case rel=>exact⟨m+1,a?,j?,by rw[<-HME.out];exact HN.out,by have:=HLM.out;have:=HME.out;omega,HK.out.drewN _⟩
      case measure=>(have hh:=HLM.out;have:=HME.out;simp[intOf];omega)
    .have Wv:Hid (PB Pe jr l):=tK (HQ.out.1 (xz YY.out Xk.out (fun j hj=>hM j hj (by have:=HLL.out;omega))))
     have Un:=tK (K7.out.trans hK)
     have i1:¬(m:Int)<n:=a?
     clear hM hK NV hm ZX
     go_wp2_with fail
     (try rw[Exit.noGoto_ret])
     go_ret
     exact xy Wv.out Un.out
end
open Go.Proofs.Tryz Go.RowKit
variable {w w':World} {v:Value} {lo hi:Nat}
theorem cE.small {k l most} (h:cE k l most) (hm:most<=1000000):jk l:=⟨Nk h.1 hm,fun a ha=>by
 have:=nH (h.2.1 a ha)
 have e:(a.told k).runs=a.runs:=rfl
 grind⟩
theorem OL.small {c} (h:OL c):ie c:=⟨h.boxes.small d?,h.mans.small d?,h.names.small d?⟩
def VC.fits (x:VC):Prop:=(Lit.int .i64 x.kind).wf=true/\(Lit.int .u32 x.id).wf=true/\x.name.length<=maxLen/\x.bytes.length<=1048576
def IU (_:World) (cs:List Value) (x:VC):Prop:=cs=[.int .i64 x.kind,.int .u32 x.id,.string (bs x.name),.string (bs x.bytes)]/\x.fits
def gC (w:World) (v:Value) (l:List VC) (lo hi:Nat):Prop:=bS 4 IU w v l lo hi
variable {l:List VC}
theorem gC.kept {S} (h:gC w v l lo hi) (k:NP S w w') (hS:∀x∈S,x<lo\/hi<=x):gC w' v l lo hi:=bS.kept h k hS (fun _ _ h=>h)
theorem gC.kept0 (h:gC w v l lo hi) (k:NP [] w w'):gC w' v l lo hi:=h.kept k (fun x hx=>by cases hx)
theorem gC.at_ {p:Option Addr} {n c:Nat} (h:gC w (p,n,c) l lo hi) (i:Nat) (hi':i<l.length):
  ∃b off,p=some ⟨b,off,none⟩/\w.cell? ⟨b,off+i*4,none⟩=some (.int .i64 l[i].kind)/\w.cell? ⟨b,off+i*4+1,none⟩=some (.int .u32 l[i].id)/\w.cell? ⟨b,off+i*4+2,none⟩=some (.string (bs l[i].name))/\w.cell? ⟨b,off+i*4+3,none⟩=some (.string (bs l[i].bytes))/\b<w.heap.size/\l[i].fits:=by
 obtain⟨b,off,cs,e1,e2,⟨rfl,e4⟩,e6,e7,e8,e9⟩:=bS.at_ h i hi'
 exact⟨b,off,e1,e6 0 _ rfl,e6 1 _ rfl,e6 2 _ rfl,e6 3 _ rfl,a?,e4⟩
theorem Gh (s):(bs s).toList.isEmpty=s.isEmpty:=by
 rw[bj]
theorem kL (w:World) (l:List Value) (t:TypeId):∀(j:Nat) (u:Value),l[j]? =some u->(w.alloc (.cells l.toArray t)).cell? (Addr.add w j)=some u:=by
 intro j u hj
 have:=World.news_of_block (Ns w (.cells l.toArray t))
 exact this j u A!
theorem wP {x:VC} (h:x.fits):x.told.fits:=⟨h.1,h.2.1,h.2.2.1,by show(Lit.int .i64 0).wf=true;decide⟩
theorem Gl (p:VC->Bool) (l:List VC) (k:Nat) (h:k<l.length):(l.take (k+1)).all p=((l.take k).all p&&p l[k]):=by
 rw[MI h,List.all_append];simp
theorem Kj (p:VC->Bool) (l:List VC) (k:Nat) (h:k<l.length) (hp:p l[k]=false):l.all p=false:=by
 rw[List.all_eq_false]
 exact⟨_,MJ h,by rw[hp];simp⟩
def pX (C:Int) (w:World) (e:Ending) (w':World):Prop:=e=C/\NP [] w w'
theorem I2 {T B b sb mb v} (vl l PU PC) (hV:aL T w B b sb mb lo v) (hc:OL v.c) (hl:gC w vl l PU PC):
  am! 43 #[B,vl] w (pX (P5 v.c l) w):=by
 have⟨sv,vb,vm,vn,o,hr,Oz⟩:=hV.vol
 have HO:=tK fun W (k:NP [] w W)=>k.own o b?
 have SG:Hid (∀W rv lo2 QZ,NP [] w W->bX W rv (l.map VC.told) lo2 QZ->am! 45 #[.agg #[(v.c.nextBox,()),(v.c.nextMan,()),vb,vm,vn],rv] W (dC (fun _=>False) (N8 v.c (l.map VC.told)) W)):=tK (fun W rv lo2 QZ k Qh=>
  sf (S0:=fun _=>False) _ v.c rv _ lo2 QZ W ((av.kept0 Oz k).cI (fun x hx=>hx.elim)) (fun x hx=>hx.elim) hc.small Qh (fun r hr a ha=>by
   obtain⟨x,hx,rfl⟩:=ND.1 hr
   cases ha) (fun r hr=>by
   obtain⟨x,hx,rfl⟩:=ND.1 hr
   exact Nb _))
 have HL:=tK hl
 obtain⟨p1,c1,rfl⟩:=bS.shape hl
 have hlm:=bS.len hl
 unfold maxLen at hlm
 clear hV hc hl hr Oz
 unfold pX
 by_cases hn:l.length<1\/8192<l.length
 .have hw:P5 v.c l=3:=by unfold P5;rw[if_pos hn]
  rw[hw]
  rcases(by omega:(l.length:Int)<1\/(1<=(l.length:Int)/\8192<(l.length:Int)))with h1|⟨h1,h2⟩
  all_goals
   clear hn
   go_enter func43,ntmps43
   go_wp2_with fail
   go_ret
   exact⟨rfl,NP.refl _ _⟩
 .have n1:1<=(l.length:Int):=a?
  have n2:(l.length:Int)<=8192:=a?
  have HW:Hid (P5 v.c l=if l.all (fun x=>Oj x.kind||x.bytes.isEmpty)then(N8 v.c (l.map VC.told)).2 else 1):=tK (by unfold P5;rw[if_neg hn])
  clear hn hlm
  generalize P5 v.c l=WX at*
  generalize Qf:N8 v.c (l.map VC.told)=AP at*
  clear Qf
  have⟨x0,x1,x2,x3,x4,x5,x6,x7,x8,x9,x10,x11,x12⟩:=o.ku
  clear x0 x1 x2 x3 x4 x5 x6 x12 o
  go_enter func43,ntmps43
  go_wp2_with fail
  go_loopw [5,7,20] (fun rv x i wr=>∃k:Nat,k<=l.length/\i=(k:Int)/\(l.take k).all (fun x=>Oj x.kind||x.bytes.isEmpty)=true/\aI w wr rv ((l.take k).map VC.told)/\NP [] w wr) (fun _ _ i _=>l.length-(intOf i).toNat)
  case atStart=>exact⟨0,Nb _,rfl,rfl,aI.nil _ _,NP.refl _ _⟩
  case round=>
   obtain⟨k,hk,rfl,P9,PH,hK⟩:=hrel
   by_cases NV:k<l.length
   .have i1:(k:Int)<l.length:=a?
    obtain⟨bl,ol,rfl,r0,r1,r2,r3,Uq,Oq⟩:=gC.at_ (HL.out.kept0 hK) k NV
    have Qu:=Gl (fun x=>Oj x.kind||x.bytes.isEmpty) l k NV
    have OF:=Kj (fun x=>Oj x.kind||x.bytes.isEmpty) l k NV
    have acV:(l.take (k+1)).map VC.told=(l.take k).map VC.told++[l[k].told]:=by rw[MI NV,M0];rfl
    have hlen:((l.take k).map VC.told).length=k:=by rw[MP,MO];omega
    rw[P9,Bool.true_and]at Qu
    have⟨UA,Pk,aeL,OZ,Of⟩:=gi! Qu OF acV hlen NV
    have HF:=tK (wP Oq)
    have⟨HK,HR⟩:=f? hK PH
    obtain⟨p6,c6,rfl⟩:=PH.shape
    rw[hlen]
    clear P9 Qu OF acV hlen Oq PH hK hk
    generalize hX:l[k]=X at*
    clear hX NV
    obtain⟨xk,xi,xn,xb⟩:=X
    simp only at*
    have HCO:=tK fun W=>wg xk W
    have WA:=Gh xb
    have oX:=ae.new wr #[xk,(xi,()),xn,xb] 34
    have⟨z0,z1,z2,z3⟩:=oX.c4
    have HKX:=tK (HK.out.alloc (.cells #[xk,(xi,()),xn,xb] 34))
    have HRX:=tK (HR.out.kept0 ((NP.refl [] wr).alloc (.cells #[xk,(xi,()),xn,xb] 34)))
    have QC:=tK fun W=>yZ ⟨xk,xi,xn,xb⟩ W
    clear oX
    have RY:Hid (Oj xk=false->xb.isEmpty=false->WX=1):=tK (fun h1 h2=>by rw[HW.out,Pk.out (by rw[h1,h2];rfl)];rfl)
    have Zk:Hid ((Oj xk||xb.isEmpty)=true->(l.take (k+1)).all (fun x=>Oj x.kind||x.bytes.isEmpty)=true):=tK (fun h=>by rw[UA.out];exact h)
    clear UA Pk
    go_wp2_with fail
    refine(HCO.out _).mono ?_;rintro e w2 ⟨rfl,rfl⟩
    generalize Oj xk=KB at*
    generalize xb.isEmpty=EB at*
    have hgo:Hid ((KB||EB)=true->True):=tK (fun _=>trivial)
    cases KB<;>cases EB
    case false.false=>
     have T9:=tK (RY.out rfl rfl)
     go_wp2_with fail
     go_ret
     exact⟨by rw[T9.out];rfl,HKX.out⟩
    all_goals
     have HG:=tK (Zk.out rfl)
     clear RY Zk HCO
     go_wp2_with fail
     refine(QC.out _).mono ?_;rintro e w3 ⟨rfl,k3⟩
     have Xi:=tK (HKX.out.trans k3)
     have ZJ:=tK (HRX.out.kept0 k3)
     have UC:=HRX.out.kept0 k3
     obtain⟨vs,hvs,NU,heach⟩:=UC
     rw[OZ.out]at NU
     have⟨HVS,Pm,VD⟩:=gg! hvs NU heach
     obtain⟨i0,q0,q1,q2,q3⟩:=jB
     have m3:k+1<=maxLen:=by have:=Of.out;unfold maxLen;omega
     have m4:(k+1)*64<=140737488355328:=Y!
     have adS:w.heap.size<=w3.heap.size:=Xi.out.size
     clear k3 hvs NU heach
     go_wp2_with (at_builtin;go_must (refine MT _ rfl (.tmp 33) (.tmp 36) 92 rfl w 102 i0 (.agg #[(0:Int),.int .u32 0,.string {data:=#[]},(0:Int),()]) 5 64 underlying92 q0 q1 q2 q3 rfl d? _ _ _ rfl (MH Pm.out _) w3 1 1 [.int .i64 xk,.int .u32 xi,.string (bs xn),.int .i64 0,.slice none 0 0] rfl rfl ?_ ?_ m3 m4 ?_ ?_))
     .exact kL _ _ _
     .intro u hu;simp at hu;rcases hu with rfl|rfl|rfl|rfl|rfl<;>rfl
     .simp<;>omega
     intro v6 w6 o6 Po _ _
     have T3:=Pm.out
     have TA:aI w w6 v6 ((l.take (k+1)).map VC.told):=by
      rw[aeL.out]
      exact aI.more HVS.out VD.out (by rw[OZ.out];exact T3) (Nf _ _ _ _) HF.out Po (by rw[OZ.out];exact o6)
     have Q7:NP [] w w6:=(Xi.out.alloc _).grown Po (fun q hq=>Or.inr (ML T3 q hq).1)
     have⟨RA,Tl⟩:=f? TA Q7
     clear TA Q7 T3 o6 Po
     go_wp2_with fail
     go_roundw
     case rel=>exact⟨k+1,Of.out,j?,HG.out,RA.out,Tl.out⟩
     case measure=>(have hh:=Of.out;simp[intOf]<;>omega)
   .obtain rfl:k=l.length:=a?
    rw[MU]at P9 PH
    obtain⟨p6,c6,rfl⟩:=PH.shape
    have HA:=tK (SG.out wr _ _ _ hK PH.oI)
    have HC:=tK (HW.out.trans (by rw[P9]))
    have HK:=tK hK
    have i1:¬((l.length:Nat):Int)<l.length:=a?
    have⟨_,_,_,_,_,_,_,a7,a8,a9,a10,a11,_⟩:=(HO.out _ hK).ku
    rw[MP]
    rw[MP]at HA
    unfold dC at HA
    clear P9 PH hK
    go_wp2_with fail
    refine HA.out.mono ?_;rintro e w4 ⟨vc,rfl,hcat4,k4⟩
    obtain⟨vb4,vm4,vn4,rfl,j1,j2,j3,_⟩:=hcat4
    obtain⟨r1,e1,rfl⟩:=j1.plain.shape
    obtain⟨r2,e2,rfl⟩:=j2.plain.shape
    obtain⟨r3,e3,rfl⟩:=j3.plain.shape
    clear j1 j2 j3
    have Ro:=tK (HK.out.trans k4)
    clear k4
    go_wp2_with fail
    go_ret
    exact⟨by rw[HC.out];rfl,Ro.out.alloc _⟩
end
section
open Go.Proofs.Tryz Go.RowKit
variable {c:au} {l:List NS} {x:NS} {r:ag} {s t:List UInt8} {o:List ag} {ls:List (List ag)} {d:DK}
def jn (c:au):Prop:=(Lit.int .u32 c.nextBox).wf=true/\(Lit.int .u32 c.nextMan).wf=true/\(∀a∈c.boxes,a.fits)/\(∀a∈c.mans,a.fits)/\∀a∈c.names,a.fits
theorem rQ:il c↔jn c:=by
 constructor
 .rintro⟨h1,h2,h3⟩
  refine⟨h1,h2,fun a ha=>?_,fun a ha=>?_,fun a ha=>?_⟩
  .exact(h3 (a.told 1) (by unfold Ov;simp only[Na,ND];exact Or.inl (Or.inl ⟨a,ha,rfl⟩))).2
  .exact(h3 (a.told 2) (by unfold Ov;simp only[Na,ND];exact Or.inl (Or.inr ⟨a,ha,rfl⟩))).2
  .exact(h3 (a.told 3) (by unfold Ov;simp only[Na,ND];exact Or.inr ⟨a,ha,rfl⟩)).2
 .rintro⟨h1,h2,h3,h4,h5⟩
  refine⟨h1,h2,fun r hr=>?_⟩
  unfold Ov at hr
  simp only[Na,ND]at hr
  rcases hr with(⟨a,ha,rfl⟩|⟨a,ha,rfl⟩)|⟨a,ha,rfl⟩
  .exact NS.dw (h3 a ha) d?
  .exact NS.dw (h4 a ha) d?
  .exact NS.dw (h5 a ha) d?
theorem mB {next most turns} (h0:(Oc l x next most turns).2=0):∀a∈(Oc l x next most turns).1,a=x\/a∈l:=by
 unfold Oc at h0 ⊢
 split
 .exact fun a ha=>rG ha
 .rename_i h1
  rw[if_neg h1]at h0
  split at h0
  .cases h0
  .rename_i h2
   rw[if_neg h2]
   split at h0
   .cases h0
   .rename_i h3
    rw[if_neg h3]
    exact fun a ha=>rH ha
theorem nQ (h0:(OU l x).2=0):∀a∈(OU l x).1,a∈l:=by
 unfold OU at h0 ⊢
 split
 .exact fun a ha=>rI ha
 .rename_i h1
  rw[if_neg h1]at h0
  cases h0
theorem H9 (hc:jn c) (hr:az r=true) (hf:r.fits) (h0:(aW c r).2=0):jn (aW c r).1:=by
 obtain⟨h1,h2,h3,h4,h5⟩:=hc
 have hi:=xw hr
 have hx:=ag.jW hf
 have hid:0<=r.id:=(eG hf.2.1).1
 unfold aW at h0 ⊢
 by_cases k1:r.kind=1
 .rw[if_pos k1]at h0 ⊢
  refine⟨tF (by show 0<=r.id+1;omega) (by show r.id+1<=_;omega),h2,fun a ha=>?_,h4,h5⟩
  rcases mB h0 a ha with rfl|ha
  .exact hx
  .exact h3 a ha
 .rw[if_neg k1]at h0 ⊢
  by_cases k2:r.kind=2
  .rw[if_pos k2]at h0 ⊢
   have hb:=eG h2
   refine⟨h1,tF (by show 0<=max c.nextMan (r.id+1);omega) (by show max c.nextMan (r.id+1)<=_;omega),h3,fun a ha=>?_,h5⟩
   rcases mB h0 a ha with rfl|ha
   .exact hx
   .exact h4 a ha
  .rw[if_neg k2]at h0 ⊢
   by_cases k3:r.kind=3
   .rw[if_pos k3]at h0 ⊢
    refine⟨h1,h2,h3,h4,fun a ha=>?_⟩
    rcases mB h0 a ha with rfl|ha
    .exact hx
    .exact h5 a ha
   .rw[if_neg k3]at h0 ⊢
    by_cases k4:r.kind=4
    .rw[if_pos k4]at h0 ⊢
     exact⟨h1,h2,fun a ha=>h3 a (nQ h0 a ha),h4,h5⟩
    .rw[if_neg k4]at h0 ⊢
     by_cases k5:r.kind=5
     .rw[if_pos k5]at h0 ⊢
      exact⟨h1,h2,h3,fun a ha=>h4 a (nQ h0 a ha),h5⟩
     .rw[if_neg k5]at h0 ⊢
      exact⟨h1,h2,h3,h4,fun a ha=>h5 a (nQ h0 a ha)⟩
theorem wM:∀(l:List ag) {c:au},jn c->(∀r∈l,r.fits)->(cH c l).2=0->jn (cH c l).1
 |[],c,h,_,_=>h
 |r::l,c,h,hf,h0=>by
  unfold cH at h0 ⊢
  by_cases h1:az r=true
  .rw[if_pos h1]at h0 ⊢
   by_cases h2:(aW c r).2=0
   .rw[if_pos h2]at h0 ⊢
    exact wM l (H9 h h1 (hf r b?) h2) (fun q hq=>hf q (by simp[hq])) h0
   .rw[if_neg h2]at h0;exact absurd h0 h2
  .rw[if_neg h1]at h0;cases h0
theorem Lr (h:gk s=some (r,t)):r.fits/\t.length+5<=s.length:=by
 have h0:=h
 unfold gk at h
 split at h
 .rename_i hh
  injection h with h
  injection h with h1 h2
  subst h1 h2
  refine⟨pC _ _,?_⟩
  have hk:=nI hh.2
  have hm:=hh.2
  have l5:(Ps (nR s).1 s).2.1.length<=(nR s).2.1.length:=vk _ _ _
  have l4:(nR s).2.1.length<=(zR s).2.1.length:=zM _ _ _
  have l3:(zR s).2.1.length<=(tR s).2.1.length:=zJ _ _ _
  have l2:(tR s).2.1.length<=(iR s).2.1.length:=zK _ _ _
  have l1:(iR s).2.1.length<=(PP s).2.1.length:=zL _ _ _
  have ek:(Ps (nR s).1 s).1.kind=((PP s).1:Int):=rfl
  have ei:(Ps (nR s).1 s).1.id=((iR s).1:Int):=rfl
  have en:(Ps (nR s).1 s).1.name=(tR s).1:=rfl
  rw[ek]at hk
  have k0:(PP s).1≠0:=a?
  have e0:=jy (jx (k:=1) (l:=s) (x:=0) k0)
  have e0':(PP s).2.1.length+1=s.length:=e0.2
  unfold az gq at hm
  simp only[No,Bool.or_eq_true,decide_eq_true_eq,beq_iff_eq]at hm
  obtain⟨m1,m2,m3,m4,_⟩:=hm
  rw[ek,ei]at m2
  rw[ek,en]at m4
  rw[ek]at m1
  rcases m1 with m1|m1
  .rw[m1]at m2
   exact M70
  .rw[m1]at m4
   have hn:(tR s).1≠[]:=by
    intro e;rw[e]at m4;cases m4
   have eT:tR s=dY (iR s).2.1 (iR s).2.2:=by unfold tR uV;rw[m1];rfl
   have eT2:dY (iR s).2.1 (iR s).2.2=Ol ((PN 65536 (iR s).2.1 (iR s).2.2).1:Int) (PN 65536 (iR s).2.1 (iR s).2.2).2.1 (PN 65536 (iR s).2.1 (iR s).2.2).2.2:=rfl
   have h0:(Ol ((PN 65536 (iR s).2.1 (iR s).2.2).1:Int) (PN 65536 (iR s).2.1 (iR s).2.2).2.1 (PN 65536 (iR s).2.1 (iR s).2.2).2.2).2.2=0:=by
    exact M71
   have⟨q1,q2,q3⟩:=nf h0
   have q4:=congrArg List.length q3
   rw[tN,<-eT2,<-eT]at q4
   have q6:0<(tR s).1.length:=Nu.2 hn
   have q5:(PN 65536 (iR s).2.1 (iR s).2.2).2.1.length+4=(iR s).2.1.length:=by
    unfold PN at q1 ⊢
    simp only at q1 ⊢
    split at q1
    .rename_i hb
     exfalso
     unfold PD at q1
     simp only at q1
     split at q1<;>omega
    .rename_i hb
     rw[if_neg hb]
     exact(jy q1).2
   omega
 .cases h
theorem Ds:∀(n:Nat) {s t:List UInt8} {o:List ag},dg n s=some (o,t)->(∀r∈o,r.fits)/\t.length+5*n<=s.length/\o.length=n
 |0,s,t,o,h=>by
  exact adD
 |n+1,s,t,o,h=>by
  rw[dg]at h
  split at h
  .cases h
  .rename_i o' r' he
   have⟨i1,i2,i3⟩:=Ds n he
   split at h
   .cases h
   .rename_i x t' hx
    injection h with h
    injection h with h1 h2
    subst h1 h2
    have⟨j1,j2⟩:=Lr hx
    exact M80
theorem JY (h:dp s=some o):(∀r∈o,r.fits)/\5*o.length<=s.length:=by
 unfold dp at h
 split at h
 .split at h
  .rename_i o' he
   injection h with h
   subst h
   have⟨i1,i2,i3⟩:=Ds _ he
   have:=gY 2 s 0
   exact⟨i1,a?⟩
  .cases h
 .cases h
theorem Mo (h:gO s=some (o,t)):(∀r∈o,r.fits)/\5*o.length+t.length<=s.length:=by
 unfold gO at h
 split at h
 .cases h
 .rename_i o' hb
  split at h
  .rename_i hc
   injection h with h
   injection h with h1 h2
   subst h1 h2
   have⟨i1,i2⟩:=JY hb
   have:=(iZ hc.1).2
   exact⟨i1,a?⟩
  .cases h
theorem zI:∀(f:Nat) {s:List UInt8} {ls:List (List ag)},fq f s=some ls->(∀l∈ls,∀r∈l,r.fits)/\5*ls.flatten.length<=s.length
 |0,s,ls,h=>by
  rw[fq]at h
  split at h
  .injection h with h;subst h;exact⟨fun l hl=>(by cases hl),b?⟩
  .cases h
 |f+1,s,ls,h=>by
  rw[fq]at h
  split at h
  .injection h with h;subst h;exact⟨fun l hl=>(by cases hl),b?⟩
  .cases ht:gO s with
   |none=>rw[ht]at h;cases h
   |some p=>
    rw[ht]at h
    simp only[Option.bind_some]at h
    cases hr:fq f p.2 with
    |none=>rw[hr]at h;cases h
    |some ms=>
     rw[hr]at h
     simp only[Option.map_some]at h
     injection h with h
     subst h
     have⟨j1,j2⟩:=Mo (t:=p.2) ht
     have⟨i1,i2⟩:=zI f hr
     refine⟨fun l hl=>?_,by rw[List.flatten_cons,tN];omega⟩
     rcases List.mem_cons.1 hl with rfl|hl
     .exact j1
     .exact i1 l hl
theorem pN (h:O4 s=some ls):(∀l∈ls,∀r∈l,r.fits)/\5*ls.flatten.length<=s.length:=zI _ h
theorem vu {f:Nat->Bool} {n} (h:∀k,n<=k->f k=false):∀m,PM f m<=n
 |0=>Nb _
 |m+1=>by
  have ih:=vu h m
  by_cases hm:n<=m
  .unfold PM;rw[h m hm];simpa using ih
  .have:PM f (m+1)<=m+1:=zS f (m+1)
   omega
theorem rO (hf:dS d) (l n):(PV d l n).length<=128*d.stand.length:=by
 unfold PV
 split
 .rename_i h0
  have hX:dO l d.stand.length n:=by
   apply NG
   intro hh
   unfold N7 at h0
   rw[if_neg hh]at h0
   cases h0
  have h1:=lI hf (al:=NY l) (fun a ha=>by have:=(hX.lt ha).1;omega)
  have h2:OV l<=d.stand.length:=vu (fun k hk=>by
   cases e:OE l k with
   |false=>rfl
   |true=>
    have⟨a,ha,g1,g2⟩:=dr.1 e
    have h3:=hX.2.2.1.1 a ha
    unfold gQ at h3
    omega) 8192
  have h3:=hX.wC
  have h4:=hX.2.2.2
  rw[MO,h1]
  omega
 .simp
theorem me (_:dS d) (j u):(Pq d j u).length<=128*d.stand.length:=by
 unfold Pq
 split
 .rename_i h0
  unfold Oi at h0
  split at h0
  .cases h0
  .rename_i UF
   have UF:bo d.stand.length j u=0:=by simpa using UF
   have⟨f1,f2,f3,f4⟩:=jX UF
   rw[MO]
   omega
 .simp
theorem IE (h:jQ t=some c):5*cQ c<=t.length:=by
 have⟨h1,h2,h3⟩:=tq h
 have h4:=(pN (iq h1 h2)).2
 rw[rJ,fN]at h4
 have h5:(bN c).length=12+(qf c).length+4:=by
  unfold bN dF
  rw[rX,tN,tN,mf,ak]
 rw[h3]at h5
 unfold cQ
 omega
theorem kE:∀(ls:List (List ag)) {c c':au},OL c->jn c->(∀l∈ls,∀r∈l,r.fits)->bM c ls=some c'->OL c'/\jn c'/\cQ c'<=cQ c+ls.flatten.length
 |[],c,c',hm,hf,_,h=>by
  injection h with h
  subst h
  exact⟨hm,hf,b?⟩
 |l::ls,c,c',hm,hf,hl,h=>by
  unfold bM at h
  split at h
  .rename_i h0
   have Qf:N8 c l=cH c l:=by unfold N8;rw[if_pos hm]
   have Q2:=DZ l c
   rw[Qf]at h h0 Q2
   have Ug:=hl l b?
   have⟨g1,g2,g3⟩:=kE ls (wL hm (fun r hr=>(eG (Ug r hr).2.1).1) h0) (wM l hf Ug h0) (fun m hm=>hl m (by simp[hm])) h
   refine⟨g1,g2,?_⟩
   rw[List.flatten_cons,tN]
   omega
  .cases h
theorem J3:jn cf:=⟨d?,d?,fun a ha=>V!,fun a ha=>V!,fun a ha=>V!⟩
theorem rY (hf:dS d) {s c} (h:PA d s=some c):OL c/\jn c/\5*cQ c<=128*d.stand.length:=by
 unfold PA at h
 split at h
 .injection h with h
  subst h
  exact⟨pG,J3,by show 5*(0+0+0)<=_;omega⟩
 .split at h
  .have⟨h1,h2,h3⟩:=tq h
   have h4:=IE h
   have h5:=rO hf s.runs s.size
   exact⟨h1,rQ.1 h2,a?⟩
  .cases h
theorem yB (hf:dS d) {s c} (h:zZ d s c):s.may/\s.seq<18446744073709551616/\OL c/\jn c/\5*cQ c<=256*d.stand.length:=by
 have⟨m1,m2,_⟩:=pA h.pick
 have⟨c0,ls,h1,h2,h3,h4⟩:=h.stood
 have⟨b1,b2,b3⟩:=rY hf h1
 have⟨r1,r2⟩:=pN h3
 have⟨g1,g2,g3⟩:=kE ls b1 b2 r1 h4
 have:=me hf s.journal s.used
 exact⟨m1,m2,g1,g2,a?⟩
def mm (d:DK) (s:SB) (w:World) (e:Ending) (w':World):Prop:=
 ((∃c v,PA d s=some c/\av (fun x=>x<w.heap.size) w' v c/\e=.returned (.tuple #[v,(0:Int)]))\/(PA d s=none/\∃C:Int,(C==0)=false/\e=.returned (.tuple #[.agg #[.int .u32 0,.int .u32 0,(),(),()],C])))/\NP [] w w'
theorem qR (d l n):N7 d l n=0\/N7 d l n=90\/N7 d l n=1:=by
 unfold N7
 split
 .split
  .exact Or.inr (Or.inl rfl)
  .exact Or.inl rfl
 .exact Or.inr (Or.inr rfl)
theorem uK (h:O4 t=some ls) (hl:t.length<=s.length) (hs:s.length<=15000):∀l∈ls,l.length<=3000:=fun l Tg=>by
 have h1:=(pN h).2
 have h2:l.length<=ls.flatten.length:=by
  obtain⟨a,b,rfl⟩:=List.append_of_mem Tg
  rw[Nv,tN,List.flatten_cons,tN]
  omega
 omega
theorem E9 {l} (h:eO l=some t):t.length<=l.length:=by
 unfold eO at h
 split at h
 .injection h with h
  subst h
  rw[MO];omega
 .cases h
theorem GT (s:List UInt8) (w:World) (hs:s.length<=15000):am! 193 #[s] w (jI s w):=
 L6 s w a? (fun t ls ho hr=>uK (s:=s) hr (by have:=E9 ho;rw[MQ];omega) hs)
theorem M53 {A:Prop}(h:A:=by
 refine(av.aS (T:=[w.heap.size+1]) HC.out (NP.ay (NP.refl _ _) (Or.inl b?) _ _ _ _ _) (fun x hx=>?_)).cI (fun x hx=>?_)
 .obtain rfl:x=w.heap.size+1:=h?
  have:=Ye.out
  show w.heap.size+1<w2.heap.size
  omega
 .have:=Ye.out
  show x<w2.heap.size
  omega):A:=h
theorem Ja {w b sb mb lo} (hD:DA w b sb mb lo d) (hn:d.stand.length<=100) (s v PU PC) (hr:af w v s.runs PU PC) (hm:s.may):
  am! 122 #[b,.agg (s.cells v)] w (mm d s w):=by
 have T7:=qg hm
 have U4:=hm.1
 unfold SB.dD at U4
 have aaW:Hid (∀W,NP [] w W->am! 60 #[b,v,s.size] W fun e w'=>e=.returned (.tuple #[.string (bs (PV d s.runs s.size)),(N7 d s.runs s.size:Int)])/\NP [] W w'):=tK (fun W k=>GO v s.runs s.size PU PC (hD.aJ k) (hr.kept0 k) a? T7 (mn a? a?))
 have SN:=rO hD.fit s.runs s.size
 have QK:Hid (∀W,am! 193 #[.string (bs (PV d s.runs s.size))] W (jI (PV d s.runs s.size) W)):=tK (fun W=>GT _ W a?)
 unfold jI at QK
 have T9:Hid (s.size=0->PA d s=some cf):=tK (fun h=>by unfold PA;rw[if_pos h])
 have Zd:Hid (s.size≠0->N7 d s.runs s.size≠0->PA d s=none):=tK (fun h g=>by unfold PA;rw[if_neg h,if_neg g])
 have HB3:Hid (s.size≠0->N7 d s.runs s.size=0->PA d s=jQ (PV d s.runs s.size)):=tK (fun h g=>by unfold PA;rw[if_neg h,if_pos g])
 have HEM:Hid (∀W,am! 41 #[] W fun e w'=>e=.returned (.agg #[.int .u32 1,.int .u32 1,(),(),()])/\NP [] W w'):=tK (fun W=>BM W)
 have U0:=qR d s.runs s.size
 obtain⟨pr,cr,rfl⟩:=hr.shape
 unfold mm
 generalize PA d s=BX at*
 generalize PV d s.runs s.size=X at*
 generalize N7 d s.runs s.size=G at*
 have Z6:=tK U0
 obtain⟨sq,se,jr,us,sz,rs⟩:=s
 simp only at*
 have⟨o0,o1⟩:=ch w #[.int .u64 sq,se,jr,us,sz,(pr,rs.length,cr)] #[.int .u32 0,.int .u32 0,(),(),()] 58 52
 have OP:=((NP.refl [] w).alloc (.cells #[.int .u64 sq,se,jr,us,sz,(pr,rs.length,cr)] 58)).alloc (.cells #[.int .u32 0,.int .u32 0,(),(),()] 52)
 clear T7 U4 hr SN U0 hD hn
 simp only[SB.cells]
 go_enter func122,ntmps122
 have⟨x0,x1,x2,x3,x4,x5⟩:=o0.c6
 have⟨O0,O1,K1⟩:=gg! o0 o1 OP
 clear o0 o1 OP
 by_cases hz:sz=0
 .have hzz:(sz==0)=true:=by rw[hz];rfl
  have SP:=tK (T9.out hz)
  clear hz
  go_wp2_with fail
  refine(HEM.out _).mono ?_;rintro e w2 ⟨rfl,k2⟩
  have Us:=tK (k2.own O1.out b?)
  have K2:=tK (K1.out.trans k2)
  have⟨y0,y1,y2,y3,y4⟩:=Us.out.k5
  have⟨g0,g1,g2,g3,g4⟩:=Us.out.y5
  clear k2 x0 x1 x2 x3 x4 x5
  go_wp2_with fail
  refine MN (v:=.tuple #[.agg #[.int .u32 1,.int .u32 1,(),(),()],(0:Int)]) (aj results122 rfl rfl (t:=52) ?_ underlying52 rfl c?) rfl ?_
  .exact Us.out.aV _ _ _ _ _
  .exact⟨Or.inl ⟨cf,_,SP.out,⟨_,_,_,rfl,aq.nil _ _,aq.nil _ _,aq.nil _ _,d?,d?⟩,rfl⟩,NP.ay K2.out (Or.inr a?) _ _ _ _ _⟩
 .have hzz:(sz==0)=false:=by simpa using hz
  have HZ:=tK hz
  clear hz
  go_wp2_with fail
  refine(aaW.out _ K1.out).mono ?_;rintro e w2 ⟨rfl,k2⟩
  have O02:=tK (k2.own O0.out b?)
  have Us:=tK (k2.own O1.out b?)
  have K2:=tK (K1.out.trans k2)
  have Ye:Hid (w.heap.size+2<=w2.heap.size):=tK Z?
  clear k2 x0 x1 x2 x3 x4 x5
  by_cases hg:G=0
  .have hgg:(G==0)=true:=by rw[hg];rfl
   have SP:=tK (HB3.out HZ.out hg)
   clear hg
   go_wp2_with fail
   refine(QK.out _).mono ?_;rintro e w3 ⟨Rz,k3⟩
   have Uu:=tK (k3.own Us.out b?)
   have K3:=tK (K2.out.trans k3)
   have⟨y0,y1,y2,y3,y4⟩:=Uu.out.k5
   have⟨g0,g1,g2,g3,g4⟩:=Uu.out.y5
   clear k3
   rcases Rz with⟨c,v,Pz,UF,hpc,Oz,rfl⟩|⟨OF,rfl⟩
   .obtain⟨vb,vm,vn,rfl,hb,TF,QT,SU,TS⟩:=id Oz
    obtain⟨p1,c1,rfl⟩:=hb.plain.shape
    obtain⟨p2,c2,rfl⟩:=TF.plain.shape
    obtain⟨p3,c3,rfl⟩:=QT.plain.shape
    have HC:=tK Oz
    have V0:Hid (BX=some c):=tK (SP.out.trans (vz Pz UF hpc))
    clear Oz hb TF QT SU TS Pz UF hpc
    go_wp2_with fail
    refine MN (v:=.tuple #[.agg #[(c.nextBox,()),(c.nextMan,()),(p1,c.boxes.length,c1),(p2,c.mans.length,c2),(p3,c.names.length,c3)],(0:Int)]) (aj results122 rfl rfl (t:=52) ?_ underlying52 rfl c?) rfl ?_
    .exact Uu.out.aV _ _ _ _ _
    .refine⟨Or.inl ⟨c,_,V0.out,?_,rfl⟩,NP.ay K3.out (Or.inr a?) _ _ _ _ _⟩
     exact M53
   .have V0:Hid (BX=none):=tK (SP.out.trans (xP OF))
    clear OF
    go_wp2_with fail
    refine MN (v:=.tuple #[.agg #[.int .u32 0,.int .u32 0,(),(),()],(110:Int)]) (aj results122 rfl rfl (t:=52) ?_ underlying52 rfl c?) rfl ?_
    .exact Uu.out.aV _ _ _ _ _
    .exact⟨Or.inr ⟨V0.out,110,d?,rfl⟩,NP.ay K3.out (Or.inr a?) _ _ _ _ _⟩
  .have hgg:(G==0)=false:=by simpa using hg
   have SP:=tK (Zd.out HZ.out hg)
   have HGG:=tK hgg
   clear hg
   have⟨y0,y1,y2,y3,y4⟩:=Us.out.k5
   have⟨g0,g1,g2,g3,g4⟩:=Us.out.y5
   go_wp2_with fail
   refine MN (v:=.tuple #[.agg #[.int .u32 0,.int .u32 0,(),(),()],G]) (aj results122 rfl rfl (t:=52) ?_ underlying52 rfl c?) rfl ?_
   .exact Us.out.aV _ _ _ _ _
   .exact⟨Or.inr ⟨SP.out,G,HGG.out,rfl⟩,NP.ay K2.out (Or.inr a?) _ _ _ _ _⟩
end
end Go.Proofs.YtdkimcnlhmhpgaaGreat
