/- -/
import Derived.Test.YtdkimcnlhmhpgaaGreatM26
set_option maxHeartbeats 32000000
set_option maxRecDepth 100000
namespace Go.Proofs.YtdkimcnlhmhpgaaGreat
open Go.Proofs.Tryz Go.RowKit
section
variable {c:au} {s t:List UInt8} {ls:List (List ag)} {jr:Int} {l:List (Int×Int)}
def gh (k n:Int) (x:NS) (L:List NS):List NS:=if k=n then L++[x]else L
def eS (r:ag) (w1:World) (bx:Nat) (nb nm:Int) (A B C:List NS) (e:Ending) (w':World):Prop:=
 e=.returned (.bool (decide (r.kind=1\/r.kind=2\/r.kind=3)))/\iP w1 w' bx nb nm (gh r.kind 1 r.item A) (gh r.kind 2 r.item B) (gh r.kind 3 r.item C)
theorem M7 {A:Prop}(h:A:=by
 refine hK.out _ _ ?_ (fun hHeld=>nM ?_)
 .exact Xa.out.c4
 clear hK K
 have P4:=ae.new wx.drew #[(r.id,()),r.name,r.size,(pu,r.runs.length,cu)] 113
 have⟨v5,w5,Oe,OG,hgrow5,_,hblk5⟩:=run_append_own_at (P:=prog) (wx.drew.alloc (.cells #[(r.id,()),r.name,r.size,(pu,r.runs.length,cu)] 113)) w1 50 50 113 i0 _ 4 56 underlying50 hi0 Rh Qc Qx rfl _d _ xs.length (NX xs) Vm.out.ra wx.drew 1 1 [.int .u32 r.id,.string (bs r.name),.int .i64 r.size,.slice pu r.runs.length cu] rfl (fun q u hq=>by
   have WO:=(Nn.1 hq).1
   rw[Ni,Nat.zero_add,P4.cell q ah!]
   rw[<-hq];simp[MZ WO]) _t (by have:=Xy.out.1;unfold maxLen;omega) (by have:=Xy.out.1;omega) S!
 have U6:=(Vm.out.add ITa.out hgrow5 OG hblk5)
 obtain⟨p5,c5,rfl⟩:=ah OG
 obtain⟨T,hT⟩:∃T:List Nat,T=((Value.slice pa xs.length ca).ownBlock).toList:=⟨_,rfl⟩
 have Zh:bx∉T:=fun hb=>by
  rw[hT,NH]at hb
  exact aB Vm.out.ra Yp.out _d hb
 have hTi:∀xc,T=xc->True:=fun _ _=>trivial
 have V7:NP T _ w5:=(NP.refl T _).grown hgrow5 (fun q hq=>Or.inl R!)
 have UJ:=tK (V7.own Yp.out Zh)
 have R5:=tK U6
 have K5:=tK (Zs.out.grown hgrow5 (fun q hq=>Or.inr (ML Vm.out.ra q hq).1))
 have X5:Hid (ae w5 xb #[(r.id,()),r.name,r.size,(pu,r.runs.length,cu)] 113):=tK (V7.own Xa.out (fun hb=>by
  rw[hT,NH]at hb
  exact HXR.out hb))
 have Ra:=tK Oe
 clear OG hgrow5 hT Zh hTi V7 P4 Oe U6 hblk5
 refine rD 7 (fun K hK=>?_)
 refine aO rfl _ _ 50 50 rfl _ _ _g _g Ra.out ?_
 refine hK.out _ _ ?_ (fun hHeld=>nM ?_)
 .exact X5.out.c4
 clear hK K
 refine tS ?_
 have b0:=UJ.out.cell 2 _b
 simp only[List.getElem_toArray,List.getElem_cons_zero,Nt]at b0
 have z0:=UJ.out.free 2
 refine rD 10 (fun K hK=>?_)
 go_simp
 refine hK.out _ _ ?_ (fun hHeld=>nM ?_)
 .exact(X5.out.other (p:=(aa bx 2)) WJ.out _).c4
 clear hK K
 refine Ng _c ?_ _
 go_wp2_with fail
 go_ret
 unfold eS gh
 rw[HK.out]
 refine⟨rfl,_,_,_,(xs++[(r.item,.slice pu r.runs.length cu)]),ys,zs,UJ.out.set 2 _,R5.out.set UJ.out 2 _,?_,?_,?_,K5.out.setCell (p:=(aa bx 2)) (Or.inl _b) _⟩
 .rw[M0,HE.out.1];rfl
 .exact HE.out.2.1
 .exact HE.out.2.2):A:=h
theorem M6 {A:Prop}(h:A:=by
 refine hK.out _ _ ?_ (fun hHeld=>nM ?_)
 .exact Xa.out.c4
 clear hK K
 have P4:=ae.new wx.drew #[(r.id,()),r.name,r.size,(pu,r.runs.length,cu)] 113
 have⟨v5,w5,Oe,OG,hgrow5,_,hblk5⟩:=run_append_own_at (P:=prog) (wx.drew.alloc (.cells #[(r.id,()),r.name,r.size,(pu,r.runs.length,cu)] 113)) w1 50 50 113 i0 _ 4 56 underlying50 hi0 Rh Qc Qx rfl _d _ ys.length (NX ys) Vm.out.cM.ra wx.drew 1 1 [.int .u32 r.id,.string (bs r.name),.int .i64 r.size,.slice pu r.runs.length cu] rfl (fun q u hq=>by
   have WO:=(Nn.1 hq).1
   rw[Ni,Nat.zero_add,P4.cell q ah!]
   rw[<-hq];simp[MZ WO]) _t (by have:=Xy.out.2.1;unfold maxLen;omega) (by have:=Xy.out.2.1;omega) S!
 have U6:=(Vm.out.cM.add ITa.out hgrow5 OG hblk5).cM.cM
 obtain⟨p5,c5,rfl⟩:=ah OG
 obtain⟨T,hT⟩:∃T:List Nat,T=((Value.slice pb ys.length cb).ownBlock).toList:=⟨_,rfl⟩
 have Zh:bx∉T:=fun hb=>by
  rw[hT,NH]at hb
  exact aB Vm.out.cM.ra Yp.out _d hb
 have hTi:∀xc,T=xc->True:=fun _ _=>trivial
 have V7:NP T _ w5:=(NP.refl T _).grown hgrow5 (fun q hq=>Or.inl R!)
 have UJ:=tK (V7.own Yp.out Zh)
 have R5:=tK U6
 have K5:=tK (Zs.out.grown hgrow5 (fun q hq=>Or.inr (ML Vm.out.cM.ra q hq).1))
 have X5:Hid (ae w5 xb #[(r.id,()),r.name,r.size,(pu,r.runs.length,cu)] 113):=tK (V7.own Xa.out (fun hb=>by
  rw[hT,NH]at hb
  exact HXR.out hb))
 have Ra:=tK Oe
 clear OG hgrow5 hT Zh hTi V7 P4 Oe U6 hblk5
 refine rD 7 (fun K hK=>?_)
 refine aO rfl _ _ 50 50 rfl _ _ _g _g Ra.out ?_
 refine hK.out _ _ ?_ (fun hHeld=>nM ?_)
 .exact X5.out.c4
 clear hK K
 refine tS ?_
 have b0:=UJ.out.cell 3 _b
 simp only[List.getElem_toArray,List.getElem_cons_zero,Nt]at b0
 have z0:=UJ.out.free 3
 refine rD 10 (fun K hK=>?_)
 go_simp
 refine hK.out _ _ ?_ (fun hHeld=>nM ?_)
 .exact(X5.out.other (p:=(aa bx 3)) WJ.out _).c4
 clear hK K
 refine Ng _c ?_ _
 go_wp2_with fail
 go_ret
 unfold eS gh
 rw[HK.out]
 refine⟨rfl,_,_,_,xs,(ys++[(r.item,.slice pu r.runs.length cu)]),zs,UJ.out.set 3 _,R5.out.set UJ.out 3 _,?_,?_,?_,K5.out.setCell (p:=(aa bx 3)) (Or.inl _b) _⟩
 .exact HE.out.1
 .rw[M0,HE.out.2.1];rfl
 .exact HE.out.2.2):A:=h
theorem M5 {A:Prop}(h:A:=by
 refine hK.out _ _ ?_ (fun hHeld=>nM ?_)
 .exact Xa.out.c4
 clear hK K
 have P4:=ae.new wx.drew #[(r.id,()),r.name,r.size,(pu,r.runs.length,cu)] 113
 have⟨v5,w5,Oe,OG,hgrow5,_,hblk5⟩:=run_append_own_at (P:=prog) (wx.drew.alloc (.cells #[(r.id,()),r.name,r.size,(pu,r.runs.length,cu)] 113)) w1 50 50 113 i0 _ 4 56 underlying50 hi0 Rh Qc Qx rfl _d _ zs.length (NX zs) Vm.out.cM.cM.ra wx.drew 1 1 [.int .u32 r.id,.string (bs r.name),.int .i64 r.size,.slice pu r.runs.length cu] rfl (fun q u hq=>by
   have WO:=(Nn.1 hq).1
   rw[Ni,Nat.zero_add,P4.cell q ah!]
   rw[<-hq];simp[MZ WO]) _t (by have:=Xy.out.2.2;unfold maxLen;omega) (by have:=Xy.out.2.2;omega) S!
 have U6:=(Vm.out.cM.cM.add ITa.out hgrow5 OG hblk5).cM
 obtain⟨p5,c5,rfl⟩:=ah OG
 obtain⟨T,hT⟩:∃T:List Nat,T=((Value.slice pc zs.length cc).ownBlock).toList:=⟨_,rfl⟩
 have Zh:bx∉T:=fun hb=>by
  rw[hT,NH]at hb
  exact aB Vm.out.cM.cM.ra Yp.out _d hb
 have hTi:∀xc,T=xc->True:=fun _ _=>trivial
 have V7:NP T _ w5:=(NP.refl T _).grown hgrow5 (fun q hq=>Or.inl R!)
 have UJ:=tK (V7.own Yp.out Zh)
 have R5:=tK U6
 have K5:=tK (Zs.out.grown hgrow5 (fun q hq=>Or.inr (ML Vm.out.cM.cM.ra q hq).1))
 have X5:Hid (ae w5 xb #[(r.id,()),r.name,r.size,(pu,r.runs.length,cu)] 113):=tK (V7.own Xa.out (fun hb=>by
  rw[hT,NH]at hb
  exact HXR.out hb))
 have Ra:=tK Oe
 clear OG hgrow5 hT Zh hTi V7 P4 Oe U6 hblk5
 refine rD 7 (fun K hK=>?_)
 refine aO rfl _ _ 50 50 rfl _ _ _g _g Ra.out ?_
 refine hK.out _ _ ?_ (fun hHeld=>nM ?_)
 .exact X5.out.c4
 clear hK K
 refine tS ?_
 have b0:=UJ.out.cell 4 _b
 simp only[List.getElem_toArray,List.getElem_cons_zero,Nt]at b0
 have z0:=UJ.out.free 4
 refine rD 10 (fun K hK=>?_)
 go_simp
 refine hK.out _ _ ?_ (fun hHeld=>nM ?_)
 .exact(X5.out.other (p:=(aa bx 4)) WJ.out _).c4
 clear hK K
 refine Ng _c ?_ _
 go_wp2_with fail
 go_ret
 unfold eS gh
 rw[HK.out]
 refine⟨rfl,_,_,_,xs,ys,(zs++[(r.item,.slice pu r.runs.length cu)]),UJ.out.set 4 _,R5.out.set UJ.out 4 _,?_,?_,?_,K5.out.setCell (p:=(aa bx 4)) (Or.inl _b) _⟩
 .exact HE.out.1
 .exact HE.out.2.1
 .rw[M0,HE.out.2.2];rfl):A:=h
theorem Kl (r:ag) (rv:Value) (w1 w:World) (bx:Nat) (nb nm:Int) (A B C:List NS) (lo hi:Nat) (hG:iP w1 w bx nb nm A B C) (hbx:bx<w1.heap.size) (Qh:af w rv r.runs lo hi) (hf:r.fits) (Pj:∀a∈r.runs,aQ a) (P3:r.runs.length<=1000000) (hlen:A.length+B.length+C.length<=100000):
  am! 246 #[bx,.agg (r.cells rv)] w (eS r w1 bx nb nm A B C):=by
 have⟨i0,hi0,Rh,Qc,Qx⟩:=fg
 have HC:Hid (∀W,NP [] w W->am! 69 #[rv] W (bh r.runs W)):=tK (fun W q=>tX rv r.runs _ _ W (Qh.kept0 q) P3)
 have⟨va,vb,vc,xs,ys,zs,oB,r3,e1,e2,e3,kW⟩:=hG
 obtain⟨pa,ca,rfl⟩:=ah r3.ra
 obtain⟨pb,cb,rfl⟩:=ah r3.rb
 obtain⟨pc,cc,rfl⟩:=ah r3.rc
 obtain⟨TQ,crr,rfl⟩:=Qh.shape
 have Xy:Hid (xs.length<=100000/\ys.length<=100000/\zs.length<=100000):=tK (by
  have h1:=congrArg List.length e1
  have h2:=congrArg List.length e2
  have h3:=congrArg List.length e3
  rw[MP]at h1 h2 h3
  omega)
 have HIT:Hid (∀W u,W.ownsRow w1 128 2 u r.runs.length (NW r.runs)->dM w1 W (r.item,u)):=tK (fun W u ho=>⟨ho,ag.jW hf,Pj⟩)
 have HE:=tK (And.intro e1 (And.intro e2 e3))
 have⟨KW,OBX,UX⟩:=gg! kW oB r3
 have SP:Hid (bx<w1.heap.size/\w1.heap.size<=w.heap.size):=tK ⟨hbx,kW.size⟩
 have oR:=ae.new w (r.cells (TQ,r.runs.length,crr)) 102
 have k0:NP [] w (w.alloc (.cells (r.cells (TQ,r.runs.length,crr)) 102)):=(NP.refl _ _).alloc _
 unfold ag.cells at oR k0 ⊢
 unfold bh at HC
 have⟨OR,K0⟩:=_f oR k0
 clear oR k0 Qh hf Pj e1 e2 e3 kW oB r3 hbx hlen P3
 go_enter func246,ntmps246
 go_upto_region 1 with fail
 go_cut [5]from 6 to 15 (fun v5 wx=>∃xb pu cu,v5=.pointer (some ⟨xb,0,none⟩)/\ae wx xb #[(r.id,()),r.name,r.size,.slice pu r.runs.length cu] 113/\wx.ownsRow w 128 2 (.slice pu r.runs.length cu) r.runs.length (NW r.runs)/\ae wx w #[r.kind,(r.id,()),r.name,r.size,(TQ,r.runs.length,crr)] 102/\NP [] w wx/\w.heap.size<=xb)
 case first=>
  refine MK (S:=(fun W=>W.cell? w=r.kind/\W.cell? (aa w 1)=(r.id,())/\W.cell? (aa w 2)=r.name/\W.cell? (aa w 3)=r.size/\W.cell? (aa w 4)=(TQ,r.runs.length,crr))) _c ac! (fun hHeld=>?_)
  refine tS ?_
  refine wpAnyH_ready (rs:=[8,10]) _c _b ?_
  refine(AllReadyH.cons rfl (fun K hK=>?_) (AllReadyH.cons rfl (fun K hK=>?_) AllReadyH.nil))
  .go_simp
   ((with_reducible refine(HC.out _ K0.out.drew).mono ?_));rintro e w5 ⟨u5,rfl,r5,k5⟩
   have K5:=tK ((K0.out.drew).trans k5)
   have o5:=k5.own OR.out.drew _b
   have⟨O5,R5⟩:=_f o5 r5
   clear r5 o5
   obtain⟨pu,cu,rfl⟩:=ah R5.out
   go_wp2_with fail
   refine hK.out _ _ ?_ (fun hHeld=>nM ?_)
   .exact O5.out.k5
   clear hK K
   refine tS ?_
   refine rD 10 (fun K hK=>?_)
   go_simp
   refine hK.out _ _ ?_ (fun hHeld=>nM ?_)
   .go_keep
   clear hK K
   refine rD 11 (fun K hK=>?_)
   go_simp
   refine hK.out _ _ ?_ (fun hHeld=>nM ?_)
   .go_keep
   clear hK K
   refine Ng _c ?_ _
   go_wp2_with fail
   go_meet
   exact⟨_,_,_,rfl,ae.new _ _ _,ax (aF R5.out K0.out.size) ((NP.refl [] w5).alloc _) _b,O5.out.alloc _,K5.out.alloc _,K5.out.size⟩
  .go_simp
   refine hK.out _ _ ?_ (fun hHeld=>nM ?_)
   .go_keep
   clear hK K
   have KB:=tK ((K0.out.alloc (.cells #[.int .u32 0,.string {data:=#[]},(0:Int),()] 113)).drew)
   have OXB:=tK ((ae.new (w.alloc (.cells #[r.kind,(r.id,()),r.name,r.size,(TQ,r.runs.length,crr)] 102)).drew #[.int .u32 0,.string {data:=#[]},(0:Int),()] 113))
   have OB:=tK ((OR.out.alloc (.cells #[.int .u32 0,.string {data:=#[]},(0:Int),()] 113)).drew)
   refine rD 8 (fun K hK=>?_)
   go_simp
   ((with_reducible refine(HC.out _ KB.out).mono ?_));rintro e w5 ⟨u5,rfl,r5,k5⟩
   have K5:=tK ((KB.out).trans k5)
   have o5:=k5.own OB.out _b
   have⟨O5,R5⟩:=_f o5 r5
   clear r5 o5
   obtain⟨pu,cu,rfl⟩:=ah R5.out
   go_wp2_with fail
   refine hK.out _ _ ?_ (fun hHeld=>nM ?_)
   .exact O5.out.k5
   clear hK K
   have UP:=k5.own OXB.out _b
   simp only[Nd,World.size_drew]at UP
   have Zc:=tK UP
   have⟨z0,z1,z2,z3⟩:=UP.c4
   have⟨y0,y1,y2,y3⟩:=UP.z4
   refine tS ?_
   refine rD 11 (fun K hK=>?_)
   go_simp
   refine hK.out _ _ ?_ (fun hHeld=>nM ?_)
   .exact(O5.out.jV (Nat.ne_of_lt (Nat.lt_succ_self _)) _ _ _ _).k5
   clear hK K
   refine Ng _c ?_ _
   go_wp2_with fail
   go_meet
   exact⟨_,_,_,rfl,Zc.out.fU _ _ _ _,bI (aF R5.out KB.out.size) ((NP.refl [w.heap.size+1] w5).fU (Or.inl _b) _ _ _ _) Zc.out _d,O5.out.jV (Nat.ne_of_lt (Nat.lt_succ_self _)) _ _ _ _,K5.out.fU (Or.inr (Nat.le_succ _)) _ _ _ _,Nat.le_succ _⟩
 case rest=>
  obtain⟨xb,pu,cu,rfl,hX,hU,hR,hK,hxb⟩:=hcut
  rename World=>wx
  have X:=tK hX
  have OB:=tK (hK.own OBX.out _b)
  have RW:=tK (UX.out.kept0 hK)
  have IT:=tK (HIT.out _ _ (aF hU SP.out.2))
  have KX:=tK (KW.out.trans (hK.mono _b))
  have WJ:Hid (xb≠bx):=tK (fun e=>by have:=SP.out;omega)
  have⟨y0,y1,y2,y3,y4⟩:=hR.k5
  have HXB:=tK hxb
  clear hX hU hR hK hxb
  by_cases h1:r.kind=1
  .skip
   have HK:=tK h1
   clear h1
   have HXR:Hid ((Value.slice pa xs.length ca).ownBlock≠some xb):=tK (fun e=>by
    have h1:=(ML UX.out.ra xb e).2
    have:=HXB.out
    omega)
   rw[HK.out]at y0
   go_wp2_with fail
   refine MK (S:=(fun W=>W.cell? xb=(r.id,())/\W.cell? (aa xb 1)=r.name/\W.cell? (aa xb 2)=r.size/\W.cell? (aa xb 3)=(pu,r.runs.length,cu))) _c (by exact X.out.drew.c4) (fun hHeld=>?_)
   have bq:=OB.out.drew.cell 2 _b
   simp only[List.getElem_toArray,List.getElem_cons_zero,Nt]at bq
   refine tS ?_
   refine wpAnyH_ready (rs:=[4,6]) _c _b ?_
   refine(AllReadyH.cons rfl (fun K hK=>?_) (AllReadyH.cons rfl (fun K hK=>?_) AllReadyH.nil))
   .skip
    go_simp
    refine hK.out _ _ ?_ (fun hHeld=>nM ?_)
    .exact X.out.drew.c4
    clear hK K
    refine rD 6 (fun K hK=>?_)
    go_simp
    have ka:NP [] wx (wx.drew.alloc (.cells #[(r.id,()),r.name,r.size,(pu,r.runs.length,cu)] 113)):=(NP.refl [] wx).drew.alloc _
    have Yp:=tK (ka.own OB.out _b)
    have Xa:=tK (ka.own X.out _b)
    have Vm:=tK (RW.out.kept0 ka)
    have ITa:=tK (IT.out.kept0 ka)
    have Zs:=tK (KX.out.trans (ka.mono _b))
    clear ka
    exact M7
   .skip
    go_simp
    have ka:NP [] wx (wx.drew.alloc (.cells #[(r.id,()),r.name,r.size,(pu,r.runs.length,cu)] 113)):=(NP.refl [] wx).drew.alloc _
    have Yp:=tK (ka.own OB.out _b)
    have Xa:=tK (ka.own X.out _b)
    have Vm:=tK (RW.out.kept0 ka)
    have ITa:=tK (IT.out.kept0 ka)
    have Zs:=tK (KX.out.trans (ka.mono _b))
    clear ka
    refine hK.out _ _ ?_ (fun hHeld=>nM ?_)
    .exact Xa.out.c4
    clear hK K
    have bq2:=(OB.out.alloc (.cells #[(r.id,()),r.name,r.size,(pu,r.runs.length,cu)] 113)).drew.cell 2 _b
    simp only[List.getElem_toArray,List.getElem_cons_zero,Nt]at bq2
    refine rD 4 (fun K hK=>?_)
    go_simp
    exact M7
  by_cases h2:r.kind=2
  .skip
   have HK:=tK h2
   clear h2
   have HXR:Hid ((Value.slice pb ys.length cb).ownBlock≠some xb):=tK (fun e=>by
    have h1:=(ML UX.out.cM.ra xb e).2
    have:=HXB.out
    omega)
   rw[HK.out]at y0
   go_wp2_with fail
   refine MK (S:=(fun W=>W.cell? xb=(r.id,())/\W.cell? (aa xb 1)=r.name/\W.cell? (aa xb 2)=r.size/\W.cell? (aa xb 3)=(pu,r.runs.length,cu))) _c (by exact X.out.drew.c4) (fun hHeld=>?_)
   have bq:=OB.out.drew.cell 3 _b
   simp only[List.getElem_toArray,List.getElem_cons_zero,Nt]at bq
   refine tS ?_
   refine wpAnyH_ready (rs:=[4,6]) _c _b ?_
   refine(AllReadyH.cons rfl (fun K hK=>?_) (AllReadyH.cons rfl (fun K hK=>?_) AllReadyH.nil))
   .skip
    go_simp
    refine hK.out _ _ ?_ (fun hHeld=>nM ?_)
    .exact X.out.drew.c4
    clear hK K
    refine rD 6 (fun K hK=>?_)
    go_simp
    have ka:NP [] wx (wx.drew.alloc (.cells #[(r.id,()),r.name,r.size,(pu,r.runs.length,cu)] 113)):=(NP.refl [] wx).drew.alloc _
    have Yp:=tK (ka.own OB.out _b)
    have Xa:=tK (ka.own X.out _b)
    have Vm:=tK (RW.out.kept0 ka)
    have ITa:=tK (IT.out.kept0 ka)
    have Zs:=tK (KX.out.trans (ka.mono _b))
    clear ka
    exact M6
   .skip
    go_simp
    have ka:NP [] wx (wx.drew.alloc (.cells #[(r.id,()),r.name,r.size,(pu,r.runs.length,cu)] 113)):=(NP.refl [] wx).drew.alloc _
    have Yp:=tK (ka.own OB.out _b)
    have Xa:=tK (ka.own X.out _b)
    have Vm:=tK (RW.out.kept0 ka)
    have ITa:=tK (IT.out.kept0 ka)
    have Zs:=tK (KX.out.trans (ka.mono _b))
    clear ka
    refine hK.out _ _ ?_ (fun hHeld=>nM ?_)
    .exact Xa.out.c4
    clear hK K
    have bq2:=(OB.out.alloc (.cells #[(r.id,()),r.name,r.size,(pu,r.runs.length,cu)] 113)).drew.cell 3 _b
    simp only[List.getElem_toArray,List.getElem_cons_zero,Nt]at bq2
    refine rD 4 (fun K hK=>?_)
    go_simp
    exact M6
  by_cases h3:r.kind=3
  .skip
   have HK:=tK h3
   clear h3
   have HXR:Hid ((Value.slice pc zs.length cc).ownBlock≠some xb):=tK (fun e=>by
    have h1:=(ML UX.out.cM.cM.ra xb e).2
    have:=HXB.out
    omega)
   rw[HK.out]at y0
   go_wp2_with fail
   refine MK (S:=(fun W=>W.cell? xb=(r.id,())/\W.cell? (aa xb 1)=r.name/\W.cell? (aa xb 2)=r.size/\W.cell? (aa xb 3)=(pu,r.runs.length,cu))) _c (by exact X.out.drew.c4) (fun hHeld=>?_)
   have bq:=OB.out.drew.cell 4 _b
   simp only[List.getElem_toArray,List.getElem_cons_zero,Nt]at bq
   refine tS ?_
   refine wpAnyH_ready (rs:=[4,6]) _c _b ?_
   refine(AllReadyH.cons rfl (fun K hK=>?_) (AllReadyH.cons rfl (fun K hK=>?_) AllReadyH.nil))
   .skip
    go_simp
    refine hK.out _ _ ?_ (fun hHeld=>nM ?_)
    .exact X.out.drew.c4
    clear hK K
    refine rD 6 (fun K hK=>?_)
    go_simp
    have ka:NP [] wx (wx.drew.alloc (.cells #[(r.id,()),r.name,r.size,(pu,r.runs.length,cu)] 113)):=(NP.refl [] wx).drew.alloc _
    have Yp:=tK (ka.own OB.out _b)
    have Xa:=tK (ka.own X.out _b)
    have Vm:=tK (RW.out.kept0 ka)
    have ITa:=tK (IT.out.kept0 ka)
    have Zs:=tK (KX.out.trans (ka.mono _b))
    clear ka
    exact M5
   .skip
    go_simp
    have ka:NP [] wx (wx.drew.alloc (.cells #[(r.id,()),r.name,r.size,(pu,r.runs.length,cu)] 113)):=(NP.refl [] wx).drew.alloc _
    have Yp:=tK (ka.own OB.out _b)
    have Xa:=tK (ka.own X.out _b)
    have Vm:=tK (RW.out.kept0 ka)
    have ITa:=tK (IT.out.kept0 ka)
    have Zs:=tK (KX.out.trans (ka.mono _b))
    clear ka
    refine hK.out _ _ ?_ (fun hHeld=>nM ?_)
    .exact Xa.out.c4
    clear hK K
    have bq2:=(OB.out.alloc (.cells #[(r.id,()),r.name,r.size,(pu,r.runs.length,cu)] 113)).drew.cell 4 _b
    simp only[List.getElem_toArray,List.getElem_cons_zero,Nt]at bq2
    refine rD 4 (fun K hK=>?_)
    go_simp
    exact M5
  have HK:=tK (And.intro h1 (And.intro h2 h3))
  clear h1 h2 h3
  have⟨h1,h2,h3⟩:=HK.out
  have g1:(r.kind==1)=false:=_P
  have g2:(r.kind==2)=false:=e!
  have g3:(r.kind==3)=false:=by simpa using h3
  go_wp2_with fail
  go_ret
  unfold eS gh
  rw[if_neg HK.out.1,if_neg HK.out.2.1,if_neg HK.out.2.2]
  refine⟨by simp[HK.out.1,HK.out.2.1,HK.out.2.2],_,_,_,xs,ys,zs,OB.out,RW.out,HE.out.1,HE.out.2.1,HE.out.2.2,KX.out⟩
def aH (k:Int) (l:List ag):List NS:=(l.filter (fun r=>decide (r.kind=k))).map (·.item)
theorem lG (k:Int) (l m:List ag):aH k (l++m)=aH k l++aH k m:=by unfold aH;rw[List.filter_append,M0]
theorem s7 (k:Int) (l:List ag) (r:ag):aH k (l++[r])=gh r.kind k r.item (aH k l):=by
 rw[lG]
 unfold gh aH
 by_cases h:r.kind=k<;>simp[h]
theorem kN (k:Int):∀L:List NS,aH k (L.map (·.told k))=L
 |[]=>rfl
 |a::L=>by
  have ih:=kN k L
  unfold aH at ih ⊢
  rw[List.map_cons,List.filter_cons_of_pos (by simp[NS.told]),List.map_cons,ih]
  rfl
theorem fK {k j:Int} (h:j≠k):∀L:List NS,aH k (L.map (·.told j))=[]
 |[]=>rfl
 |a::L=>by
  have ih:=fK h L
  unfold aH at ih ⊢
  rw[List.map_cons,List.filter_cons_of_neg (by simp[NS.told,h])]
  exact ih
theorem Bf (c:au):aH 1 (Ov c)=c.boxes/\aH 2 (Ov c)=c.mans/\aH 3 (Ov c)=c.names:=by
 unfold Ov
 simp only[lG]
 rw[kN 1,kN 2,kN 3,fK (show(2:Int)≠1 by decide),fK (show(3:Int)≠1 by decide),fK (show(1:Int)≠2 by decide),fK (show(3:Int)≠2 by decide),fK (show(1:Int)≠3 by decide),fK (show(2:Int)≠3 by decide)]
 simp
theorem DT :∀r∈Ov c,r.kind=1\/r.kind=2\/r.kind=3:=by
 intro r hr
 unfold Ov at hr
 simp only[Na,ND]at hr
 rcases hr with(⟨a,_,rfl⟩|⟨a,_,rfl⟩)|⟨a,_,rfl⟩
 .exact Or.inl rfl
 .exact Or.inr (Or.inl rfl)
 .exact Or.inr (Or.inr rfl)
def il (c:au):Prop:=(Lit.int .u32 c.nextBox).wf=true/\(Lit.int .u32 c.nextMan).wf=true/\∀r∈Ov c,r.fits
theorem dJ.fit {w:World} {v:Value} (h:dJ w v c):il c:=by
 obtain⟨vb,vm,vn,rfl,hb,hm,hn,Rp,Te⟩:=h
 have hf:∀{u:Value} {L:List NS},aU w u L->∀a∈L,a.fits:=fun{u L} hi a ha=>by
  have⟨vs,hvs,_,Pf⟩:=hi
  rw[<-hvs]at ha
  obtain⟨x,hx,rfl⟩:=ND.1 ha
  exact(Pf x hx).2.1
 refine⟨Rp,Te,fun r hr=>?_⟩
 unfold Ov at hr
 simp only[Na,ND]at hr
 rcases hr with(⟨a,ha,rfl⟩|⟨a,ha,rfl⟩)|⟨a,ha,rfl⟩
 .exact NS.dw (hf hb a ha) _d
 .exact NS.dw (hf hm a ha) _d
 .exact NS.dw (hf hn a ha) _d
def qf (c:au):List UInt8:=if Ov c=[]then[]else fZ (Ov c)
def qM (c:au):List (List ag):=if Ov c=[]then[]else[Ov c]
theorem rJ (c:au):(qM c).flatten=Ov c:=by
 unfold qM;split
 .rename_i h;rw[h];rfl
 .simp
theorem zv (c:au):(qM c).length<=1:=by unfold qM;split<;>simp
theorem rX (c:au):eD c=jg c.nextBox.toNat c.nextMan.toNat++qf c:=rfl
theorem iq (hm:OL c) (hf:il c):O4 (qf c)=some (qM c):=by
 unfold qf qM
 split
 .rfl
 .rename_i h
  have h1:1<=(Ov c).length:=by
   cases e:Ov c with
   |nil=>exact absurd e h
   |cons a t=>simp
  have h2:(Ov c).length<=8192:=by
   have:=hm.boxes.1;have:=hm.mans.1;have:=hm.names.1
   rw[fN];omega
  have:=Cs [Ov c] (fun l hl=>by
   have:l=Ov c:=ae!
   subst this
   exact⟨fun r hr=>⟨jD hm r hr,hf.2.2 r hr⟩,h1,h2⟩)
  simpa using this
def nbT (u:List UInt8):Nat:=(N6 4 u 0).1
def nmT (u:List UInt8):Nat:=(N6 4 (N6 4 u 0).2.1 (N6 4 u 0).2.2).1
theorem Ff (nb nm:Nat) (h1:nb<4294967296) (h2:nm<4294967296) (rest:List UInt8):nbT (NT nb 4++(NT nm 4++rest))=nb/\nmT (NT nb 4++(NT nm 4++rest))=nm:=by
 unfold nbT nmT
 rw[ez _ _P]
 simp only
 rw[ez _ e!]
 refine⟨?_,?_⟩<;>first|rfl|trivial
def Qr (u:List UInt8) (ls:List (List ag)):au:=⟨nbT u,nmT u,aH 1 ls.flatten,aH 2 ls.flatten,aH 3 ls.flatten⟩
theorem F1 (hf:il c):(c.nextBox.toNat:Int)=c.nextBox/\c.nextBox.toNat<4294967296/\(c.nextMan.toNat:Int)=c.nextMan/\c.nextMan.toNat<4294967296:=by
 have⟨b1,b2⟩:=eG hf.1
 have⟨b3,b4⟩:=eG hf.2.1
 omega
theorem xO (hf:il c) (rest:List UInt8):Qr (NT c.nextBox.toNat 4++(NT c.nextMan.toNat 4++rest)) (qM c)=c:=by
 have⟨e1,e2,e3,e4⟩:=F1 hf
 have⟨h1,h2⟩:=Ff _ _ e2 e4 rest
 have⟨k1,k2,k3⟩:=Bf c
 unfold Qr
 rw[rJ,h1,h2,e1,e3,k1,k2,k3]
theorem fE (c:au):12<=(eD c).length/\(eD c).take 4=[67,65,84,76]/\((eD c).take 12).drop 4=NT c.nextBox.toNat 4++(NT c.nextMan.toNat 4++[])/\(eD c).drop 12=qf c:=by
 rw[rX]
 have hl:=mf c.nextBox.toNat c.nextMan.toNat
 refine⟨by rw[tN,hl];omega,?_,?_,?_⟩
 .unfold jg
  simp
 .rw[NC _a,Nh _a]
  unfold jg
  simp
 .rw[List.drop_append_of_le_length _a,List.drop_of_length_le _a];simp
theorem pt (hp:bN c=s) (ho:eO s=some t):t=eD c:=by
 subst hp
 unfold bN at ho
 rw[uU]at ho
 injection ho with ho
 exact ho.symm
theorem xd (hp:bN c=s):eO s=some (eD c):=by subst hp;exact uU _
theorem mP (hm:OL c) (hf:il c) (hp:bN c=s) (ho:eO s=some t) (hr:O4 (t.drop 12)=some ls):
  12<=t.length/\t.take 4=[67,65,84,76]/\ls=qM c/\Qr ((t.take 12).drop 4) ls=c:=by
 have e:=pt hp ho
 subst e
 have⟨h1,h2,h3,h4⟩:=fE c
 rw[h4,iq hm hf]at hr
 injection hr with hr
 subst hr
 refine⟨h1,h2,rfl,?_⟩
 rw[h3]
 exact xO hf []
def fT (s:List UInt8):Prop:=∀c,OL c->il c->bN c≠s
theorem AO (h:eO s=none):fT s:=fun c hm hf hp=>by rw[xd hp]at h;cases h
theorem sS (ho:eO s=some t) (h:¬(12<=t.length/\t.take 4=[67,65,84,76])):fT s:=fun c hm hf hp=>by
 have e:=pt hp ho
 subst e
 exact h ⟨(fE c).1,(fE c).2.1⟩
theorem AN (ho:eO s=some t) (h:O4 (t.drop 12)=none):fT s:=fun c hm hf hp=>by
 have e:=pt hp ho
 subst e
 rw[(fE c).2.2.2,iq hm hf]at h;cases h
theorem AQ (ho:eO s=some t) (hr:O4 (t.drop 12)=some ls) (h:¬ls.length<=1):fT s:=fun c hm hf hp=>by
 obtain⟨_,_,rfl,_⟩:=mP hm hf hp ho hr
 exact h (zv c)
theorem AR (ho:eO s=some t) (hr:O4 (t.drop 12)=some ls) {r:ag} (TF:r∈ls.flatten) (h:¬(r.kind=1\/r.kind=2\/r.kind=3)):fT s:=fun c hm hf hp=>by
 obtain⟨_,_,rfl,_⟩:=mP hm hf hp ho hr
 rw[rJ]at TF
 exact h (DT r TF)
theorem AS (ho:eO s=some t) (hr:O4 (t.drop 12)=some ls) (h:¬(OL (Qr ((t.take 12).drop 4) ls)/\bN (Qr ((t.take 12).drop 4) ls)=s)):fT s:=fun c hm hf hp=>by
 have⟨_,_,_,e⟩:=mP hm hf hp ho hr
 rw[e]at h
 exact h ⟨hm,hp⟩
theorem EP {d:au} (hc:OL c) (fc:il c) (hd:OL d) (fd:il d) (h:bN c=bN d):c=d:=by
 have ho:=xd (c:=c) rfl
 have hr:O4 ((eD c).drop 12)=some (qM c):=by rw[(fE c).2.2.2,iq hc fc]
 have⟨_,_,_,e1⟩:=mP hc fc rfl ho hr
 have⟨_,_,_,e2⟩:=mP hd fd h.symm ho hr
 rw[<-e1,<-e2]
theorem Hq (hp:bN c=s):16<=s.length:=by
 subst hp
 have:=(fE c).1
 unfold bN dF
 rw[tN,ak];omega
theorem zl (hp:bN c=s):s.take (s.length-4)=eD c:=by
 subst hp
 unfold bN dF
 have:(eD c++NT (PE (eD c)) 4).length-4=(eD c).length:=by rw[tN,ak];omega
 rw[this];simp
theorem EL (hp:bN c=s):∃rest,s.drop 4=NT c.nextBox.toNat 4++(NT c.nextMan.toNat 4++rest):=by
 subst hp
 refine⟨qf c++NT (PE (eD c)) 4,?_⟩
 unfold bN dF
 rw[rX]
 unfold jg
 simp
theorem wX (hm:OL c) (hf:il c) (hp:bN c=s) (hr:O4 ((s.take (s.length-4)).drop 12)=some ls):ls=qM c/\Qr (s.drop 4) ls=c:=by
 rw[zl hp,(fE c).2.2.2,iq hm hf]at hr
 injection hr with hr
 subst hr
 have⟨rest,e⟩:=EL hp
 refine⟨rfl,?_⟩
 rw[e]
 exact xO hf rest
theorem yw (h:¬16<=s.length):fT s:=fun _ _ _ hp=>h (Hq hp)
theorem yx (h:O4 ((s.take (s.length-4)).drop 12)=none):fT s:=fun c hm hf hp=>by
 rw[zl hp,(fE c).2.2.2,iq hm hf]at h;cases h
theorem yz (hr:O4 ((s.take (s.length-4)).drop 12)=some ls) (h:¬ls.length<=1):fT s:=fun c hm hf hp=>by
 obtain⟨rfl,_⟩:=wX hm hf hp hr
 exact h (zv c)
theorem yA (hr:O4 ((s.take (s.length-4)).drop 12)=some ls) (h:¬(OL (Qr (s.drop 4) ls)/\bN (Qr (s.drop 4) ls)=s)):fT s:=fun c hm hf hp=>by
 have⟨_,e⟩:=wX hm hf hp hr
 rw[e]at h
 exact h ⟨hm,hp⟩
def lR (Pe jr:Int) (a:Int×Int):Prop:=1<=a.2/\2<=a.1/\jr<=a.1-2/\a.1<=Pe/\a.2<=Pe-a.1
def oJ (a b:Int×Int):Prop:=¬(a.1<b.1+b.2/\b.1<a.1+a.2)
theorem oJ.symm {a b:Int×Int} (h:oJ a b):oJ b a:=fun hh=>h ⟨hh.2,hh.1⟩
def PB (Pe jr:Int) (l:List (Int×Int)):Prop:=(∀a∈l,lR Pe jr a)/\l.Pairwise oJ
theorem Dg (Pe jr:Int):PB Pe jr []:=⟨fun a ha=>V!,List.Pairwise.nil⟩
theorem sX {Pe jr:Int} {l:List (Int×Int)} {k:Nat} (hk:k<l.length) (h:PB Pe jr (l.take k)) (h1:lR Pe jr l[k]) (h2:∀j (hj:j<k),oJ l[k] (l[j]' _a)):PB Pe jr (l.take (k+1)):=by
 rw[MI hk]
 refine⟨fun a ha=>?_,?_⟩
 .rcases Na.1 ha with ha|ha
  .exact h.1 a ha
  .have:a=l[k]:=by simpa using ha
   subst this;exact h1
 .refine List.pairwise_append.2 ⟨h.2,List.pairwise_singleton _ _,fun a ha b hb=>?_⟩
  have:b=l[k]:=by simpa using hb
  subst this
  obtain⟨j,hj,rfl⟩:=List.mem_take_iff_getElem.1 ha
  exact(h2 j _a).symm
theorem uZ {Pe jr:Int} {l:List (Int×Int)} {k:Nat} (hk:k<l.length) (h:¬lR Pe jr l[k]):¬PB Pe jr l:=fun hh=>h (hh.1 _ (MJ hk))
theorem Df {Pe jr:Int} {l:List (Int×Int)} {k j:Nat} (hk:k<l.length) (hj:j<k) (h:¬oJ l[k] (l[j]' _a)):¬PB Pe jr l:=fun hh=>h ((List.pairwise_iff_getElem.1 hh.2 j k _a hk hj).symm)
theorem FH {Pe:Int} {k j:Nat} (h:PB Pe jr (l.take k)) (hk:k<=l.length) (hj:j<k):lR Pe jr (l[j]' _a):=h.1 _ (List.mem_take_iff_getElem.2 ⟨j,_a,rfl⟩)
theorem Bb {Pe:Int} {l':List (Int×Int)} (h:l'.Perm l):PB Pe jr l'↔PB Pe jr l:=
 ⟨fun hh=>⟨fun a ha=>hh.1 a (h.mem_iff.2 ha),(List.Perm.pairwise_iff (fun hab=>hab.symm) h).1 hh.2⟩,fun hh=>⟨fun a ha=>hh.1 a (h.mem_iff.1 ha),(List.Perm.pairwise_iff (fun hab=>hab.symm) h).2 hh.2⟩⟩
theorem xz {Pe jr:Int} {l:List (Int×Int)} (hr:jl l) (Pf:∀a∈l,lR Pe jr a) (h:∀k (hk:k+1<l.length),l[k].1+l[k].2<=l[k+1].1):PB Pe jr l:=by
 refine⟨Pf,List.pairwise_iff_getElem.2 (fun i j hi hj VM=>?_)⟩
 have h1:l[i].1+l[i].2<=l[j].1:=by
  have h2:=h i _a
  by_cases e:i+1=j
  .subst e;exact h2
  .have:=List.pairwise_iff_getElem.1 hr (i+1) j _a hj _a
   omega
 unfold oJ
 omega
theorem Bc {Pe:Int} {k:Nat} (hk:k+1<l.length) (hr:jl l) (h:l[k+1].1<l[k].1+l[k].2):¬PB Pe jr l:=fun hh=>by
 have h1:=List.pairwise_iff_getElem.1 hr k (k+1) _a hk _a
 have h2:=List.pairwise_iff_getElem.1 hh.2 k (k+1) _a hk _a
 have h3:=(hh.1 _ (MJ hk)).1
 unfold oJ at h2
 omega
end
section
variable {c:au} {t a b:List UInt8} {s:SB}
open Classical in
noncomputable def jQ (t:List UInt8):Option au:=if h:∃c,OL c/\il c/\bN c=t then some (Classical.choose h)else none
theorem vz (hm:OL c) (hf:il c) {t:List UInt8} (hp:bN c=t):jQ t=some c:=by
 have h:∃c,OL c/\il c/\bN c=t:=⟨c,hm,hf,hp⟩
 unfold jQ
 rw[dif_pos h]
 have⟨h1,h2,h3⟩:=Classical.choose_spec h
 rw[EP h1 h2 hm hf (h3.trans hp.symm)]
theorem xP (h:fT t):jQ t=none:=by
 unfold jQ
 rw[dif_neg]
 rintro⟨c,h1,h2,h3⟩
 exact h c h1 h2 h3
theorem tq (h:jQ t=some c):OL c/\il c/\bN c=t:=by
 unfold jQ at h
 split at h
 .rename_i hh
  injection h with h
  subst h
  exact Classical.choose_spec hh
 .cases h
noncomputable def PA (d:DK) (s:SB):Option au:=if s.size=0 then some cf else if N7 d s.runs s.size=0 then jQ (PV d s.runs s.size)else none
noncomputable def bM:au->List (List ag)->Option au
 |c,[]=>some c
 |c,l::ls=>if(N8 c l).2=0 then bM (N8 c l).1 ls else none
theorem iL:∀(c:au) (ls ms:List (List ag)),bM c (ls++ms)=(bM c ls).bind fun c'=>bM c' ms
 |c,[],ms=>rfl
 |c,l::ls,ms=>by
  show(if(N8 c l).2=0 then bM (N8 c l).1 (ls++ms)else none)=(if(N8 c l).2=0 then bM (N8 c l).1 ls else none).bind _
  split
  .exact iL _ ls ms
  .rfl
open Classical in
noncomputable def Pn (d:DK) (s:SB):Option au:=
 (PA d s).bind fun c=>if Oi d s.journal s.used=0 then((O4 (Pq d s.journal s.used)).bind fun ls=>(bM c ls).bind fun c'=>if PB s.sectors s.journal (OK c'++s.runs)then some c' else none)else none
open Classical in
noncomputable def jM (a b:List UInt8):Option SB:=if lJ a/\¬(nT b/\(PS a).seq<(PS b).seq)then some (PS a)else if nT b/\¬(lJ a/\(PS b).seq<(PS a).seq)then some (PS b)else none
theorem xg {o:Option (List UInt8)} (h:tC a b o):jM a b=o.map PS:=by
 unfold jM
 rcases h with⟨rfl,h1,h2⟩|⟨rfl,h1,h2⟩|⟨rfl,h1,h2⟩
 .rw[if_neg (fun hh=>h1 hh.1),if_neg (fun hh=>h2 hh.1)];rfl
 .rw[if_pos ⟨h1,h2⟩];rfl
 .by_cases hh:lJ a/\¬(nT b/\(PS a).seq<(PS b).seq)
  .exfalso
   have e1:=h1.2
   have e2:=hh.1.2
   rcases Nat.lt_trichotomy (PS a).seq (PS b).seq with h|h|h
   .exact hh.2 ⟨h1,h⟩
   .omega
   .exact h2 ⟨hh.1,h⟩
  .rw[if_neg hh,if_pos ⟨h1,h2⟩];rfl
noncomputable def Ql (d:DK):Option (SB×au):=(jM (Pc d 0) (Pc d 1)).bind fun s=>if s.sectors=(d.stand.length:Int)then(Pn d s).map fun c=>(s,c)else none
structure zZ (d:DK) (s:SB) (c:au):Prop where
 pick:jM (Pc d 0) (Pc d 1)=some s
 sect:s.sectors=(d.stand.length:Int)
 stood:∃c0 ls,PA d s=some c0/\Oi d s.journal s.used=0/\O4 (Pq d s.journal s.used)=some ls/\bM c0 ls=some c
 lies:PB s.sectors s.journal (OK c++s.runs)
open Classical in
theorem AU {d:DK} :Ql d=some (s,c)↔zZ d s c:=by
 constructor
 .intro h
  unfold Ql at h
  have⟨s',h1,h2⟩:=Option.bind_eq_some_iff.1 h
  split at h2
  .rename_i hs
   have⟨c',h3,h4⟩:=Option.map_eq_some_iff.1 h2
   injection h4 with e1 e2
   subst e1 e2
   unfold Pn at h3
   have⟨c0,h5,h6⟩:=Option.bind_eq_some_iff.1 h3
   split at h6
   .rename_i hl
    have⟨ls,h7,h8⟩:=Option.bind_eq_some_iff.1 h6
    have⟨c1,h9,h10⟩:=Option.bind_eq_some_iff.1 h8
    split at h10
    .rename_i hL
     injection h10 with e
     subst e
     exact⟨h1,hs,⟨c0,ls,h5,hl,h7,h9⟩,hL⟩
    .cases h10
   .cases h6
  .cases h2
 .rintro⟨h1,h2,⟨c0,ls,h3,h4,h5,h6⟩,h7⟩
  unfold Ql
  rw[h1]
  show(if s.sectors=(d.stand.length:Int)then(Pn d s).map fun c=>(s,c)else none)=_
  rw[if_pos h2]
  have e:Pn d s=some c:=by
   unfold Pn
   rw[h3]
   show(if Oi d s.journal s.used=0 then _ else none)=_
   rw[if_pos h4,h5]
   show(bM c0 ls).bind _=_
   rw[h6]
   show(if PB s.sectors s.journal (OK c++s.runs)then some c else none)=_
   rw[if_pos h7]
  rw[e];rfl
theorem pA (h:jM a b=some s):s.may/\s.seq<18446744073709551616/\(s.aT=a/\s.seq%2=0\/s.aT=b/\s.seq%2=1):=by
 unfold jM at h
 split at h
 .rename_i hh
  injection h with h
  subst h
  exact⟨hh.1.1.2.2.1,(iN a 8 8),Or.inl ⟨hh.1.1.2.2.2,hh.1.2⟩⟩
 .split at h
  .rename_i hh
   injection h with h
   subst h
   exact⟨hh.1.1.2.2.1,(iN b 8 8),Or.inr ⟨hh.1.1.2.2.2,hh.1.2⟩⟩
  .cases h
end
variable {w w':World} {b sb B:Nat} {x0 x1 x2 x3 x4 x5 x6 x7 x8 x9 x10 x11 x12:Value} {t:TypeId} {T:List Nat}
theorem ae.ku (h:ae w b #[x0,x1,x2,x3,x4,x5,x6,x7,x8,x9,x10,x11,x12] t):w.cell? b=some x0/\w.cell? (aa b 1)=some x1/\w.cell? (aa b 2)=some x2/\w.cell? (aa b 3)=some x3/\w.cell? (aa b 4)=some x4/\w.cell? (aa b 5)=some x5/\w.cell? (aa b 6)=some x6/\w.cell? (aa b 7)=some x7/\w.cell? (aa b 8)=some x8/\w.cell? (aa b 9)=some x9/\w.cell? (aa b 10)=some x10/\w.cell? (aa b 11)=some x11/\w.cell? (aa b 12)=some x12:=
 ⟨h.cell 0 _b,h.cell 1 _b,h.cell 2 _b,h.cell 3 _b,h.cell 4 _b,h.cell 5 _b,h.cell 6 _b,h.cell 7 _b,h.cell 8 _b,h.cell 9 _b,h.cell 10 _b,h.cell 11 _b,h.cell 12 _b⟩
theorem ae.LZ (h:ae w b #[x0,x1,x2,x3,x4,x5,x6,x7,x8,x9,x10,x11,x12] t) (u:Value):ae (w.setCell (aa b 12) u) b #[x0,x1,x2,x3,x4,x5,x6,x7,x8,x9,x10,x11,u] t:=h.set 12 u
theorem bf.Jf {mb g:Nat} (h:bf T w b sb mb g) (hB:B∈T):bf [B] w b sb mb g:=h.mono (fun x hx=>by
 obtain rfl:x=B:=_h
 exact hB)
theorem PK.LY {mb:Nat} (h:PK [B] b sb mb w w') (hB:B∈T):PK T b sb mb w w':=h.mono (fun x hx=>by
 obtain rfl:x=B:=_h
 exact hB)
theorem aD.Lp {mb lo:Nat} {d:DK} {cs:Array Value} (h:aD w b sb mb lo d) (k:NP [B] w w') (hB:bf [] w b sb mb B) (o:ae w B cs 90):aD w' b sb mb lo d:=by
 have⟨wv,n,ob,os,Sr,hm,hn,h2,h3,h4,h5,h6,r⟩:=h
 have⟨_,n1,n2,n3,_⟩:=hB
 exact⟨wv,n,k.own ob (by simp only[Nm];exact fun e=>n1 e.symm),k.own os (by simp only[Nm];exact fun e=>n2 e.symm),bI Sr k o _d,hm.kept k (by simp only[Nm];exact fun e=>n3 e.symm),hn,h2,h3,h4,h5,Nk h6 k.size,r⟩
section
variable {T:List Nat} {w w':World} {B b sb mb lo:Nat} {v:VS}
theorem aL.bH (h:aL T w B b sb mb lo v):b<w.heap.size:=h.da.bH
theorem aL.aJ (h:aL T w B b sb mb lo v) (k:NP [] w w'):aL T w' B b sb mb lo v:=
 h.pk (S:=[]) (k.eH h.bH) (h.da.aJ k) (fun x hx=>by cases hx) _b
theorem aL.L1 (h:aL T w B b sb mb lo v) (k:NP [B] w w'):PK T b sb mb w w':=
 k.pk h.bH (fun x hx=>by
  obtain rfl:x=B:=_h
  exact⟨h.off.2.1,Or.inl h.hB⟩)
theorem aL.tW (h:aL T w B b sb mb lo v) (k:NP [B] w w'):PK [B] b sb mb w w':=
 k.pk h.bH (fun x hx=>by
  obtain rfl:x=B:=_h
  exact⟨h.off.2.1,Or.inl MY⟩)
theorem aL.Em (h:aL T w B b sb mb lo v) (k:NP [B] w w') {s:SB} {c:au} {dead:Bool} {sv vb vm vn:Value} (o:ae w' B (bL b s sv c vb vm vn dead) 90) (hr:ep T w b sb mb sv s.runs) (hc:dE T w b sb mb (.agg #[(c.nextBox,()),(c.nextMan,()),vb,vm,vn]) c):
  aL T w' B b sb mb lo ⟨v.d,s,c,dead⟩:=by
 have⟨sv0,vb0,vm0,vn0,o0,_,_⟩:=h.vol
 have hk:=h.L1 k
 exact⟨⟨h.da.disk.Lp k h.off o0,h.da.fit⟩,⟨sv,vb,vm,vn,o,hr.pk hk,hc.pk hk⟩,h.hB,fun x hx=>MR (h.hT x hx) k.size,⟨_b,h.off.2.1,h.off.2.2.1,h.off.2.2.2.1,fun hx=>h.off.2.2.2.2 ((WB.iw (k.cell (a:=(aa b 1)) h.bH (by simp only[Nm];exact fun e=>h.off.2.1 e.symm))).1 hx)⟩⟩
end
