/- -/
import Derived.Test.YtdkimcnlhmhpgaaGreatK34
set_option maxHeartbeats 16000000
set_option maxRecDepth 100000
namespace Go.Proofs.YtdkimcnlhmhpgaaGreat
open Go.RowKit
def iV (k n:Int) (x:Nf) (L:List Nf):List Nf:=if k=n then L++[x]else L
def di (r:ag) (w1:World) (bx:Nat) (nb nm:Int) (A B C:List Nf) (e:Ending) (w':World):Prop:=
 e=.returned (.bool (decide (r.kind=1\/r.kind=2\/r.kind=3)))/\gp w1 w' bx nb nm (iV r.kind 1 r.item A) (iV r.kind 2 r.item B) (iV r.kind 3 r.item C)
theorem M12 {A:Prop}(h:A:=by
 refine hK.out _ _ ?_ (fun hHeld=>Go.Proofs.YtdkimcnlhmhpgaaGreat.nm ?_)
 .exact Xa.out.c4
 clear hK K
 have Pz:=ae.new wx.drew #[.int .u32 r.id,.string (bs r.name),.int .i64 r.size,.slice pu r.runs.length cu] 113
 obtain⟨v5,w5,NT,Od,hgrow5,_,hblk5⟩:=run_append_own_at (P:=Tryz.prog) (wx.drew.alloc (.cells #[.int .u32 r.id,.string (bs r.name),.int .i64 r.size,.slice pu r.runs.length cu] 113)) w1.heap.size 50 50 113 i0 _ 4 56 Tryz.underlying50 hi0 hz0 PS P8 rfl (by decide) _ xs.length (Nx xs) TC.out.ra ⟨wx.drew.heap.size,0,none⟩ 1 1 [.int .u32 r.id,.string (bs r.name),.int .i64 r.size,.slice pu r.runs.length cu] rfl (fun q u hq=>by
   have WD:=(MI.1 hq).1
   rw[My,Nat.zero_add,Pz.cell q (by simpa using WD)]
   rw[<-hq];simp[Mw WD]) (by intro u hu;simp at hu;rcases hu with rfl|rfl|rfl|rfl<;>rfl) (by have:=Sc.out.1;unfold maxLen;omega) (by have:=Sc.out.1;omega) (by have:=WR.out.size;omega)
 have Tv:=(TC.out.add ZS.out hgrow5 Od hblk5)
 obtain⟨p5,c5,rfl⟩:=ai Od
 obtain⟨T,hT⟩:∃T:List Nat,T=((Value.slice pa xs.length ca).ownBlock).toList:=⟨_,rfl⟩
 have Wv:bx∉T:=fun hb=>by
  rw[hT,Na]at hb
  exact aB TC.out.ra WN.out (by decide) hb
 have ZX:∀xc,T=xc->True:=fun _ _=>trivial
 have Ud:aa T _ w5:=(aa.refl T _).grown hgrow5 (fun q hq=>Or.inl (by rw[hT,Na];exact hq))
 have SJ:=Mb (Ud.own WN.out Wv)
 have R5:=Mb Tv
 have K5:=Mb (WR.out.grown hgrow5 (fun q hq=>Or.inr (Mn TC.out.ra q hq).1))
 have X5:Hid (ae w5 xb #[.int .u32 r.id,.string (bs r.name),.int .i64 r.size,.slice pu r.runs.length cu] 113):=Mb (Ud.own Xa.out (fun hb=>by
  rw[hT,Na]at hb
  exact HXR.out hb))
 have Qn:=Mb NT
 clear Od hgrow5 hT Wv ZX Ud Pz NT Tv hblk5
 refine rd 7 (fun K hK=>?_)
 refine bB rfl _ _ 50 50 rfl _ _ (by simp[Act.eval,Act.put]) (by simp[Act.eval,Act.put]) Qn.out ?_
 refine hK.out _ _ ?_ (fun hHeld=>Go.Proofs.YtdkimcnlhmhpgaaGreat.nm ?_)
 .exact X5.out.c4
 clear hK K
 refine tk 8 28 ?_
 refine tk 9 29 ?_
 have b0:=SJ.out.cell 2 (by simp)
 simp only[List.getElem_toArray,List.getElem_cons_zero,MW]at b0
 have z0:=SJ.out.free 2
 refine rd 10 (fun K hK=>?_)
 go_simp
 refine hK.out _ _ ?_ (fun hHeld=>Go.Proofs.YtdkimcnlhmhpgaaGreat.nm ?_)
 .exact(X5.out.other (p:=⟨bx,2,none⟩) Ul.out _).c4
 clear hK K
 refine MM (by kernel_rfl) ?_ _
 go_wp2_with fail
 go_ret
 unfold di iV
 rw[HK.out]
 refine⟨rfl,_,_,_,(xs++[(r.item,.slice pu r.runs.length cu)]),ys,zs,SJ.out.set 2 _,R5.out.set SJ.out 2 _,?_,?_,?_,K5.out.setCell (p:=⟨bx,2,none⟩) (Or.inl (by simp)) _⟩
 .rw[Ms,HE.out.1];rfl
 .exact HE.out.2.1
 .exact HE.out.2.2):A:=h
theorem M4 {A:Prop}(h:A:=by
 refine Ml (S:=(fun W=>W.cell? ⟨w.heap.size,0,none⟩=some (.int .i64 r.kind)/\W.cell? ⟨w.heap.size,1,none⟩=some (.int .u32 r.id)/\W.cell? ⟨w.heap.size,2,none⟩=some (.string (bs r.name))/\W.cell? ⟨w.heap.size,3,none⟩=some (.int .i64 r.size)/\W.cell? ⟨w.heap.size,4,none⟩=some (.slice Q7 r.runs.length crr))) (by kernel_rfl) (by exact OR.out.drew.k5) (fun hHeld=>?_)
 refine tk 0 6 ?_
 refine tk 1 7 ?_
 refine tk 2 8 ?_
 refine tk 3 9 ?_
 refine tk 4 10 ?_
 refine tk 5 11 ?_
 refine tk 6 12 ?_
 refine tk 7 13 ?_
 refine wpAnyH_ready (rs:=[8,10]) (by kernel_rfl) (by simp) ?_
 refine(AllReadyH.cons rfl (fun K hK=>?_) (AllReadyH.cons rfl (fun K hK=>?_) AllReadyH.nil))
 .go_simp
  ((with_reducible refine(HC.out _ K0.out.drew).mono ?_));rintro e w5 ⟨u5,rfl,r5,k5⟩
  have K5:=Mb ((K0.out.drew).trans k5)
  have o5:=k5.own OR.out.drew (by simp)
  have O5:=Mb o5
  have R5:=Mb r5
  clear r5 o5
  obtain⟨pu,cu,rfl⟩:=ai R5.out
  go_wp2_with fail
  refine hK.out _ _ ?_ (fun hHeld=>Go.Proofs.YtdkimcnlhmhpgaaGreat.nm ?_)
  .exact O5.out.k5
  clear hK K
  refine tk 9 15 ?_
  refine rd 10 (fun K hK=>?_)
  go_simp
  refine hK.out _ _ ?_ (fun hHeld=>Go.Proofs.YtdkimcnlhmhpgaaGreat.nm ?_)
  .go_keep
  clear hK K
  refine rd 11 (fun K hK=>?_)
  go_simp
  refine hK.out _ _ ?_ (fun hHeld=>Go.Proofs.YtdkimcnlhmhpgaaGreat.nm ?_)
  .go_keep
  clear hK K
  refine MM (by kernel_rfl) ?_ _
  go_wp2_with fail
  go_meet
  exact⟨_,_,_,rfl,ae.new _ _ _,au (aH R5.out K0.out.size) ((aa.refl [] w5).alloc _) (by simp),O5.out.alloc _,K5.out.alloc _,K5.out.size⟩
 .go_simp
  refine hK.out _ _ ?_ (fun hHeld=>Go.Proofs.YtdkimcnlhmhpgaaGreat.nm ?_)
  .go_keep
  clear hK K
  have KB:=Mb ((K0.out.alloc (.cells #[.int .u32 0,.string {data:=#[]},.int .i64 0,.slice none 0 0] 113)).drew)
  have OXB:=Mb ((ae.new (w.alloc (.cells #[.int .i64 r.kind,.int .u32 r.id,.string (bs r.name),.int .i64 r.size,.slice Q7 r.runs.length crr] 102)).drew #[.int .u32 0,.string {data:=#[]},.int .i64 0,.slice none 0 0] 113))
  have OB:=Mb ((OR.out.alloc (.cells #[.int .u32 0,.string {data:=#[]},.int .i64 0,.slice none 0 0] 113)).drew)
  refine rd 8 (fun K hK=>?_)
  go_simp
  ((with_reducible refine(HC.out _ KB.out).mono ?_));rintro e w5 ⟨u5,rfl,r5,k5⟩
  have K5:=Mb ((KB.out).trans k5)
  have o5:=k5.own OB.out (by simp)
  have O5:=Mb o5
  have R5:=Mb r5
  clear r5 o5
  obtain⟨pu,cu,rfl⟩:=ai R5.out
  go_wp2_with fail
  refine hK.out _ _ ?_ (fun hHeld=>Go.Proofs.YtdkimcnlhmhpgaaGreat.nm ?_)
  .exact O5.out.k5
  clear hK K
  have XV:=k5.own OXB.out (by simp)
  simp only[MK,World.size_drew]at XV
  have OX5:=Mb XV
  obtain⟨z0,z1,z2,z3⟩:=XV.c4
  obtain⟨y0,y1,y2,y3⟩:=XV.z4
  refine tk 9 15 ?_
  refine rd 11 (fun K hK=>?_)
  go_simp
  refine hK.out _ _ ?_ (fun hHeld=>Go.Proofs.YtdkimcnlhmhpgaaGreat.nm ?_)
  .exact(O5.out.iQ (Nat.ne_of_lt (Nat.lt_succ_self _)) _ _ _ _).k5
  clear hK K
  refine MM (by kernel_rfl) ?_ _
  go_wp2_with fail
  go_meet
  exact⟨_,_,_,rfl,OX5.out.dU _ _ _ _,cw (aH R5.out KB.out.size) ((aa.refl [w.heap.size+1] w5).dU (Or.inl (by simp)) _ _ _ _) OX5.out (by decide),O5.out.iQ (Nat.ne_of_lt (Nat.lt_succ_self _)) _ _ _ _,K5.out.dU (Or.inr (Nat.le_succ _)) _ _ _ _,Nat.le_succ _⟩):A:=h
theorem Js (r:ag) (rv:Value) (w1 w:World) (bx:Nat) (nb nm:Int) (A B C:List Nf) (lo hi:Nat) (hG:gp w1 w bx nb nm A B C) (hbx:bx<w1.heap.size) (OQ:af w rv r.runs lo hi) (hf:r.fits) (Ox:∀a∈r.runs,aU a) (Po:r.runs.length<=1000000) (hlen:A.length+B.length+C.length<=100000) (hk:r.kind=1):
  Calls Tryz.prog 246 #[.pointer (some ⟨bx,0,none⟩),.agg (r.cells rv)] w (di r w1 bx nb nm A B C):=by
 obtain⟨i0,hi0,hz0,PS,P8⟩:=gh
 have HC:Hid (∀W,aa [] w W->Calls Tryz.prog 69 #[rv] W (bG r.runs W)):=Mb (fun W q=>lj rv r.runs _ _ W (OQ.kept0 q) Po)
 obtain⟨va,vb,vc,xs,ys,zs,oB,r3,e1,e2,e3,kW⟩:=hG
 obtain⟨pa,ca,rfl⟩:=ai r3.ra
 obtain⟨pb,cb,rfl⟩:=ai r3.rb
 obtain⟨pc,cc,rfl⟩:=ai r3.rc
 obtain⟨Q7,crr,rfl⟩:=OQ.shape
 have Sc:Hid (xs.length<=100000/\ys.length<=100000/\zs.length<=100000):=Mb (by
  have h1:=congrArg List.length e1
  have h2:=congrArg List.length e2
  have h3:=congrArg List.length e3
  rw[Mm]at h1 h2 h3
  omega)
 have HIT:Hid (∀W u,W.ownsRow w1.heap.size 128 2 u r.runs.length (No r.runs)->dD w1.heap.size W (r.item,u)):=Mb (fun W u ho=>⟨ho,ag.jk hf,Ox⟩)
 have HE:=Mb (And.intro e1 (And.intro e2 e3))
 have KW:=Mb kW
 have OBX:=Mb oB
 have Tf:=Mb r3
 have Q0:Hid (bx<w1.heap.size/\w1.heap.size<=w.heap.size):=Mb ⟨hbx,kW.size⟩
 have oR:=ae.new w (r.cells (.slice Q7 r.runs.length crr)) 102
 have k0:aa [] w (w.alloc (.cells (r.cells (.slice Q7 r.runs.length crr)) 102)):=(aa.refl _ _).alloc _
 unfold ag.cells at oR k0 ⊢
 unfold bG at HC
 have OR:=Mb oR
 have K0:=Mb k0
 have HK:=Mb hk
 clear oR k0 OQ hf Ox e1 e2 e3 kW oB r3 hbx hk hlen Po
 go_enter Tryz.func246,Tryz.ntmps246
 go_upto_region 1 with fail
 go_cut [5]from 6 to 15 (fun v5 wx=>∃xb pu cu,v5=.pointer (some ⟨xb,0,none⟩)/\ae wx xb #[.int .u32 r.id,.string (bs r.name),.int .i64 r.size,.slice pu r.runs.length cu] 113/\wx.ownsRow w.heap.size 128 2 (.slice pu r.runs.length cu) r.runs.length (No r.runs)/\ae wx w.heap.size #[.int .i64 r.kind,.int .u32 r.id,.string (bs r.name),.int .i64 r.size,.slice Q7 r.runs.length crr] 102/\aa [] w wx/\w.heap.size<=xb)
 case first=>
  exact M4
 case rest=>
  obtain⟨xb,pu,cu,rfl,hX,hU,hR,hK,hxb⟩:=hcut
  rename World=>wx
  have X:=Mb hX
  have OB:=Mb (hK.own OBX.out (by simp))
  have RW:=Mb (Tf.out.kept0 hK)
  have IT:=Mb (HIT.out _ _ (aH hU Q0.out.2))
  have KX:=Mb (KW.out.trans (hK.mono (by simp)))
  have HXR:Hid ((Value.slice pa xs.length ca).ownBlock≠some xb):=Mb (fun e=>by
   have h1:=(Mn Tf.out.ra xb e).2
   omega)
  have Ul:Hid (xb≠bx):=Mb (fun e=>by have:=Q0.out;omega)
  obtain⟨y0,y1,y2,y3,y4⟩:=hR.k5
  clear hX hU hR hK hxb
  rw[HK.out]at y0
  go_wp2_with fail
  refine Ml (S:=(fun W=>W.cell? ⟨xb,0,none⟩=some (.int .u32 r.id)/\W.cell? ⟨xb,1,none⟩=some (.string (bs r.name))/\W.cell? ⟨xb,2,none⟩=some (.int .i64 r.size)/\W.cell? ⟨xb,3,none⟩=some (.slice pu r.runs.length cu))) (by kernel_rfl) (by exact X.out.drew.c4) (fun hHeld=>?_)
  have bq:=OB.out.drew.cell 2 (by simp)
  simp only[List.getElem_toArray,List.getElem_cons_zero,MW]at bq
  refine tk 0 20 ?_
  refine tk 1 21 ?_
  refine tk 2 22 ?_
  refine tk 3 23 ?_
  refine tk 5 25 ?_
  refine wpAnyH_ready (rs:=[4,6]) (by kernel_rfl) (by simp) ?_
  refine(AllReadyH.cons rfl (fun K hK=>?_) (AllReadyH.cons rfl (fun K hK=>?_) AllReadyH.nil))
  .skip
   go_simp
   refine hK.out _ _ ?_ (fun hHeld=>Go.Proofs.YtdkimcnlhmhpgaaGreat.nm ?_)
   .exact X.out.drew.c4
   clear hK K
   refine rd 6 (fun K hK=>?_)
   go_simp
   have ka:aa [] wx (wx.drew.alloc (.cells #[.int .u32 r.id,.string (bs r.name),.int .i64 r.size,.slice pu r.runs.length cu] 113)):=(aa.refl [] wx).drew.alloc _
   have WN:=Mb (ka.own OB.out (by simp))
   have Xa:=Mb (ka.own X.out (by simp))
   have TC:=Mb (RW.out.kept0 ka)
   have ZS:=Mb (IT.out.kept0 ka)
   have WR:=Mb (KX.out.trans (ka.mono (by simp)))
   clear ka
   exact M12
  .skip
   go_simp
   have ka:aa [] wx (wx.drew.alloc (.cells #[.int .u32 r.id,.string (bs r.name),.int .i64 r.size,.slice pu r.runs.length cu] 113)):=(aa.refl [] wx).drew.alloc _
   have WN:=Mb (ka.own OB.out (by simp))
   have Xa:=Mb (ka.own X.out (by simp))
   have TC:=Mb (RW.out.kept0 ka)
   have ZS:=Mb (IT.out.kept0 ka)
   have WR:=Mb (KX.out.trans (ka.mono (by simp)))
   clear ka
   refine hK.out _ _ ?_ (fun hHeld=>Go.Proofs.YtdkimcnlhmhpgaaGreat.nm ?_)
   .exact Xa.out.c4
   clear hK K
   have bq2:=(OB.out.alloc (.cells #[.int .u32 r.id,.string (bs r.name),.int .i64 r.size,.slice pu r.runs.length cu] 113)).drew.cell 2 (by simp)
   simp only[List.getElem_toArray,List.getElem_cons_zero,MW]at bq2
   refine rd 4 (fun K hK=>?_)
   go_simp
   exact M12
theorem M11 {A:Prop}(h:A:=by
 refine hK.out _ _ ?_ (fun hHeld=>Go.Proofs.YtdkimcnlhmhpgaaGreat.nm ?_)
 .exact Xa.out.c4
 clear hK K
 have Pz:=ae.new wx.drew #[.int .u32 r.id,.string (bs r.name),.int .i64 r.size,.slice pu r.runs.length cu] 113
 obtain⟨v5,w5,NT,Od,hgrow5,_,hblk5⟩:=run_append_own_at (P:=Tryz.prog) (wx.drew.alloc (.cells #[.int .u32 r.id,.string (bs r.name),.int .i64 r.size,.slice pu r.runs.length cu] 113)) w1.heap.size 50 50 113 i0 _ 4 56 Tryz.underlying50 hi0 hz0 PS P8 rfl (by decide) _ ys.length (Nx ys) TC.out.eB.ra ⟨wx.drew.heap.size,0,none⟩ 1 1 [.int .u32 r.id,.string (bs r.name),.int .i64 r.size,.slice pu r.runs.length cu] rfl (fun q u hq=>by
   have WD:=(MI.1 hq).1
   rw[My,Nat.zero_add,Pz.cell q (by simpa using WD)]
   rw[<-hq];simp[Mw WD]) (by intro u hu;simp at hu;rcases hu with rfl|rfl|rfl|rfl<;>rfl) (by have:=Sc.out.2.1;unfold maxLen;omega) (by have:=Sc.out.2.1;omega) (by have:=WR.out.size;omega)
 have Tv:=(TC.out.eB.add ZS.out hgrow5 Od hblk5).eB.eB
 obtain⟨p5,c5,rfl⟩:=ai Od
 obtain⟨T,hT⟩:∃T:List Nat,T=((Value.slice pb ys.length cb).ownBlock).toList:=⟨_,rfl⟩
 have Wv:bx∉T:=fun hb=>by
  rw[hT,Na]at hb
  exact aB TC.out.eB.ra WN.out (by decide) hb
 have ZX:∀xc,T=xc->True:=fun _ _=>trivial
 have Ud:aa T _ w5:=(aa.refl T _).grown hgrow5 (fun q hq=>Or.inl (by rw[hT,Na];exact hq))
 have SJ:=Mb (Ud.own WN.out Wv)
 have R5:=Mb Tv
 have K5:=Mb (WR.out.grown hgrow5 (fun q hq=>Or.inr (Mn TC.out.eB.ra q hq).1))
 have X5:Hid (ae w5 xb #[.int .u32 r.id,.string (bs r.name),.int .i64 r.size,.slice pu r.runs.length cu] 113):=Mb (Ud.own Xa.out (fun hb=>by
  rw[hT,Na]at hb
  exact HXR.out hb))
 have Qn:=Mb NT
 clear Od hgrow5 hT Wv ZX Ud Pz NT Tv hblk5
 refine rd 7 (fun K hK=>?_)
 refine bB rfl _ _ 50 50 rfl _ _ (by simp[Act.eval,Act.put]) (by simp[Act.eval,Act.put]) Qn.out ?_
 refine hK.out _ _ ?_ (fun hHeld=>Go.Proofs.YtdkimcnlhmhpgaaGreat.nm ?_)
 .exact X5.out.c4
 clear hK K
 refine tk 8 40 ?_
 refine tk 9 41 ?_
 have b0:=SJ.out.cell 3 (by simp)
 simp only[List.getElem_toArray,List.getElem_cons_zero,MW]at b0
 have z0:=SJ.out.free 3
 refine rd 10 (fun K hK=>?_)
 go_simp
 refine hK.out _ _ ?_ (fun hHeld=>Go.Proofs.YtdkimcnlhmhpgaaGreat.nm ?_)
 .exact(X5.out.other (p:=⟨bx,3,none⟩) Ul.out _).c4
 clear hK K
 refine MM (by kernel_rfl) ?_ _
 go_wp2_with fail
 go_ret
 unfold di iV
 rw[HK.out]
 refine⟨rfl,_,_,_,xs,(ys++[(r.item,.slice pu r.runs.length cu)]),zs,SJ.out.set 3 _,R5.out.set SJ.out 3 _,?_,?_,?_,K5.out.setCell (p:=⟨bx,3,none⟩) (Or.inl (by simp)) _⟩
 .exact HE.out.1
 .rw[Ms,HE.out.2.1];rfl
 .exact HE.out.2.2):A:=h
theorem Jr (r:ag) (rv:Value) (w1 w:World) (bx:Nat) (nb nm:Int) (A B C:List Nf) (lo hi:Nat) (hG:gp w1 w bx nb nm A B C) (hbx:bx<w1.heap.size) (OQ:af w rv r.runs lo hi) (hf:r.fits) (Ox:∀a∈r.runs,aU a) (Po:r.runs.length<=1000000) (hlen:A.length+B.length+C.length<=100000) (hk:r.kind=2):
  Calls Tryz.prog 246 #[.pointer (some ⟨bx,0,none⟩),.agg (r.cells rv)] w (di r w1 bx nb nm A B C):=by
 obtain⟨i0,hi0,hz0,PS,P8⟩:=gh
 have HC:Hid (∀W,aa [] w W->Calls Tryz.prog 69 #[rv] W (bG r.runs W)):=Mb (fun W q=>lj rv r.runs _ _ W (OQ.kept0 q) Po)
 obtain⟨va,vb,vc,xs,ys,zs,oB,r3,e1,e2,e3,kW⟩:=hG
 obtain⟨pa,ca,rfl⟩:=ai r3.ra
 obtain⟨pb,cb,rfl⟩:=ai r3.rb
 obtain⟨pc,cc,rfl⟩:=ai r3.rc
 obtain⟨Q7,crr,rfl⟩:=OQ.shape
 have Sc:Hid (xs.length<=100000/\ys.length<=100000/\zs.length<=100000):=Mb (by
  have h1:=congrArg List.length e1
  have h2:=congrArg List.length e2
  have h3:=congrArg List.length e3
  rw[Mm]at h1 h2 h3
  omega)
 have HIT:Hid (∀W u,W.ownsRow w1.heap.size 128 2 u r.runs.length (No r.runs)->dD w1.heap.size W (r.item,u)):=Mb (fun W u ho=>⟨ho,ag.jk hf,Ox⟩)
 have HE:=Mb (And.intro e1 (And.intro e2 e3))
 have KW:=Mb kW
 have OBX:=Mb oB
 have Tf:=Mb r3
 have Q0:Hid (bx<w1.heap.size/\w1.heap.size<=w.heap.size):=Mb ⟨hbx,kW.size⟩
 have oR:=ae.new w (r.cells (.slice Q7 r.runs.length crr)) 102
 have k0:aa [] w (w.alloc (.cells (r.cells (.slice Q7 r.runs.length crr)) 102)):=(aa.refl _ _).alloc _
 unfold ag.cells at oR k0 ⊢
 unfold bG at HC
 have OR:=Mb oR
 have K0:=Mb k0
 have HK:=Mb hk
 clear oR k0 OQ hf Ox e1 e2 e3 kW oB r3 hbx hk hlen Po
 go_enter Tryz.func246,Tryz.ntmps246
 go_upto_region 1 with fail
 go_cut [5]from 6 to 15 (fun v5 wx=>∃xb pu cu,v5=.pointer (some ⟨xb,0,none⟩)/\ae wx xb #[.int .u32 r.id,.string (bs r.name),.int .i64 r.size,.slice pu r.runs.length cu] 113/\wx.ownsRow w.heap.size 128 2 (.slice pu r.runs.length cu) r.runs.length (No r.runs)/\ae wx w.heap.size #[.int .i64 r.kind,.int .u32 r.id,.string (bs r.name),.int .i64 r.size,.slice Q7 r.runs.length crr] 102/\aa [] w wx/\w.heap.size<=xb)
 case first=>
  exact M4
 case rest=>
  obtain⟨xb,pu,cu,rfl,hX,hU,hR,hK,hxb⟩:=hcut
  rename World=>wx
  have X:=Mb hX
  have OB:=Mb (hK.own OBX.out (by simp))
  have RW:=Mb (Tf.out.kept0 hK)
  have IT:=Mb (HIT.out _ _ (aH hU Q0.out.2))
  have KX:=Mb (KW.out.trans (hK.mono (by simp)))
  have HXR:Hid ((Value.slice pb ys.length cb).ownBlock≠some xb):=Mb (fun e=>by
   have h1:=(Mn Tf.out.eB.ra xb e).2
   omega)
  have Ul:Hid (xb≠bx):=Mb (fun e=>by have:=Q0.out;omega)
  obtain⟨y0,y1,y2,y3,y4⟩:=hR.k5
  clear hX hU hR hK hxb
  rw[HK.out]at y0
  go_wp2_with fail
  refine Ml (S:=(fun W=>W.cell? ⟨xb,0,none⟩=some (.int .u32 r.id)/\W.cell? ⟨xb,1,none⟩=some (.string (bs r.name))/\W.cell? ⟨xb,2,none⟩=some (.int .i64 r.size)/\W.cell? ⟨xb,3,none⟩=some (.slice pu r.runs.length cu))) (by kernel_rfl) (by exact X.out.drew.c4) (fun hHeld=>?_)
  have bq:=OB.out.drew.cell 3 (by simp)
  simp only[List.getElem_toArray,List.getElem_cons_zero,MW]at bq
  refine tk 0 32 ?_
  refine tk 1 33 ?_
  refine tk 2 34 ?_
  refine tk 3 35 ?_
  refine tk 5 37 ?_
  refine wpAnyH_ready (rs:=[4,6]) (by kernel_rfl) (by simp) ?_
  refine(AllReadyH.cons rfl (fun K hK=>?_) (AllReadyH.cons rfl (fun K hK=>?_) AllReadyH.nil))
  .skip
   go_simp
   refine hK.out _ _ ?_ (fun hHeld=>Go.Proofs.YtdkimcnlhmhpgaaGreat.nm ?_)
   .exact X.out.drew.c4
   clear hK K
   refine rd 6 (fun K hK=>?_)
   go_simp
   have ka:aa [] wx (wx.drew.alloc (.cells #[.int .u32 r.id,.string (bs r.name),.int .i64 r.size,.slice pu r.runs.length cu] 113)):=(aa.refl [] wx).drew.alloc _
   have WN:=Mb (ka.own OB.out (by simp))
   have Xa:=Mb (ka.own X.out (by simp))
   have TC:=Mb (RW.out.kept0 ka)
   have ZS:=Mb (IT.out.kept0 ka)
   have WR:=Mb (KX.out.trans (ka.mono (by simp)))
   clear ka
   exact M11
  .skip
   go_simp
   have ka:aa [] wx (wx.drew.alloc (.cells #[.int .u32 r.id,.string (bs r.name),.int .i64 r.size,.slice pu r.runs.length cu] 113)):=(aa.refl [] wx).drew.alloc _
   have WN:=Mb (ka.own OB.out (by simp))
   have Xa:=Mb (ka.own X.out (by simp))
   have TC:=Mb (RW.out.kept0 ka)
   have ZS:=Mb (IT.out.kept0 ka)
   have WR:=Mb (KX.out.trans (ka.mono (by simp)))
   clear ka
   refine hK.out _ _ ?_ (fun hHeld=>Go.Proofs.YtdkimcnlhmhpgaaGreat.nm ?_)
   .exact Xa.out.c4
   clear hK K
   have bq2:=(OB.out.alloc (.cells #[.int .u32 r.id,.string (bs r.name),.int .i64 r.size,.slice pu r.runs.length cu] 113)).drew.cell 3 (by simp)
   simp only[List.getElem_toArray,List.getElem_cons_zero,MW]at bq2
   refine rd 4 (fun K hK=>?_)
   go_simp
   exact M11
theorem M10 {A:Prop}(h:A:=by
 refine hK.out _ _ ?_ (fun hHeld=>Go.Proofs.YtdkimcnlhmhpgaaGreat.nm ?_)
 .exact Xa.out.c4
 clear hK K
 have Pz:=ae.new wx.drew #[.int .u32 r.id,.string (bs r.name),.int .i64 r.size,.slice pu r.runs.length cu] 113
 obtain⟨v5,w5,NT,Od,hgrow5,_,hblk5⟩:=run_append_own_at (P:=Tryz.prog) (wx.drew.alloc (.cells #[.int .u32 r.id,.string (bs r.name),.int .i64 r.size,.slice pu r.runs.length cu] 113)) w1.heap.size 50 50 113 i0 _ 4 56 Tryz.underlying50 hi0 hz0 PS P8 rfl (by decide) _ zs.length (Nx zs) TC.out.eB.eB.ra ⟨wx.drew.heap.size,0,none⟩ 1 1 [.int .u32 r.id,.string (bs r.name),.int .i64 r.size,.slice pu r.runs.length cu] rfl (fun q u hq=>by
   have WD:=(MI.1 hq).1
   rw[My,Nat.zero_add,Pz.cell q (by simpa using WD)]
   rw[<-hq];simp[Mw WD]) (by intro u hu;simp at hu;rcases hu with rfl|rfl|rfl|rfl<;>rfl) (by have:=Sc.out.2.2;unfold maxLen;omega) (by have:=Sc.out.2.2;omega) (by have:=WR.out.size;omega)
 have Tv:=(TC.out.eB.eB.add ZS.out hgrow5 Od hblk5).eB
 obtain⟨p5,c5,rfl⟩:=ai Od
 obtain⟨T,hT⟩:∃T:List Nat,T=((Value.slice pc zs.length cc).ownBlock).toList:=⟨_,rfl⟩
 have Wv:bx∉T:=fun hb=>by
  rw[hT,Na]at hb
  exact aB TC.out.eB.eB.ra WN.out (by decide) hb
 have ZX:∀xc,T=xc->True:=fun _ _=>trivial
 have Ud:aa T _ w5:=(aa.refl T _).grown hgrow5 (fun q hq=>Or.inl (by rw[hT,Na];exact hq))
 have SJ:=Mb (Ud.own WN.out Wv)
 have R5:=Mb Tv
 have K5:=Mb (WR.out.grown hgrow5 (fun q hq=>Or.inr (Mn TC.out.eB.eB.ra q hq).1))
 have X5:Hid (ae w5 xb #[.int .u32 r.id,.string (bs r.name),.int .i64 r.size,.slice pu r.runs.length cu] 113):=Mb (Ud.own Xa.out (fun hb=>by
  rw[hT,Na]at hb
  exact HXR.out hb))
 have Qn:=Mb NT
 clear Od hgrow5 hT Wv ZX Ud Pz NT Tv hblk5
 refine rd 7 (fun K hK=>?_)
 refine bB rfl _ _ 50 50 rfl _ _ (by simp[Act.eval,Act.put]) (by simp[Act.eval,Act.put]) Qn.out ?_
 refine hK.out _ _ ?_ (fun hHeld=>Go.Proofs.YtdkimcnlhmhpgaaGreat.nm ?_)
 .exact X5.out.c4
 clear hK K
 refine tk 8 52 ?_
 refine tk 9 53 ?_
 have b0:=SJ.out.cell 4 (by simp)
 simp only[List.getElem_toArray,List.getElem_cons_zero,MW]at b0
 have z0:=SJ.out.free 4
 refine rd 10 (fun K hK=>?_)
 go_simp
 refine hK.out _ _ ?_ (fun hHeld=>Go.Proofs.YtdkimcnlhmhpgaaGreat.nm ?_)
 .exact(X5.out.other (p:=⟨bx,4,none⟩) Ul.out _).c4
 clear hK K
 refine MM (by kernel_rfl) ?_ _
 go_wp2_with fail
 go_ret
 unfold di iV
 rw[HK.out]
 refine⟨rfl,_,_,_,xs,ys,(zs++[(r.item,.slice pu r.runs.length cu)]),SJ.out.set 4 _,R5.out.set SJ.out 4 _,?_,?_,?_,K5.out.setCell (p:=⟨bx,4,none⟩) (Or.inl (by simp)) _⟩
 .exact HE.out.1
 .exact HE.out.2.1
 .rw[Ms,HE.out.2.2];rfl):A:=h
theorem Jq (r:ag) (rv:Value) (w1 w:World) (bx:Nat) (nb nm:Int) (A B C:List Nf) (lo hi:Nat) (hG:gp w1 w bx nb nm A B C) (hbx:bx<w1.heap.size) (OQ:af w rv r.runs lo hi) (hf:r.fits) (Ox:∀a∈r.runs,aU a) (Po:r.runs.length<=1000000) (hlen:A.length+B.length+C.length<=100000) (hk:r.kind=3):
  Calls Tryz.prog 246 #[.pointer (some ⟨bx,0,none⟩),.agg (r.cells rv)] w (di r w1 bx nb nm A B C):=by
 obtain⟨i0,hi0,hz0,PS,P8⟩:=gh
 have HC:Hid (∀W,aa [] w W->Calls Tryz.prog 69 #[rv] W (bG r.runs W)):=Mb (fun W q=>lj rv r.runs _ _ W (OQ.kept0 q) Po)
 obtain⟨va,vb,vc,xs,ys,zs,oB,r3,e1,e2,e3,kW⟩:=hG
 obtain⟨pa,ca,rfl⟩:=ai r3.ra
 obtain⟨pb,cb,rfl⟩:=ai r3.rb
 obtain⟨pc,cc,rfl⟩:=ai r3.rc
 obtain⟨Q7,crr,rfl⟩:=OQ.shape
 have Sc:Hid (xs.length<=100000/\ys.length<=100000/\zs.length<=100000):=Mb (by
  have h1:=congrArg List.length e1
  have h2:=congrArg List.length e2
  have h3:=congrArg List.length e3
  rw[Mm]at h1 h2 h3
  omega)
 have HIT:Hid (∀W u,W.ownsRow w1.heap.size 128 2 u r.runs.length (No r.runs)->dD w1.heap.size W (r.item,u)):=Mb (fun W u ho=>⟨ho,ag.jk hf,Ox⟩)
 have HE:=Mb (And.intro e1 (And.intro e2 e3))
 have KW:=Mb kW
 have OBX:=Mb oB
 have Tf:=Mb r3
 have Q0:Hid (bx<w1.heap.size/\w1.heap.size<=w.heap.size):=Mb ⟨hbx,kW.size⟩
 have oR:=ae.new w (r.cells (.slice Q7 r.runs.length crr)) 102
 have k0:aa [] w (w.alloc (.cells (r.cells (.slice Q7 r.runs.length crr)) 102)):=(aa.refl _ _).alloc _
 unfold ag.cells at oR k0 ⊢
 unfold bG at HC
 have OR:=Mb oR
 have K0:=Mb k0
 have HK:=Mb hk
 clear oR k0 OQ hf Ox e1 e2 e3 kW oB r3 hbx hk hlen Po
 go_enter Tryz.func246,Tryz.ntmps246
 go_upto_region 1 with fail
 go_cut [5]from 6 to 15 (fun v5 wx=>∃xb pu cu,v5=.pointer (some ⟨xb,0,none⟩)/\ae wx xb #[.int .u32 r.id,.string (bs r.name),.int .i64 r.size,.slice pu r.runs.length cu] 113/\wx.ownsRow w.heap.size 128 2 (.slice pu r.runs.length cu) r.runs.length (No r.runs)/\ae wx w.heap.size #[.int .i64 r.kind,.int .u32 r.id,.string (bs r.name),.int .i64 r.size,.slice Q7 r.runs.length crr] 102/\aa [] w wx/\w.heap.size<=xb)
 case first=>
  exact M4
 case rest=>
  obtain⟨xb,pu,cu,rfl,hX,hU,hR,hK,hxb⟩:=hcut
  rename World=>wx
  have X:=Mb hX
  have OB:=Mb (hK.own OBX.out (by simp))
  have RW:=Mb (Tf.out.kept0 hK)
  have IT:=Mb (HIT.out _ _ (aH hU Q0.out.2))
  have KX:=Mb (KW.out.trans (hK.mono (by simp)))
  have HXR:Hid ((Value.slice pc zs.length cc).ownBlock≠some xb):=Mb (fun e=>by
   have h1:=(Mn Tf.out.eB.eB.ra xb e).2
   omega)
  have Ul:Hid (xb≠bx):=Mb (fun e=>by have:=Q0.out;omega)
  obtain⟨y0,y1,y2,y3,y4⟩:=hR.k5
  clear hX hU hR hK hxb
  rw[HK.out]at y0
  go_wp2_with fail
  refine Ml (S:=(fun W=>W.cell? ⟨xb,0,none⟩=some (.int .u32 r.id)/\W.cell? ⟨xb,1,none⟩=some (.string (bs r.name))/\W.cell? ⟨xb,2,none⟩=some (.int .i64 r.size)/\W.cell? ⟨xb,3,none⟩=some (.slice pu r.runs.length cu))) (by kernel_rfl) (by exact X.out.drew.c4) (fun hHeld=>?_)
  have bq:=OB.out.drew.cell 4 (by simp)
  simp only[List.getElem_toArray,List.getElem_cons_zero,MW]at bq
  refine tk 0 44 ?_
  refine tk 1 45 ?_
  refine tk 2 46 ?_
  refine tk 3 47 ?_
  refine tk 5 49 ?_
  refine wpAnyH_ready (rs:=[4,6]) (by kernel_rfl) (by simp) ?_
  refine(AllReadyH.cons rfl (fun K hK=>?_) (AllReadyH.cons rfl (fun K hK=>?_) AllReadyH.nil))
  .skip
   go_simp
   refine hK.out _ _ ?_ (fun hHeld=>Go.Proofs.YtdkimcnlhmhpgaaGreat.nm ?_)
   .exact X.out.drew.c4
   clear hK K
   refine rd 6 (fun K hK=>?_)
   go_simp
   have ka:aa [] wx (wx.drew.alloc (.cells #[.int .u32 r.id,.string (bs r.name),.int .i64 r.size,.slice pu r.runs.length cu] 113)):=(aa.refl [] wx).drew.alloc _
   have WN:=Mb (ka.own OB.out (by simp))
   have Xa:=Mb (ka.own X.out (by simp))
   have TC:=Mb (RW.out.kept0 ka)
   have ZS:=Mb (IT.out.kept0 ka)
   have WR:=Mb (KX.out.trans (ka.mono (by simp)))
   clear ka
   exact M10
  .skip
   go_simp
   have ka:aa [] wx (wx.drew.alloc (.cells #[.int .u32 r.id,.string (bs r.name),.int .i64 r.size,.slice pu r.runs.length cu] 113)):=(aa.refl [] wx).drew.alloc _
   have WN:=Mb (ka.own OB.out (by simp))
   have Xa:=Mb (ka.own X.out (by simp))
   have TC:=Mb (RW.out.kept0 ka)
   have ZS:=Mb (IT.out.kept0 ka)
   have WR:=Mb (KX.out.trans (ka.mono (by simp)))
   clear ka
   refine hK.out _ _ ?_ (fun hHeld=>Go.Proofs.YtdkimcnlhmhpgaaGreat.nm ?_)
   .exact Xa.out.c4
   clear hK K
   have bq2:=(OB.out.alloc (.cells #[.int .u32 r.id,.string (bs r.name),.int .i64 r.size,.slice pu r.runs.length cu] 113)).drew.cell 4 (by simp)
   simp only[List.getElem_toArray,List.getElem_cons_zero,MW]at bq2
   refine rd 4 (fun K hK=>?_)
   go_simp
   exact M10
theorem Jt (r:ag) (rv:Value) (w1 w:World) (bx:Nat) (nb nm:Int) (A B C:List Nf) (lo hi:Nat) (hG:gp w1 w bx nb nm A B C) (hbx:bx<w1.heap.size) (OQ:af w rv r.runs lo hi) (hf:r.fits) (Ox:∀a∈r.runs,aU a) (Po:r.runs.length<=1000000) (hlen:A.length+B.length+C.length<=100000) (hk:¬r.kind=1/\¬r.kind=2/\¬r.kind=3):
  Calls Tryz.prog 246 #[.pointer (some ⟨bx,0,none⟩),.agg (r.cells rv)] w (di r w1 bx nb nm A B C):=by
 obtain⟨i0,hi0,hz0,PS,P8⟩:=gh
 have HC:Hid (∀W,aa [] w W->Calls Tryz.prog 69 #[rv] W (bG r.runs W)):=Mb (fun W q=>lj rv r.runs _ _ W (OQ.kept0 q) Po)
 obtain⟨va,vb,vc,xs,ys,zs,oB,r3,e1,e2,e3,kW⟩:=hG
 obtain⟨pa,ca,rfl⟩:=ai r3.ra
 obtain⟨pb,cb,rfl⟩:=ai r3.rb
 obtain⟨pc,cc,rfl⟩:=ai r3.rc
 obtain⟨Q7,crr,rfl⟩:=OQ.shape
 have Sc:Hid (xs.length<=100000/\ys.length<=100000/\zs.length<=100000):=Mb (by
  have h1:=congrArg List.length e1
  have h2:=congrArg List.length e2
  have h3:=congrArg List.length e3
  rw[Mm]at h1 h2 h3
  omega)
 have HIT:Hid (∀W u,W.ownsRow w1.heap.size 128 2 u r.runs.length (No r.runs)->dD w1.heap.size W (r.item,u)):=Mb (fun W u ho=>⟨ho,ag.jk hf,Ox⟩)
 have HE:=Mb (And.intro e1 (And.intro e2 e3))
 have KW:=Mb kW
 have OBX:=Mb oB
 have Tf:=Mb r3
 have Q0:Hid (bx<w1.heap.size/\w1.heap.size<=w.heap.size):=Mb ⟨hbx,kW.size⟩
 have oR:=ae.new w (r.cells (.slice Q7 r.runs.length crr)) 102
 have k0:aa [] w (w.alloc (.cells (r.cells (.slice Q7 r.runs.length crr)) 102)):=(aa.refl _ _).alloc _
 unfold ag.cells at oR k0 ⊢
 unfold bG at HC
 have OR:=Mb oR
 have K0:=Mb k0
 have HK:=Mb hk
 clear oR k0 OQ hf Ox e1 e2 e3 kW oB r3 hbx hk hlen Po
 go_enter Tryz.func246,Tryz.ntmps246
 go_upto_region 1 with fail
 go_cut [5]from 6 to 15 (fun v5 wx=>∃xb pu cu,v5=.pointer (some ⟨xb,0,none⟩)/\ae wx xb #[.int .u32 r.id,.string (bs r.name),.int .i64 r.size,.slice pu r.runs.length cu] 113/\wx.ownsRow w.heap.size 128 2 (.slice pu r.runs.length cu) r.runs.length (No r.runs)/\ae wx w.heap.size #[.int .i64 r.kind,.int .u32 r.id,.string (bs r.name),.int .i64 r.size,.slice Q7 r.runs.length crr] 102/\aa [] w wx/\w.heap.size<=xb)
 case first=>
  exact M4
 case rest=>
  obtain⟨xb,pu,cu,rfl,hX,hU,hR,hK,hxb⟩:=hcut
  rename World=>wx
  have X:=Mb hX
  have OB:=Mb (hK.own OBX.out (by simp))
  have RW:=Mb (Tf.out.kept0 hK)
  have IT:=Mb (HIT.out _ _ (aH hU Q0.out.2))
  have KX:=Mb (KW.out.trans (hK.mono (by simp)))
  have Ul:Hid (xb≠bx):=Mb (fun e=>by have:=Q0.out;omega)
  obtain⟨y0,y1,y2,y3,y4⟩:=hR.k5
  clear hX hU hR hK hxb
  obtain⟨h1,h2,h3⟩:=HK.out
  have g1:(r.kind==1)=false:=by simpa using h1
  have g2:(r.kind==2)=false:=by simpa using h2
  have g3:(r.kind==3)=false:=by simpa using h3
  go_wp2_with fail
  go_ret
  unfold di iV
  rw[if_neg HK.out.1,if_neg HK.out.2.1,if_neg HK.out.2.2]
  refine⟨by simp[HK.out.1,HK.out.2.1,HK.out.2.2],_,_,_,xs,ys,zs,OB.out,RW.out,HE.out.1,HE.out.2.1,HE.out.2.2,KX.out⟩
theorem Kw (r:ag) (rv:Value) (w1 w:World) (bx:Nat) (nb nm:Int) (A B C:List Nf) (lo hi:Nat) (hG:gp w1 w bx nb nm A B C) (hbx:bx<w1.heap.size) (OQ:af w rv r.runs lo hi) (hf:r.fits) (Ox:∀a∈r.runs,aU a) (Po:r.runs.length<=1000000) (hlen:A.length+B.length+C.length<=100000):
  Calls Tryz.prog 246 #[.pointer (some ⟨bx,0,none⟩),.agg (r.cells rv)] w (di r w1 bx nb nm A B C):=by
 by_cases h1:r.kind=1
 .exact Js r rv w1 w bx nb nm A B C lo hi hG hbx OQ hf Ox Po hlen h1
 by_cases h2:r.kind=2
 .exact Jr r rv w1 w bx nb nm A B C lo hi hG hbx OQ hf Ox Po hlen h2
 by_cases h3:r.kind=3
 .exact Jq r rv w1 w bx nb nm A B C lo hi hG hbx OQ hf Ox Po hlen h3
 exact Jt r rv w1 w bx nb nm A B C lo hi hG hbx OQ hf Ox Po hlen ⟨h1,h2,h3⟩
end Go.Proofs.YtdkimcnlhmhpgaaGreat
