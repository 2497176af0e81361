/- -/
import Derived.Test.YtdkimcnlhmhpgaaGreatM21
set_option maxHeartbeats 32000000
set_option maxRecDepth 100000
namespace Go.Proofs.YtdkimcnlhmhpgaaGreat
open Go.Proofs.Tryz Go.RowKit
variable {w:World} {c:au}
theorem NH:type_of% @Option.mem_toList:=@Option.mem_toList
theorem aO {P:Program} {ops:Array Oper} {o:Oper} {a:Act} {K:Act->World->Prop} {Q:Exit->Act->World->Prop} {E:Prop}
  (hg:o.guard=none) (d x:Operand) (dT sT:TypeId) (Sq:o.op=Op.call {callee:=Callee.builtin Builtin.append,args:=#[d,x],argTypes:=#[dT,sT]})
  (v u:Value) (hd:a.eval d=v) (hx:a.eval x=u) {v':Value} {w':World} (hr:(Builtin.append_ #[dT,sT] o.type #[v,u]).run P w=.ok v' w') (hK:K (a.put o.dst v') w'):
  if Region.wanted o (yielded ops a.tmps)=true then Oper.wp P o a w K Q else E:=by
 have hw:Region.wanted o (yielded ops a.tmps)=true:=by simp[Region.wanted,hg]
 rw[if_pos hw]
 unfold Oper.wp
 simp[execOp,Sq,resolve,invoke,builtin,hd,hx,hr,Result.andThen]
 exact hK
def gG (w0 w:World) (bx:Nat) (l:List ag):Prop:=
 ∃v vs,ae w bx #[v] 92/\vs.map (·.1)=l/\w.ownsRow w0 102 5 v vs.length (bw vs)/\(∀x∈vs,af w0 x.2 x.1.runs 0 w0.heap.size/\x.1.fits)/\NP [] w0 w/\w0.heap.size<=bx
theorem M22 {A:Prop}(h:A:=by
 by_cases h0:vs=[]
 .subst h0
  obtain⟨p,c,rfl⟩:=ah h3
  exact Or.inl ⟨rfl,p,c,rfl⟩
 .have hp:0<vs.length:=Nu.2 h0
  obtain⟨g,c,rfl,g1,g2,g3,g4,g5⟩:=cU h3 (by simpa using hp)
  refine Or.inr ⟨g,0,c,_b,fun i hi=>?_,Nb _,g2,MG _,fun e=>h0 (List.map_eq_nil_iff.1 e),by simpa using g3,g4⟩
  have hi':i<vs.length:=_D
  have⟨q1,q2⟩:=h4 _ (MJ hi')
  refine⟨[Value.int .i64 vs[i].1.kind,Value.int .u32 vs[i].1.id,Value.string (bs vs[i].1.name),Value.int .i64 vs[i].1.size,vs[i].2],rfl,⟨vs[i].2,by rw[Ny],by rw[Ny];exact(q1.kept0 h5).upto,by rw[Ny];exact q2⟩,fun j u hj=>?_⟩
  rw[Nat.zero_add]
  exact g5 _ _ (jd vs i hi' j u hj)):A:=h
theorem gG.val {w0:World} {bx:Nat} {l:List ag} (h:gG w0 w bx l):∃v,ae w bx #[v] 92/\bX w v l 0 w.heap.size/\NP [] w0 w:=by
 obtain⟨v,vs,h1,rfl,h3,h4,h5,h6⟩:=h
 refine⟨v,h1,?_,h5⟩
 exact M22
theorem lY {l:List NS} {k:Int} {j:Nat} (h:j<l.length):(l.take (j+1)).map (·.told k)=(l.take j).map (·.told k)++[(l[j]'h).told k]:=by
 rw[MI h,M0];rfl
theorem M4 {A:Prop}(h:A:=by
 clear hK K
 have P4:=ae.new w3 #[k,(A.id,()),A.name,A.size,(pk,nk,ck)] 102
 have⟨v5,w5,Oe,OG,hgrow5,_,_⟩:=run_append_own_at (P:=prog) (w3.alloc (.cells #[k,(A.id,()),A.name,A.size,(pk,nk,ck)] 102)) w0 92 92 102 i0 _ 5 64 underlying92 hi0 Rh Qc Qx rfl _d _ vs.length (bw vs) (MH Rn.out _) w3 1 1 [.int .i64 k,.int .u32 A.id,.string (bs A.name),.int .i64 A.size,.slice pk nk ck] rfl (fun q u hq=>by
  have WO:=(Nn.1 hq).1
  rw[Ni,Nat.zero_add,P4.cell q ah!]
  rw[<-hq];simp[MZ WO]) _l b! ag! (by have:=K3.out.size;simp;omega)
 obtain⟨p5,c5,rfl⟩:=ah OG
 obtain⟨T,hT⟩:∃T:List Nat,T=((Value.slice pv vs.length cv).ownBlock).toList:=⟨_,rfl⟩
 have Zh:bx∉T:=fun hb=>by
  rw[hT,NH]at hb
  exact aB Rn.out Uk.out _d hb
 have hTi:wr.heap.size∉T:=fun hb=>by
  rw[hT,NH]at hb
  exact aB Rn.out OI3.out _d hb
 have V7:NP T _ w5:=(NP.refl T _).grown hgrow5 (fun q hq=>Or.inl R!)
 have UJ:=tK (V7.own (Uk.out.alloc _) Zh)
 have OI5:=tK (V7.own (OI3.out.alloc _) hTi)
 have K5:=tK ((K3.out.alloc _).grown hgrow5 (fun q hq=>Or.inr (ML Rn.out q hq).1))
 have⟨Si,Ra⟩:=_f OG Oe
 clear OG hgrow5 hT Zh hTi V7 P4 Oe
 refine rD 5 (fun K hK=>?_)
 refine aO rfl _ _ 92 92 rfl _ _ _g _g Ra.out ?_
 refine hK.out _ _ ?_ (fun hHeld=>nM ?_)
 .exact OI5.out.c4
 clear hK K
 have b0:=UJ.out.cell 0 _b
 simp only[List.getElem_toArray,List.getElem_cons_zero]at b0
 have z0:=UJ.out.free 0
 refine rD 6 (fun K hK=>?_)
 go_simp
 refine hK.out _ _ ?_ (fun hHeld=>nM ?_)
 .exact(OI5.out.other (p:=bx) WJ.out _).c4
 clear hK K
 refine Ng _c ?_ _
 go_wp2_with fail
 go_roundw
 case rel=>
  refine⟨j+1,Of.out,_j,.slice p5 (vs.length+1) c5,vs++[(A.told k,.slice pk nk ck)],?_,?_,?_,?_,?_,SP.out⟩
  .exact UJ.out.set 0 _
  .rw[M0,HVS.out,MW,Sm.out];rfl
  .rw[eF,tN,Nq]
   exact bI Si.out ((NP.refl [bx] w5).setCell (p:=bx) (Or.inl _b) _) UJ.out _d
  .intro x hx
   rcases Na.1 hx with hx|hx
   .exact HVR.out x hx
   .have:x=(A.told k,.slice pk nk ck):=_h
    subst this;exact Vq.out
  .exact K5.out.setCell (p:=bx) (Or.inr SP.out) _
 case measure=>(have h:=Of.out;simp[intOf];omega)):A:=h
theorem D7 (k:Int) (vl:Value) (l:List NS) (L:List ag) (bx:Nat) (w0 w:World) (h:aU w0 vl l) (hA:gG w0 w bx L) (hlen:L.length+l.length<=100000) (YK:(Lit.int .i64 k).wf=true):
  am! 181 #[k,vl,bx] w fun e w'=>e=.returned (.tuple #[])/\gG w0 w' bx (L++l.map (·.told k)):=by
 have⟨i0,hi0,Rh,Qc,Qx⟩:=jB
 obtain⟨p,c,rfl⟩:=h.shape
 have⟨H,HA,OZ⟩:=gg! h hA hlen
 have Tg:(l.length:Int)<=1000000:=_a
 clear h hA hlen
 go_enter func181,ntmps181
 go_wp2_with fail
 go_loopw [9] (fun i wr=>∃j:Nat,j<=l.length/\i=(j:Int)/\gG w0 wr bx (L++(l.take j).map (·.told k))) (fun i _=>l.length-(intOf i).toNat)
 case atStart=>exact⟨0,Nb _,rfl,by simpa using HA.out⟩
 case round=>
  obtain⟨j,hj,rfl,hR⟩:=hrel
  by_cases NV:j<l.length
  .have i1:(j:Int)<l.length:=_a
   obtain⟨b,off,kv,rfl,hia,hb,RU,hc2,SA⟩:=H.out.ja j NV
   have PF:=lY (k:=k) NV
   have⟨v,vs,ho,hvs,NU,hvr,hK,hbx⟩:=hR
   have⟨y0,y1,y2,y3⟩:=SA wr hK
   have Rt:=fun W=>Gu k (l[j]'NV) kv W hia.fz
   have SF:af w0 kv ((l[j]'NV).told k).runs 0 w0.heap.size/\((l[j]'NV).told k).fits:=⟨hia.1,NS.dw hia.2.1 YK⟩
   obtain⟨pk,nk,ck,rfl⟩:=hia.fz
   have Y7:vs.length<=100000:=by
    have:=congrArg List.length hvs
    rw[MP,tN,MP,MO]at this
    have:=OZ.out
    omega
   have⟨HVS,Sm,Vq,HVR,HT,Of,Zp,V6,SP⟩:=gb! hvs PF SF hvr Rt NV Y7 hK hbx
   have WJ:Hid (wr.heap.size≠bx):=tK (fun e=>by have:=ho.lt;omega)
   unfold NS.told ag.cells NS.cells at HT
   clear hvs PF SF hvr Rt hia SA hb Y7
   generalize hLA:l[j]'NV=A at*
   clear hLA
   have OB:=tK (ho.alloc (.cells #[(A.id,()),A.name,A.size,(pk,nk,ck)] 113))
   have OI:=tK (ae.new wr #[(A.id,()),A.name,A.size,(pk,nk,ck)] 113)
   have UX:=tK (MH NU (.cells #[(A.id,()),A.name,A.size,(pk,nk,ck)] 113))
   have KW:=tK (hK.alloc (.cells #[(A.id,()),A.name,A.size,(pk,nk,ck)] 113))
   clear ho NU hK hbx NV
   obtain⟨pv,cv,rfl⟩:=ah UX.out
   go_wp2_with fail
   refine MK (S:=(fun W=>(W.cell? wr=(A.id,())/\W.cell? (aa wr 1)=A.name/\W.cell? (aa wr 2)=A.size/\W.cell? (aa wr 3)=(pk,nk,ck)))) _c (by exact OI.out.drew.c4) (fun hHeld=>?_)
   have b1:=OB.out.drew.cell 0 _b
   simp only[List.getElem_toArray,List.getElem_cons_zero]at b1
   refine tS ?_
   refine wpAnyH_ready (rs:=[0,3]) _c _b ?_
   refine(AllReadyH.cons rfl (fun K hK=>?_) (AllReadyH.cons rfl (fun K hK=>?_) AllReadyH.nil))
   .skip
    go_simp
    refine hK.out _ _ ?_ (fun hHeld=>nM ?_)
    .exact OI.out.drew.c4
    clear hK K
    refine rD 3 (fun K hK=>?_)
    go_simp
    ((with_reducible refine(HT.out _).mono ?_));rintro e w3 ⟨rfl,k3⟩
    have Uk:=tK (k3.own OB.out.drew _b)
    have OI3:=tK (k3.own OI.out.drew _b)
    have Rn:=tK (ax (World.ownsRow.drew UX.out) k3 _b)
    have K3:=tK (KW.out.drew.trans k3)
    go_wp2_with fail
    refine hK.out _ _ ?_ (fun hHeld=>nM ?_)
    .exact OI3.out.c4
    clear hK K
    refine rD 4 (fun K hK=>?_)
    go_simp
    refine hK.out _ _ ?_ (fun hHeld=>nM ?_)
    .go_keep
    exact M4
   .skip
    go_simp
    ((with_reducible refine(HT.out _).mono ?_));rintro e w3 ⟨rfl,k3⟩
    have Uk:=tK (k3.own OB.out.drew _b)
    have OI3:=tK (k3.own OI.out.drew _b)
    have Rn:=tK (ax (World.ownsRow.drew UX.out) k3 _b)
    have K3:=tK (KW.out.drew.trans k3)
    go_wp2_with fail
    refine hK.out _ _ ?_ (fun hHeld=>nM ?_)
    .exact OI3.out.c4
    clear hK K
    have b3:=Uk.out.cell 0 _b
    simp only[List.getElem_toArray,List.getElem_cons_zero]at b3
    refine wpAnyH_ready (rs:=[0,4]) _c _b ?_
    refine(AllReadyH.cons rfl (fun K hK=>?_) (AllReadyH.cons rfl (fun K hK=>?_) AllReadyH.nil))
    .skip
     go_simp
     refine hK.out _ _ ?_ (fun hHeld=>nM ?_)
     .exact OI3.out.c4
     clear hK K
     refine rD 4 (fun K hK=>?_)
     go_simp
     refine hK.out _ _ ?_ (fun hHeld=>nM ?_)
     .go_keep
     exact M4
    .skip
     go_simp
     refine hK.out _ _ ?_ (fun hHeld=>nM ?_)
     .go_keep
     clear hK K
     have b4:=(Uk.out.alloc (.cells #[k,(A.id,()),A.name,A.size,(pk,nk,ck)] 102)).cell 0 _b
     simp only[List.getElem_toArray,List.getElem_cons_zero]at b4
     refine rD 0 (fun K hK=>?_)
     go_simp
     refine hK.out _ _ ?_ (fun hHeld=>nM ?_)
     .exact(OI3.out.alloc _).c4
     exact M4
  .obtain rfl:j=l.length:=_a
   rw[MU]at hR
   have HRF:=tK hR
   have i1:¬(l.length:Int)<l.length:=_a
   clear hR
   go_wp2_with fail
   refine bodyPost_end (results_none rfl _ _ _) rfl ?_
   exact⟨rfl,HRF.out⟩
def fm (c:au) (w:World) (e:Ending) (w':World):Prop:=∃u,e=.returned u/\bX w' u (Ov c) 0 w'.heap.size/\NP [] w w'
theorem vS (v:Value) (c:au) (w:World) (h:dJ w v c) (hlen:c.boxes.length+c.mans.length+c.names.length<=100000):
  am! 110 #[v] w (fm c w):=by
 obtain⟨vb,vm,vn,rfl,hb,hm,hn,_⟩:=h
 have⟨p1,c1,e1⟩:=hb.shape
 have⟨p2,c2,e2⟩:=hm.shape
 have⟨p3,c3,e3⟩:=hn.shape
 obtain⟨W1,hW1⟩:∃W1,W1=w.alloc (.cells #[(c.nextBox,()),(c.nextMan,()),vb,vm,vn] 52):=⟨_,rfl⟩
 have k1:NP [] w W1:=_H
 have HB:Hid (∀W L,gG W1 W (w.heap.size+1) L->L.length=0->am! 181 #[(1:Int),vb,↑(w+1:Nat)] W fun e w'=>e=.returned (.tuple #[])/\gG W1 w' (w.heap.size+1) (L++c.boxes.map (·.told 1))):=tK (fun W L hA hL=>D7 1 vb _ L _ W1 W (hb.kept0 k1) hA _a _d)
 have HM:Hid (∀W L,gG W1 W (w.heap.size+1) L->L.length=c.boxes.length->am! 181 #[(2:Int),vm,↑(w+1:Nat)] W fun e w'=>e=.returned (.tuple #[])/\gG W1 w' (w.heap.size+1) (L++c.mans.map (·.told 2))):=tK (fun W L hA hL=>D7 2 vm _ L _ W1 W (hm.kept0 k1) hA _a _d)
 have HN:Hid (∀W L,gG W1 W (w.heap.size+1) L->L.length=c.boxes.length+c.mans.length->am! 181 #[(3:Int),vn,↑(w+1:Nat)] W fun e w'=>e=.returned (.tuple #[])/\gG W1 w' (w.heap.size+1) (L++c.names.map (·.told 3))):=tK (fun W L hA hL=>D7 3 vn _ L _ W1 W (hn.kept0 k1) hA _a _d)
 subst e1 e2 e3
 have oA:ae W1 w #[(c.nextBox,()),(c.nextMan,()),(p1,c.boxes.length,c1),(p2,c.mans.length,c2),(p3,c.names.length,c3)] 52:=_U
 have RH:W1.heap.size=w.heap.size+1:=by rw[hW1];simp
 have oB:ae (W1.alloc (.cells #[()] 92)) (w.heap.size+1) #[()] 92:=by rw[<-RH];exact ae.new _ _ _
 have hA0:gG W1 (W1.alloc (.cells #[()] 92)) (w.heap.size+1) []:=⟨(),[],oB,rfl,Nf _ _ _ _,fun x hx=>J!,(NP.refl _ _).alloc _,_a⟩
 rw[hW1]at hA0
 have Ow:Hid (∀W,NP [] W1 W->W.cell? (aa w 2)=(p1,c.boxes.length,c1)/\W.cell? (aa w 3)=(p2,c.mans.length,c2)/\W.cell? (aa w 4)=(p3,c.names.length,c3)):=tK (fun W q=>by
  have⟨_,_,x2,x3,x4⟩:=(q.own oA _b).k5
  exact⟨x2,x3,x4⟩)
 rw[hW1]at HB HM HN Ow k1
 have HA0:=tK hA0
 have⟨x2,x3,x4⟩:=Ow.out _ ((NP.refl _ _).alloc (.cells #[()] 92))
 have K1:=tK k1
 have HC:Hid ((([]++c.boxes.map (·.told 1))++c.mans.map (·.told 2))++c.names.map (·.told 3)=Ov c):=tK (by unfold Ov;simp)
 have HL1:Hid (([]++c.boxes.map (·.told 1):List ag).length=c.boxes.length):=tK _b
 have HL2:Hid ((([]++c.boxes.map (·.told 1))++c.mans.map (·.told 2):List ag).length=c.boxes.length+c.mans.length):=tK _b
 clear oA oB hA0 hb hm hn hlen k1 RH hW1 W1
 go_enter func110,ntmps110
 go_wp2_with fail
 refine(HB.out _ _ HA0.out rfl).mono ?_;rintro e w2 ⟨rfl,UG⟩
 have V9:=tK UG
 have⟨u2,ou2,_,kk2⟩:=UG.val
 have⟨x2,x3,x4⟩:=Ow.out _ kk2
 clear UG ou2 kk2
 go_wp2_with fail
 refine(HM.out _ _ V9.out HL1.out).mono ?_;rintro e w3 ⟨rfl,hA3⟩
 have HA3:=tK hA3
 have⟨u3,ou3,_,Ti⟩:=hA3.val
 have⟨x2,x3,x4⟩:=Ow.out _ Ti
 clear hA3 ou3 Ti
 go_wp2_with fail
 refine(HN.out _ _ HA3.out HL2.out).mono ?_;rintro e w4 ⟨rfl,hA4⟩
 rw[HC.out]at hA4
 have⟨u4,ou4,hin4,kk4⟩:=hA4.val
 have HI4:=tK hin4
 have K4:=tK (K1.out.trans kk4)
 have b4:=ou4.cell 0 _b
 simp only[List.getElem_toArray,List.getElem_cons_zero]at b4
 clear hA4 hin4 kk4
 go_wp2_with fail
 go_ret
 exact⟨_,rfl,HI4.out,K4.out⟩
def jg (nb nm:Nat):List UInt8:=[67,65,84,76]++NT nb 4++NT nm 4
def eD (c:au):List UInt8:=jg c.nextBox.toNat c.nextMan.toNat++(if Ov c=[]then[]else fZ (Ov c))
def bN (c:au):List UInt8:=dF (eD c)
open Classical in
noncomputable def cY (c:au):List UInt8×Int:=if OL c then(bN c,0)else([],110)
def lV (c:au) (w:World) (e:Ending) (w':World):Prop:=e=.returned (.tuple #[.string (bs (cY c).1),.int .i64 (cY c).2])/\NP [] w w'
theorem mA {s:List UInt8} {C:Int} {w':World} (h:cY c=(s,C)) (k:NP [] w w'):lV c w (.returned (.tuple #[s,C])) w':=by
 unfold lV;rw[h];exact⟨rfl,k⟩
theorem jD (h:OL c):∀r∈Ov c,az r=true:=by
 intro r hr
 unfold Ov at hr
 simp only[Na,ND]at hr
 rcases hr with(⟨a,ha,rfl⟩|⟨a,ha,rfl⟩)|⟨a,ha,rfl⟩
 .exact h.boxes.2.1 a ha
 .exact h.mans.2.1 a ha
 .exact h.names.2.1 a ha
theorem fN (c:au):(Ov c).length=c.boxes.length+c.mans.length+c.names.length:=by unfold Ov;simp[Nat.add_assoc]
theorem By (h:ie c):∀r∈Ov c,r.runs.length<=1000000:=by
 intro r hr
 unfold Ov at hr
 simp only[Na,ND]at hr
 rcases hr with(⟨a,ha,rfl⟩|⟨a,ha,rfl⟩)|⟨a,ha,rfl⟩
 .exact h.1.2 a ha
 .exact h.2.1.2 a ha
 .exact h.2.2.2 a ha
theorem mf (nb nm:Nat):(jg nb nm).length=12:=by unfold jg;simp[ak]
theorem L4 (v:Value) (c:au) (w:World) (h:dJ w v c) (hc:ie c) (hlen:c.boxes.length+c.mans.length+c.names.length<=3000):
  am! 52 #[v] w (lV c w):=by
 have Tq:Hid (∀W,NP [] w W->am! 97 #[v] W (iC c W)):=tK (fun W q=>BQ v c W (h.kept0 q) hc)
 have SZ:Hid (∀W,NP [] w W->am! 110 #[v] W (fm c W)):=tK (fun W q=>vS v c W (h.kept0 q) _a)
 have VU:Hid (∀W u lo hi,bX W u (Ov c) lo hi->am! 46 #[u] W (mU (Ov c) W)):=tK (fun W u lo hi hu=>L3 u (Ov c) lo hi W hu (by rw[fN];omega) (By hc))
 obtain⟨vb,vm,vn,rfl,hb,hm,hn,Rp,Te⟩:=h
 obtain⟨p1,c1,rfl⟩:=hb.shape
 obtain⟨p2,c2,rfl⟩:=hm.shape
 obtain⟨p3,c3,rfl⟩:=hn.shape
 have⟨b1,b2⟩:=eG Rp
 have⟨b3,b4⟩:=eG Te
 have⟨nb,RG⟩:=MM b1
 have⟨nm,Rb⟩:=MM b3
 have hU1:∀W,am! 102 #[(c.nextBox,())] W fun e w'=>e=.returned (.string (bs (NT nb 4)))/\NP [] W w':=fun W=>by rw[RG];exact eU nb W _a
 have hU2:∀W,am! 102 #[(c.nextMan,())] W fun e w'=>e=.returned (.string (bs (NT nm 4)))/\NP [] W w':=fun W=>by rw[Rb];exact eU nm W _a
 have⟨ZU,YQ⟩:=_f hU1 hU2
 unfold iC at Tq
 unfold fm at SZ
 unfold mU at VU
 have oA:=ae.new w #[(c.nextBox,()),(c.nextMan,()),(p1,c.boxes.length,c1),(p2,c.mans.length,c2),(p3,c.names.length,c3)] 52
 have k0:NP [] w (w.alloc (.cells #[(c.nextBox,()),(c.nextMan,()),(p1,c.boxes.length,c1),(p2,c.mans.length,c2),(p3,c.names.length,c3)] 52)):=(NP.refl _ _).alloc _
 have⟨x0,x1,x2,x3,x4⟩:=oA.k5
 have⟨OA,K0,Xy⟩:=gg! oA k0 hlen
 clear oA k0 hb hm hn Rp Te hc hU1 hU2 b1 b2 b3 b4 hlen
 have abK:NT nb 4=NT c.nextBox.toNat 4/\NT nm 4=NT c.nextMan.toNat 4:=by rw[RG,Rb];exact⟨rfl,rfl⟩
 have HNU:=tK abK
 clear RG Rb abK
 by_cases Pz:OL c
 .have Zg:lK c=0:=by unfold lK;rw[if_pos Pz]
  have Wm:cY c=(bN c,0):=by unfold cY;rw[if_pos Pz]
  obtain⟨Sj,hP⟩:∃P,P=jg c.nextBox.toNat c.nextMan.toNat:=⟨_,rfl⟩
  have Tr:eD c=Sj++(if Ov c=[]then[]else fZ (Ov c)):=by unfold eD;rw[hP]
  have Rf:Hid (Sj.length=12):=tK (by rw[hP];exact mf _ _)
  have HP:Hid (bs (67::65::84::76::NT nb 4)++bs (NT nm 4)=bs Sj):=tK l!
  clear hP
  have Tt:Ov c≠[]->cX (Ov c)=0/\Pv (Ov c)=fZ (Ov c):=fun Pb=>by
   have P9:=jD Pz
   exact B3 (l:=Ov c) (Nu.2 Pb) (fun j hj=>P9 _ (MJ hj))
  have aaz:(∀r∈Ov c,r.fits)->(fZ (Ov c)).length<=700000:=fun hf=>by
   have h1:=ni (l:=Ov c) (fun r hr=>jU (jD Pz r hr) (hf r hr))
   have h2:(Ov c).length<=3000:=by rw[fN];exact Xy.out
   unfold fZ aN
   simp only[tN,ak]
   omega
  rw[Zg]at Tq
  have⟨YT,Vj,aeg,HL2⟩:=gh! Wm Tr Tt aaz
  have S9:Hid ((Ov c).length<=3000):=tK (by rw[fN];exact Xy.out)
  clear Zg Wm Pz Tr Tt aaz
  go_enter func52,ntmps52
  go_wp2_with fail
  refine(Tq.out _ K0.out).mono ?_;rintro e w2 ⟨rfl,k2⟩
  have K2:=tK (K0.out.trans k2)
  have UW:=tK (k2.own OA.out _b)
  go_wp2_with fail
  refine MK (S:=(fun W=>(W.cell? w=(c.nextBox,())/\W.cell? (aa w 1)=(c.nextMan,())))) _c (by exact⟨UW.out.drew.k5.1,UW.out.drew.k5.2.1⟩) (fun hHeld=>?_)
  refine tS ?_
  refine rD 2 (fun K hK=>?_)
  go_simp
  ((with_reducible refine(ZU.out _).mono ?_));rintro e w3 ⟨rfl,k3⟩
  have Uh:=tK (k3.own UW.out.drew _b)
  have K3:=tK (K2.out.drew.trans k3)
  go_wp2_with fail
  refine hK.out _ _ ?_ (fun hHeld=>nM ?_)
  .exact⟨Uh.out.k5.1,Uh.out.k5.2.1⟩
  clear hK K
  refine cT (i:=3) (d:=some 14) (v:=.string (bs ([67,65,84,76]++NT nb 4))) rfl rfl _c _c _c (fun _ _ _ h=>h) (Or.inl ⟨_L,?_⟩) _n ?_
  ·(intro w RI;go_simp;rw[if_neg _X];exact congrArg (fun x=>Result.ok (Next.value (Value.string x)) w) (aw [67,65,84,76] (NT nb 4)))
  try simp only[Act.put,List.setIfInBounds_toArray,List.set_cons_zero,List.set_cons_succ]
  refine rD 6 (fun K hK=>?_)
  go_simp
  ((with_reducible refine(YQ.out _).mono ?_));rintro e w4 ⟨rfl,k4⟩
  have Sh:=tK (k4.own Uh.out _b)
  have K4:=tK (K3.out.trans k4)
  go_wp2_with fail
  refine hK.out _ _ ?_ (fun hHeld=>nM ?_)
  .exact⟨Sh.out.k5.1,Sh.out.k5.2.1⟩
  clear hK K
  refine cT (i:=7) (d:=some 18) (v:=Sj) rfl rfl _c _c _c (fun _ _ _ h=>h) (Or.inl ⟨_L,?_⟩) _n ?_
  ·(intro w RI;go_simp;rw[if_neg (by rw[NQ,NQ,ak];simp only[Nj,ak];omega)];exact congrArg (fun x=>Result.ok (Next.value (Value.string x)) w) HP.out)
  try simp only[Act.put,List.setIfInBounds_toArray,List.set_cons_zero,List.set_cons_succ]
  refine tS ?_
  refine Ng _c ?_ _
  have hx:=Sh.out.k5
  have⟨x0,x1,x2,x3,x4⟩:=hx
  go_wp2_with fail
  refine(SZ.out _ K4.out).mono ?_;rintro e w5 ⟨u,rfl,hu,k5⟩
  have K5:=tK (K4.out.trans k5)
  obtain⟨pu,cu,rfl⟩:=bS.shape hu
  have Oq:∀r∈Ov c,r.fits:=fun r hr=>by
   obtain⟨i,hi,rfl⟩:=List.getElem_of_mem hr
   have⟨_,_,_,_,_,_,_,_,_,_,hf,_⟩:=bX.at_ hu i hi
   exact hf
  have HTL:=tK (HL2.out Oq)
  have HU:=tK hu
  by_cases h0:Ov c=[]
  .have SC:(Ov c).length=0:=aa!
   have hb:=Vj.out
   rw[if_pos h0,NO]at hb
   have HB:=tK hb
   have TO:Hid (∀W,am! 111 #[Sj] W fun e w'=>e=.returned (.string (bs (dF Sj)))/\NP [] W w'):=tK (fun W=>Bv Sj W (by have:=Rf.out;omega))
   clear hu Oq hb h0
   rw[SC]
   clear SC
   go_wp2_with fail
   refine(TO.out _).mono ?_;rintro e w6 ⟨rfl,k6⟩
   go_wp2_with fail
   go_ret2
   exact mA (by rw[YT.out];unfold bN;rw[HB.out]) (K5.out.trans k6)
  .have hp:0<(Ov c).length:=Nu.2 h0
   have hp1:(0:Int)<(Ov c).length:=_a
   have hp2:((Ov c).length:Int)<=3000:=by have:=S9.out;omega
   have⟨t1,t2⟩:=aeg.out h0
   have hb:=Vj.out
   rw[if_neg h0]at hb
   have hT:=VU.out w5 (pu,(Ov c).length,cu) _ _ hu
   rw[t1,t2]at hT
   obtain⟨TX,hTX⟩:∃T,T=fZ (Ov c):=⟨_,rfl⟩
   rw[<-hTX]at hT hb
   have UY:=HTL.out
   rw[<-hTX]at UY
   have⟨HT,HB⟩:=_f hT hb
   have Qc:(bs Sj).size=12:=by rw[NQ];exact Rf.out
   have Qx:(bs TX).size<=700000:=by rw[NQ];exact UY
   have HBA:Hid (bs Sj++bs TX=bs (Sj++TX)):=tK (aw _ _)
   have TO:Hid (∀W,am! 111 #[.string (bs (Sj++TX))] W fun e w'=>e=.returned (.string (bs (dF (Sj++TX))))/\NP [] W w'):=tK (fun W=>Bv (Sj++TX) W (by have:=Rf.out;rw[tN];omega))
   clear hu Oq hb h0 hp hT hTX UY t1 t2
   generalize (Ov c).length=n at*
   go_wp2_with fail
   refine(HT.out).mono ?_;rintro e w6 ⟨rfl,k6⟩
   go_wp2_with fail
   rw[HBA.out]
   refine(TO.out _).mono ?_;rintro e w7 ⟨rfl,k7⟩
   go_wp2_with fail
   go_ret2
   exact mA (by rw[YT.out];unfold bN;rw[HB.out]) ((K5.out.trans k6).trans k7)
 .have Zg:lK c=110:=by unfold lK;rw[if_neg Pz]
  have Wm:cY c=([],110):=by unfold cY;rw[if_neg Pz]
  rw[Zg]at Tq
  have YT:=tK Wm
  clear Zg Wm Pz
  go_enter func52,ntmps52
  go_wp2_with fail
  refine(Tq.out _ K0.out).mono ?_;rintro e w2 ⟨rfl,k2⟩
  go_wp2_with fail
  go_ret2
  exact mA YT.out (K0.out.trans k2)
theorem M51 {A:Prop}(h:A:=by
 rw[MU,<-HEQ.out]at NU
 obtain⟨po,co,rfl⟩:=ah NU
 have i1:¬(L.length:Int)<L.length:=_a
 have Oy:=aF NU K2.out.size
 have HF:=tK Oy
 have HKF:=tK (K2.out.trans hK)
 clear NU Oy hK
 go_wp2_with fail
 go_ret
 exact⟨_,rfl,HF.out,HKF.out⟩):A:=h
theorem M39 {A:Prop}(h:A:=by
 intro v' w5 Ot Pi
 have HOW:=tK Ot
 have HK5:=tK (W4.out.grown Pi (fun q hq=>Or.inr (ML Pm.out q hq).1))
 obtain⟨p5,c5,rfl⟩:=ah Ot
 clear Ot Pi
 go_wp2_with fail
 go_roundw
 case rel=>exact⟨k+1,Of.out,_j,by rw[Sm.out,tN,show NW (F++R.runs)=NW F++NW R.runs from by simp[NW]];exact HOW.out,HK5.out⟩
 case measure=>(have h:=Of.out;simp[intOf];omega)):A:=h
theorem vV (v:Value) (c:au) (w:World) (h:dJ w v c) (hlen:c.boxes.length+c.mans.length+c.names.length<=5000) (Q2:(OK c).length<=1000000):
  am! 115 #[v] w (bh (OK c) w):=by
 have SZ:Hid (∀W,NP [] w W->am! 110 #[v] W (fm c W)):=tK (fun W q=>vS v c W (h.kept0 q) _a)
 unfold fm at SZ
 obtain⟨vb,vm,vn,rfl,hb,hm,hn,_⟩:=h
 obtain⟨p1,c1,rfl⟩:=hb.shape
 obtain⟨p2,c2,rfl⟩:=hm.shape
 obtain⟨p3,c3,rfl⟩:=hn.shape
 have oA:=ae.new w #[(c.nextBox,()),(c.nextMan,()),(p1,c.boxes.length,c1),(p2,c.mans.length,c2),(p3,c.names.length,c3)] 52
 have k0:NP [] w (w.alloc (.cells #[(c.nextBox,()),(c.nextMan,()),(p1,c.boxes.length,c1),(p2,c.mans.length,c2),(p3,c.names.length,c3)] 52)):=(NP.refl _ _).alloc _
 have⟨x0,x1,x2,x3,x4⟩:=oA.k5
 have K0:=tK k0
 have Xy:Hid ((Ov c).length<=5000):=tK (by rw[fN];exact hlen)
 have Wo:Hid (∀k,(((Ov c).take k).map (·.runs)).flatten.length<=1000000):=tK (fun k=>by
  refine Nk ?_ Q2
  unfold OK
  conv=>rhs;rw[<-List.take_append_drop k (Ov c),M0,Nv,tN]
  omega)
 have HEQ:Hid (OK c=((Ov c).map (·.runs)).flatten):=tK rfl
 clear oA k0 hb hm hn hlen Q2
 generalize Ov c=L at*
 unfold bh
 generalize OK c=RC at*
 go_enter func115,ntmps115
 go_wp2_with fail
 refine(SZ.out _ K0.out).mono ?_;rintro e w2 ⟨u,rfl,hu,k2⟩
 have K2:=tK (K0.out.trans k2)
 obtain⟨pu,cu,rfl⟩:=bS.shape hu
 have HU:=tK hu
 have hL1:(L.length:Int)<=5000:=by have:=Xy.out;omega
 clear hu
 go_wp2_with fail
 go_loopw [3,9] (fun o i wr=>∃k:Nat,k<=L.length/\i=(k:Int)/\wr.ownsRow w2 128 2 o ((L.take k).map (·.runs)).flatten.length (NW ((L.take k).map (·.runs)).flatten)/\NP [] w2 wr) (fun _ i _=>L.length-(intOf i).toNat)
 case atStart=>exact⟨0,Nb _,rfl,Nf _ _ _ _,NP.refl _ _⟩
 case round=>
  obtain⟨k,hk,rfl,NU,hK⟩:=hrel
  by_cases NV:k<L.length
  .have i1:(k:Int)<L.length:=_a
   obtain⟨b,off,kv,rfl,r0,r1,r2,r3,r4,Oe,Oq,US,hbh,hih⟩:=bX.at_ (HU.out.kept0 hK) k NV
   have PF:((L.take (k+1)).map (·.runs)).flatten=((L.take k).map (·.runs)).flatten++(L[k]'NV).runs:=by
    rw[MI NV,M0,Nv];simp
   have ht1:=Wo.out (k+1)
   rw[PF,tN]at ht1
   obtain⟨pr,cr,rfl⟩:=Oe.shape
   obtain⟨po,co,rfl⟩:=ah NU
   have⟨Of,Sm,Wf⟩:=gg! NV PF ht1
   have Ra:=tK (Oe.kept0 ((NP.refl [] wr).alloc (.cells #[.int .i64 (L[k]'NV).kind,.int .u32 (L[k]'NV).id,.string (bs (L[k]'NV).name),.int .i64 (L[k]'NV).size,(pr,(L[k]'NV).runs.length,cr)] 102)))
   have Pm:=tK (MH NU (.cells #[.int .i64 (L[k]'NV).kind,.int .u32 (L[k]'NV).id,.string (bs (L[k]'NV).name),.int .i64 (L[k]'NV).size,(pr,(L[k]'NV).runs.length,cr)] 102))
   have W4:=tK (hK.alloc (.cells #[.int .i64 (L[k]'NV).kind,.int .u32 (L[k]'NV).id,.string (bs (L[k]'NV).name),.int .i64 (L[k]'NV).size,(pr,(L[k]'NV).runs.length,cr)] 102))
   have oR:=ae.new wr #[.int .i64 (L[k]'NV).kind,.int .u32 (L[k]'NV).id,.string (bs (L[k]'NV).name),.int .i64 (L[k]'NV).size,(pr,(L[k]'NV).runs.length,cr)] 102
   have⟨y0,y1,y2,y3,y4⟩:=oR.k5
   clear Oe Oq US hbh hih PF ht1 NU oR
   generalize Ud:(L[k]'NV)=R at*
   clear Ud NV
   generalize ((L.take k).map (·.runs)).flatten=F at*
   go_wp2_with (at_builtin;go_must (refine gR rfl (.tmp 13) (.tmp 15) rfl w2 _ _ _ rfl Pm.out _ R.runs _ _ rfl Ra.out (by have:=Wf.out;unfold maxLen;omega) (by have:=Wf.out;omega) (by have:=W4.out.size;omega) ?_))
   exact M39
  .obtain rfl:k=L.length:=_a
   exact M51
structure VC where
 kind:Int
 id:Int
 name:List UInt8
 bytes:List UInt8
def VC.told (x:VC):ag:=⟨x.kind,x.id,x.name,0,[]⟩
def Oh (v:VS):List (Int×Int):=Pr [(2+v.s.journal,v.s.sectors-(2+v.s.journal))] (OK v.c++v.s.runs)
noncomputable def P5 (c:au) (l:List VC):Int:=if l.length<1\/8192<l.length then 3 else if l.all (fun x=>Oj x.kind||x.bytes.isEmpty)then(N8 c (l.map VC.told)).2 else 1
def jL (s:List ag×List (Int×Int)) (x:VC):List ag×List (Int×Int):=
 if Oj x.kind then(s.1++[⟨x.kind,x.id,x.name,x.bytes.length,Om s.2 (On x.bytes.length)⟩],Pr s.2 (Om s.2 (On x.bytes.length)))else(s.1++[x.told],s.2)
def Ob (left:List (Int×Int)) (l:List VC) (k:Nat):List ag×List (Int×Int):=(l.take k).foldl jL ([],left)
def gW (left:List (Int×Int)) (l:List VC):Prop:=∀k (h:k<l.length),Oj l[k].kind=true->OT (Ob left l k).2 (On l[k].bytes.length)=0
theorem fI (left:List (Int×Int)) (l:List VC) (k:Nat) (h:k<l.length):Ob left l (k+1)=jL (Ob left l k) l[k]:=by
 unfold Ob
 exact abI
theorem gp (left:List (Int×Int)) (l:List VC):∀k,k<=l.length->(Ob left l k).1.length=k
 |0,_=>rfl
 |k+1,h=>by
  rw[fI left l k _a]
  have:=gp left l k _a
  unfold jL
  split<;>simp[this]
def OH:List (VS->VS×Int)->VS->VS×Int
 |[],d=>(d,0)
 |f::fs,d=>if(f d).2=0 then OH fs (f d).1 else f d
def kr (fs:List (VS->VS×Int)) (d:VS) (k:Nat):VS:=(fs.take k).foldl (fun x f=>(f x).1) d
theorem q8 (fs:List (VS->VS×Int)) (d:VS) (k:Nat) (h:k<fs.length):kr fs d (k+1)=(fs[k] (kr fs d k)).1:=by
 unfold kr
 exact abI
theorem qV:∀(fs:List (VS->VS×Int)) (d:VS) (k:Nat) (h:k<fs.length),(∀i (hi:i<k),((fs[i]' _a) (kr fs d i)).2=0)->(fs[k] (kr fs d k)).2≠0->OH fs d=fs[k] (kr fs d k)
 |[],d,k,h,_,_=>by simp at h
 |f::fs,d,0,h,_,h2=>by
  have h2':(f d).2≠0:=h2
  show(if(f d).2=0 then _ else f d)=f d
  rw[if_neg h2']
 |f::fs,d,k+1,h,h1,h2=>by
  have h3:(f d).2=0:=h1 0 _a
  show(if(f d).2=0 then OH fs (f d).1 else f d)=_
  rw[if_pos h3]
  exact qV fs (f d).1 k _T (fun i hi=>h1 (i+1) _a) h2
theorem tp:∀(fs:List (VS->VS×Int)) (d:VS),(∀i (hi:i<fs.length),(fs[i] (kr fs d i)).2=0)->OH fs d=(kr fs d fs.length,0)
 |[],d,_=>rfl
 |f::fs,d,h1=>by
  have h3:(f d).2=0:=h1 0 _b
  show(if(f d).2=0 then OH fs (f d).1 else f d)=_
  rw[if_pos h3]
  exact tp fs (f d).1 (fun i hi=>h1 (i+1) _D)
def aZ (f:DK->DK×Int) (v:VS):VS×Int:=(⟨(f v.d).1,v.s,v.c,v.dead⟩,(f v.d).2)
def dH (s:SB) (used:Int):SB:=⟨s.seq+1,s.sectors,s.journal,used,s.size,s.runs⟩
def BF (s:SB) (size:Int) (runs:List (Int×Int)):SB:=⟨s.seq+1,s.sectors,s.journal,0,size,runs⟩
def bg (c:au) (tx:List UInt8) (v:VS):VS×Int:=
 if(Oa v.d v.s.journal v.s.used tx).2=0 then
  (if(aG [aA,cN (dH v.s (v.s.used+tx.length))] (Oa v.d v.s.journal v.s.used tx).1).2=0
  then(⟨(aG [aA,cN (dH v.s (v.s.used+tx.length))] (Oa v.d v.s.journal v.s.used tx).1).1,dH v.s (v.s.used+tx.length),c,v.dead⟩,0)
  else(⟨(aG [aA,cN (dH v.s (v.s.used+tx.length))] (Oa v.d v.s.journal v.s.used tx).1).1,v.s,v.c,v.dead⟩,(aG [aA,cN (dH v.s (v.s.used+tx.length))] (Oa v.d v.s.journal v.s.used tx).1).2))
 else(⟨(Oa v.d v.s.journal v.s.used tx).1,v.s,v.c,v.dead⟩,(Oa v.d v.s.journal v.s.used tx).2)
noncomputable def wk (s:SB) (t:List UInt8) (runs:List (Int×Int)) (d:DK):DK×Int:=aG [fun d=>OQ d runs t,aA,cN (BF s t.length runs)] d
noncomputable def ir (c:au) (t:List UInt8) (runs:List (Int×Int)) (v:VS):VS×Int:=
 if(wk v.s t runs v.d).2=0 then(⟨(wk v.s t runs v.d).1,BF v.s t.length runs,c,v.dead⟩,0)else(⟨(wk v.s t runs v.d).1,v.s,v.c,v.dead⟩,(wk v.s t runs v.d).2)
def Qk (p:VS×Int):VS×Int:=(⟨p.1.d,p.1.s,p.1.c,p.1.dead||p.2==90⟩,p.2)
noncomputable def Qj:List VC->List ag->List (DK->DK×Int)
 |x::l,r::recs=>if Oj x.kind then(fun d=>OQ d r.runs x.bytes)::Qj l recs else Qj l recs
 |_,_=>[]
noncomputable def gP (l:List VC) (recs:List ag):List (VS->VS×Int):=(Qj l recs).map aZ
theorem kn:∀(fs gs:List (VS->VS×Int)) (v:VS),OH (fs++gs) v=if(OH fs v).2=0 then OH gs (OH fs v).1 else OH fs v
 |[],gs,v=>rfl
 |f::fs,gs,v=>by
  show(if(f v).2=0 then OH (fs++gs) (f v).1 else f v)=_
  have e:OH (f::fs) v=if(f v).2=0 then OH fs (f v).1 else f v:=rfl
  rw[e]
  by_cases h:(f v).2=0
  .rw[if_pos h,if_pos h,kn fs gs]
  .rw[if_neg h,if_neg h,if_neg h]
theorem nU:∀(fs:List (DK->DK×Int)) (v:VS),OH (fs.map aZ) v=aZ (aG fs) v
 |[],v=>rfl
 |f::fs,v=>by
  show(if(aZ f v).2=0 then OH (fs.map aZ) (aZ f v).1 else aZ f v)=_
  rw[nU fs]
  have e:aG (f::fs) v.d=if(f v.d).2=0 then aG fs (f v.d).1 else f v.d:=rfl
  show _=((⟨(aG (f::fs) v.d).1,v.s,v.c,v.dead⟩:VS),(aG (f::fs) v.d).2)
  rw[e]
  by_cases h:(f v.d).2=0
  .rw[if_pos h,if_pos (show(aZ f v).2=0 from h)];rfl
  .rw[if_neg h,if_neg (show ¬(aZ f v).2=0 from h)];rfl
open Classical in
noncomputable def eX (v:VS) (l:List VC):VS×Int:=
 if v.dead=true then(v,90)
 else if P5 v.c l≠0 then(v,P5 v.c l)
 else if ¬gW (Oh v) l then(v,100)
 else if(N8 v.c (Ob (Oh v) l l.length).1).2≠0 then(v,(N8 v.c (Ob (Oh v) l l.length).1).2)
 else if cX (Ob (Oh v) l l.length).1≠0 then(v,cX (Ob (Oh v) l l.length).1)
 else if((Pv (Ob (Oh v) l l.length).1).length:Int)<=v.s.journal*128-v.s.used then
  Qk (OH (gP l (Ob (Oh v) l l.length).1++[aZ aA,bg (N8 v.c (Ob (Oh v) l l.length).1).1 (Pv (Ob (Oh v) l l.length).1)]) v)
 else if(cY (N8 v.c (Ob (Oh v) l l.length).1).1).2≠0 then(v,(cY (N8 v.c (Ob (Oh v) l l.length).1).1).2)
 else if OT (Ob (Oh v) l l.length).2 (On (cY (N8 v.c (Ob (Oh v) l l.length).1).1).1.length)≠0 then(v,100)
 else Qk (OH (gP l (Ob (Oh v) l l.length).1++[ir (N8 v.c (Ob (Oh v) l l.length).1).1 (cY (N8 v.c (Ob (Oh v) l l.length).1).1).1 (Om (Ob (Oh v) l l.length).2 (On (cY (N8 v.c (Ob (Oh v) l l.length).1).1).1.length))]) v)
def lN (c:au) (k id:Int) (nm:List UInt8):NS×Bool:=if k=1 then PI (fun x=>x.id==id) c.boxes else if k=2 then PI (fun x=>x.id==id) c.mans else PI (fun x=>x.name==nm) c.names
noncomputable def sH (v:VS) (k id:Int) (nm:List UInt8):List UInt8×Int×VS:=
 if v.dead=true then([],90,v)
 else if ¬(k=1\/k=2\/k=3)then([],1,v)
 else if(lN v.c k id nm).2=false then([],6,v)
 else(PV v.d (lN v.c k id nm).1.runs (lN v.c k id nm).1.size,N7 v.d (lN v.c k id nm).1.runs (lN v.c k id nm).1.size,⟨v.d,v.s,v.c,N7 v.d (lN v.c k id nm).1.runs (lN v.c k id nm).1.size==90⟩)
structure Mx (m:Nat) (v:VS):Prop where
 may:v.s.may
 cat:OL v.c
 few:v.c.boxes.length+v.c.mans.length+v.c.names.length<=m
 seq:v.s.seq<=m
 jr:v.s.journal<=30
theorem l7 (h:OL c):(OK c).length<=16*(c.boxes.length+c.mans.length+c.names.length):=by
 have h1:=jD h
 have h2:=fN c
 unfold OK
 generalize Ov c=l at*
 rw[<-h2]
 clear h2
 induction l with
 |nil=>simp
 |cons r t ih=>
  have h3:=nH (h1 r _b)
  have h4:=ih (fun q hq=>h1 q (by simp[hq]))
  simp only[List.map_cons,List.flatten_cons,tN,Nj]
  omega
theorem CA (al:List Nat):∀(d:DK) (s:List UInt8),dS d->d.down=false->d.fuse<0->(∀a∈al,a<d.stand.length)->al.Nodup->
  ∃d',gN al d s=(d',0)/\d'.stand=d.stand/\d'.down=false/\d'.fuse=d.fuse/\dS d'/\d'.ops=d.ops+al.length/\d'.waits.length=d.waits.length+al.length/\(∀i,i∉al->seen d' i=seen d i)/\∀i (h:i<al.length),seen d' al[i]=aC (s.drop (128*i)):=by
 induction al with
 |nil=>
  intro d s hf hd Xr _ _
  exact⟨d,rfl,rfl,hd,rfl,hf,rfl,rfl,fun _ _=>rfl,fun i h=>absurd h (Nat.not_lt_zero _)⟩
 |cons a t ih=>
  intro d s hf hd Xr NV hnd
  have ha:=NV a MY
  have⟨Rm,hnt⟩:=List.nodup_cons.1 hnd
  have⟨hc,hn⟩:=vW (s:=s) hd Xr ha
  have RP:(cW d a (aC s)).down=false:=by
   show(if d.fuse=0 then true else d.down)=false
   rw[if_neg _a,hd]
  have hfn:(cW d a (aC s)).fuse=d.fuse:=by
   show(if 0<d.fuse then d.fuse-1 else d.fuse)=d.fuse
   rw[if_neg _a]
  have Oq:dS (cW d a (aC s)):=by rw[<-hn];exact hf.write _ _
  have aab:(cW d a (aC s)).ops=d.ops+1:=rfl
  have WH:(cW d a (aC s)).waits.length=d.waits.length+1:=by show(d.waits++[_]).length=_;rw[tN];rfl
  have⟨d',e1,e2,e3,e4,e5,eo,ew,e6,e7⟩:=ih (cW d a (aC s)) (s.drop 128) Oq RP (by rw[hfn];exact Xr) (fun x hx=>NV x (Nz _ hx)) hnt
  refine⟨d',?_,e2,e3,e4.trans hfn,e5,by rw[eo,aab,Nj];omega,by rw[ew,WH,Nj];omega,fun i hi=>?_,fun i h=>?_⟩
  .rw[gN,if_pos hc,hn,e1]
  .rw[e6 i (fun h=>hi (Nz _ h)),jc,if_neg (fun h=>hi (by subst h;exact MY))]
  .cases i with
   |zero=>
    show seen d' a=_
    rw[e6 a Rm,jc,if_pos rfl];rfl
   |succ i=>
    have:=e7 i _T
    rw[List.drop_drop,show 128+128*i=128*(i+1)from by omega]at this
    exact this
theorem yM (al:List Nat):∀(d:DK) (s:List UInt8),(∀i (h:i<al.length),seen d al[i]=aC (s.drop (128*i)))->cz d al=mS al.length s:=by
 induction al with
 |nil=>intro d s _;rfl
 |cons a t ih=>
  intro d s h
  have e:cz d (a::t)=seen d a++cz d t:=rfl
  have h0:=h 0 _b
  simp only[Nat.mul_zero,List.drop_zero,List.getElem_cons_zero]at h0
  rw[e,Nj,mS,h0,ih d (s.drop 128) (fun i hi=>by
   have:=h (i+1) _D
   rw[List.drop_drop,show 128+128*i=128*(i+1)from by omega]
   simpa using this)]
theorem Dw {d d':DK} (al:List Nat) (h:∀a∈al,seen d' a=seen d a):cz d' al=cz d al:=by
 unfold cz
 congr 1
 exact List.map_congr_left h
