/- -/
import Derived.Test.YtdkimcnlhmhpgaaGreatM42
set_option maxHeartbeats 32000000
set_option maxRecDepth 100000
namespace Go.Proofs.YtdkimcnlhmhpgaaGreat
open Go.Proofs.Tryz Go.RowKit
variable {b r sb lo rlo:Nat} {d:DK} {w w':World} {e:Ending} {vp:Option Addr} {C:Int}
noncomputable def oQ (d:DK):Option VS:=if d.down=true then none else(Ql d).map fun p=>⟨d,p.1,p.2,false⟩
theorem M89 {A:Prop}(h:A:=by
 rcases h with⟨⟨_,h⟩|⟨_,_,h⟩|⟨_,s,c,_,B,sv,vb,vm,vn,_,_,_,_,h⟩,_⟩
 .exact⟨_,_,h⟩
 .exact⟨_,_,h⟩
 .exact⟨_,_,h⟩):A:=h
theorem ij.shape (h:ij b d w e w'):∃vp C,e=.returned (.tuple #[.pointer vp,.int .i64 C]):=by
 exact M89
theorem iB.shape (h:iB r d w e w'):∃vp C,e=.returned (.tuple #[.pointer vp,.int .i64 C]):=by
 exact M89
theorem mF {Vs:Option Addr} {C':Int} (h:Ending.returned (.tuple #[.pointer vp,C])=.returned (.tuple #[.pointer Vs,C'])):vp=Vs/\C=C':=by
 injection h with h
 injection h with h
 simp only[Array.mk.injEq,List.cons.injEq,Value.pointer.injEq,Value.int.injEq,true_and,and_true]at h
 exact h
theorem xt {S:List Nat} {w1 w2 w3 w4:World} {mb:Nat} {rp:Option Addr} {C2:Int} (h1:ij b d w1 (.returned (.tuple #[.pointer vp,C])) w2) (h2:iB r d w2 (.returned (.tuple #[.pointer rp,C2])) w3) (hD:kQ w1 b sb mb lo r rlo d) (hn:d.stand.length<=96)
  (k4:NP S w3 w4) (hS:∀x∈S,x<w1.heap.size/\bf [] w1 b sb mb x/\x≠r/\∃cs,ae w3 x cs 66):
  C2=C/\mj w4 b sb mb lo r rlo d vp rp (oQ d)/\NP [] w1 w3:=by
 obtain⟨h1,k1⟩:=h1
 obtain⟨h2,k2⟩:=h2
 have kk:=k1.trans k2
 have RH:=k1.size
 have QG:=k2.size
 have Vx:=k4.size
 have P3:=hD.qa.lt
 have Uq:=hD.da.bH
 have PX:=hD.da.sC
 have Xd:=hD.da.vP
 have hD3:=hD.aJ kk
 have hof:∀x∈S,bf [] w3 b sb mb x:=fun x hx=>(hS x hx).2.1.aside Uq kk _b
 have Xq:b∉S:=fun hx=>(hof b hx).2.1 rfl
 have abV:=hD3.da.aside k4 hof
 have abj:QA w4 r rlo d:=⟨hD3.qa.ref.aside k4 (fun hx=>(hS r hx).2.2.1 rfl) (fun x hx _ cs=>by
  have⟨TL,o'⟩:=(hS x hx).2.2.2
  exact⟨zn o' _d,zn o' _d⟩),hD.qa.fit⟩
 have YG:bf [] w4 b sb mb r:=hD3.off.aside hD3.da.bH k4 Xq
 rcases h1 with⟨hd,e1⟩|⟨hd,hm,e1⟩|⟨hd,s,c,hm,B,sv,vb,vm,vn,hB,o,hr,hc,e1⟩
 .rcases h2 with⟨_,e2⟩|⟨UH,_⟩|⟨UH,_⟩
  .obtain⟨rfl,rfl⟩:=mF e1
   obtain⟨rfl,rfl⟩:=mF e2
   exact⟨rfl,Or.inl ⟨by unfold oQ;rw[if_pos hd],rfl,rfl,abV,abj,YG,hD.rl⟩,kk⟩
  .rw[hd]at UH;cases UH
  .rw[hd]at UH;cases UH
 .rcases h2 with⟨UH,_⟩|⟨_,_,e2⟩|⟨_,s',c',QL,_⟩
  .rw[hd]at UH;cases UH
  .obtain⟨rfl,rfl⟩:=mF e1
   obtain⟨rfl,rfl⟩:=mF e2
   exact⟨rfl,Or.inl ⟨by unfold oQ;rw[if_neg ai!,hm];rfl,rfl,rfl,abV,abj,YG,hD.rl⟩,kk⟩
  .rw[hm]at QL;cases QL
 .rcases h2 with⟨UH,_⟩|⟨_,QL,_⟩|⟨_,s',c',QL,R,sv2,vb2,vm2,vn2,hR,o2,Th,hc2,e2⟩
  .rw[hd]at UH;cases UH
  .rw[hm]at QL;cases QL
  .rw[hm]at QL
   injection QL with QL
   injection QL with a1 a2
   subst a1 a2
   obtain⟨rfl,rfl⟩:=mF e1
   obtain⟨rfl,rfl⟩:=mF e2
   have hBl:=o.lt
   have hRl:=o2.lt
   have hM:=AU.1 hm
   have⟨m1,m2,m3,m4,m5⟩:=yB hD.da.fit hM
   have hV1:aL (B::r::S) w2 B b sb mb lo ⟨d,s,c,false⟩:=ye hD.da k1 hB o hr hc _b (fun x hx=>by
    simp only[List.mem_cons]at hx
    rcases hx with rfl|rfl|hx
    .exact Or.inr rfl
    .exact Or.inl P3
    .exact Or.inl (hS x hx).1)
   have Yr:aL (B::r::S) w3 B b sb mb lo ⟨d,s,c,false⟩:=hV1.aJ k2
   have hV3:aL [B,r,R] w4 B b sb mb lo ⟨d,s,c,false⟩:=by
    have ad9:aL (R::B::r::S) w3 B b sb mb lo ⟨d,s,c,false⟩:=hV1.aside k2 (fun x hx=>by cases hx) (fun x hx=>by
     simp only[List.mem_cons]at hx ⊢
     rcases hx with rfl|rfl|rfl|hx
     .exact⟨hRl,Or.inr hR⟩
     .exact⟨_a,Or.inl (Or.inl rfl)⟩
     .exact⟨_a,Or.inl (Or.inr (Or.inl rfl))⟩
     .exact⟨by have:=(hS x hx).1;omega,Or.inl (Or.inr (Or.inr hx))⟩) _b
    refine ad9.aside k4 (fun x hx=>⟨by simp[hx],by have:=(hS x hx).1;omega,hof x hx⟩) (fun x hx=>?_) _b
    simp only[List.mem_cons,List.not_mem_nil,or_false]at hx ⊢
    rcases hx with rfl|rfl|rfl
    .exact⟨_a,Or.inl (Or.inr (Or.inl rfl))⟩
    .exact⟨_a,Or.inl (Or.inr (Or.inr (Or.inl rfl)))⟩
    .exact⟨_a,Or.inl (Or.inl rfl)⟩
   have Rp:∀x,WB w4 b x->x<w1.heap.size:=fun x hw=>hD.da.Ak ((hD.da.tG kk x).1 ((WB.aside hD3.da.bH k4 Xq x).1 hw))
   have hP:∀x,SD [B,r,R] w4 b sb mb x->x<w2.heap.size\/x=R:=fun x hx=>by
    apply NG
    intro hn
    refine hx ⟨fun hm=>?_,_a,_a,_a,fun hw=>?_⟩
    .simp only[List.mem_cons,List.not_mem_nil,or_false]at hm
     rcases hm with rfl|rfl|rfl<;>omega
    .have:=Rp x hw;omega
   have hRS:R∉S:=fun hx=>by have:=(hS R hx).1;omega
   have NU:bD (fun x=>x<w2.heap.size\/x=R) sv2 s.runs.length:=fun g off sp n' c' e hn hg=>by
    rcases Th with⟨h0,_⟩|⟨g',off',c'',e',_,h3,h4,_⟩
    .rw[h0]at hn;simp at hn
    .rw[e']at e
     injection e with e
     injection e with e
     injection e with e
     subst e
     rcases hg with h|h<;>omega
   have hQ:oe (SD [B,r,R] w4 b sb mb) w4 R r rlo ⟨d,s,c,false⟩:=⟨abj,⟨sv2,vb2,vm2,vn2,k4.own o2 hRS,⟨_,_,Th.aS k4 NU (fun x hx=>Or.inl (by have:=(hS x hx).1;omega))⟩,NU.weaken hP,(av.aS hc2 k4 (fun x hx=>Or.inl (by have:=(hS x hx).1;omega))).cI hP⟩,fun ho=>ho.1 _b,fun ho=>ho.1 _b,hV3.da.vL hV3.hT,fun e=>by omega⟩
   have hoR:bf [] w4 b sb mb R:=⟨_b,_a,_a,_a,fun hw=>by have:=Rp R hw;omega⟩
   exact⟨rfl,Or.inr ⟨B,R,⟨d,s,c,false⟩,by unfold oQ;rw[if_neg ai!,hm];rfl,rfl,rfl,⟨hV3,hQ,⟨YG,hoR⟩,hD.rl,⟨fun e=>by omega,fun e=>by omega⟩⟩,rfl,m1,m3,by show cQ c<=5000;omega⟩,kk⟩
def xW (b sb mb lo r rlo:Nat) (d:DK) (w:World) (e:Ending) (w':World):Prop:=
 (∃vp rp,e=.returned (.tuple #[.agg #[b,r,.pointer vp,.pointer rp],true])/\mj w' b sb mb lo r rlo d vp rp (oQ d))/\NP [] w w'
theorem tQ (w:World) (B:Nat) (a1 a2 a3 a4:Value):w.setCells B 0 (#[a1,a2,a3,a4]:Array Value).toList=((((w.setCell B a1).setCell (aa B 1) a2).setCell (aa B 2) a3).setCell (aa B 3) a4):=rfl
theorem za {mb:Nat} (hD:kQ w b sb mb lo r rlo d) (hn:d.stand.length<=96) (vp rp:Option Addr):
  am! 23 #[.agg #[b,r,.pointer vp,.pointer rp]] w (xW b sb mb lo r rlo d w):=by
 have⟨o1,o2⟩:=ch w #[b,r,.pointer vp,.pointer rp] #[.pointer none,.pointer none,.pointer none,.pointer none] 66 66
 have OP:=((NP.refl [] w).alloc (.cells #[b,r,.pointer vp,.pointer rp] 66)).alloc (.cells #[.pointer none,.pointer none,.pointer none,.pointer none] 66)
 obtain⟨w1,SU⟩:∃w1,(w.alloc (.cells #[b,r,.pointer vp,.pointer rp] 66)).alloc (.cells #[.pointer none,.pointer none,.pointer none,.pointer none] 66)=w1:=⟨_,rfl⟩
 rw[SU]at o1 o2 OP
 have hD1:=hD.aJ OP
 have HMO:Hid (am! 16 #[b] w1 (ij b d w1)):=tK (BW hD1.da hn)
 have HQM:Hid (∀W,NP [] w1 W->am! 70 #[r] W (iB r d W)):=tK (fun W k=>Hl (hD1.qa.aJ k) hn)
 have⟨HD1,HN⟩:=_f hD1 hn
 have HOF:Hid (∀x,x=w.heap.size\/x=w.heap.size+1->x<w1.heap.size/\bf [] w1 b sb mb x/\x≠r):=tK (fun x hx=>by
  have NV:x<w1.heap.size:=by
   rcases hx with rfl|rfl
   .exact o1.lt
   .exact o2.lt
  exact⟨NV,hD.da.bU (fun y hy=>by cases hy) OP _a,by have:=hD.qa.lt;omega⟩)
 have⟨ZE,O1,O2,K1⟩:=gh! SU o1 o2 OP
 obtain⟨n1,QX⟩:∃n,w.heap.size=n:=⟨_,rfl⟩
 have Ts:=tK QX
 rw[QX]at O1 O2 o1 HOF
 have⟨x0,x1,x2,x3⟩:=o1.c4
 clear hD hn o1 o2 OP hD1 SU QX
 go_enter func23,ntmps23
 go_upto_region 1 with fail
 rw[ZE.out,Ts.out]
 clear ZE
 go_wp2_with fail
 refine HMO.out.mono ?_;intro e w2 Ty
 obtain⟨Vs,C,rfl⟩:=Ty.shape
 have⟨VK,K2⟩:=_f Ty Ty.2
 have O12:=tK (K2.out.own O1.out _b)
 clear Ty x0 x1 x2 x3
 have⟨x0,x1,x2,x3⟩:=O12.out.c4
 go_wp2_with fail
 refine(HQM.out _ K2.out).mono ?_;intro e w3 QL
 obtain⟨WM,C2,rfl⟩:=QL.shape
 have⟨hC,_,P6⟩:=xt VK.out QL HD1.out HN.out (NP.refl [] _) (fun x hx=>by cases hx)
 subst hC
 have⟨Ul,K3⟩:=_f QL P6
 have O13:=tK (K3.out.own O1.out _b)
 have O23:=tK (K3.out.own O2.out _b)
 clear QL P6 x0 x1 x2 x3
 have⟨x0,x1,x2,x3⟩:=O13.out.c4
 have⟨z0,z1,z2,z3⟩:=O13.out.z4
 go_upto_region 5 with fail
 have o14:=(O13.out.set 2 (.pointer Vs)).set 3 (.pointer WM)
 have k4:NP [n1] w3 ((w3.setCell (aa n1 2) (.pointer Vs)).setCell (aa n1 3) (.pointer WM)):=((NP.refl [n1] w3).setCell (Or.inl _b) _).setCell (Or.inl _b) _
 have o24:=k4.own O23.out _b
 have Ro:Hid (NP [] w ((w3.setCell (aa n1 2) (.pointer Vs)).setCell (aa n1 3) (.pointer WM))):=tK ((K1.out.trans K3.out).call k4 (fun x hx=>by
  obtain rfl:x=n1:=_h
  exact Or.inr (Nat.le_of_eq Ts.out)))
 have⟨_,hS4,_⟩:=xt VK.out Ul.out HD1.out HN.out k4 (fun x hx=>by
  obtain rfl:x=n1:=_h
  have⟨a1,a2,a3⟩:=HOF.out x (Or.inl rfl)
  exact⟨a1,a2,a3,_,O13.out⟩)
 obtain⟨w4,Yd⟩:∃w4,(w3.setCell (aa n1 2) (.pointer Vs)).setCell (aa n1 3) (.pointer WM)=w4:=⟨_,rfl⟩
 rw[Yd]at o14 k4 o24 hS4 Ro ⊢
 have O14:Hid (ae w4 n1 #[b,r,.pointer Vs,.pointer WM] 66):=tK o14
 have⟨O24,Zm⟩:=_f o24 k4
 have abM:=tK (fun W (k:NP [] w4 W)=>Ks (hS4.aJ k))
 have HC:Hid (∀W,NP [n1+1] w4 W->W.cell? n1=b/\W.cell? (aa n1 1)=r/\W.cell? (aa n1 2)=some (.pointer Vs)/\W.cell? (aa n1 3)=some (.pointer WM)):=tK (fun W k=>(k.own O14.out _b).c4)
 clear o14 k4 o24 hS4 Yd x0 x1 x2 x3 z0 z1 z2 z3
 refine MK (S:=(fun W=>W.cell? n1=b/\W.cell? (aa n1 1)=r/\W.cell? (aa n1 2)=some (.pointer Vs)/\W.cell? (aa n1 3)=some (.pointer WM))) _c (by exact HC.out _ ((NP.refl [n1+1] w4).drew)) (fun hHeld=>?_)
 refine tS ?_
 refine rD 6 (fun K hK=>?_)
 go_simp
 ((with_reducible refine(abM.out _ ((NP.refl [] w4).drew)).mono ?_));rintro e w5 ⟨rfl,k5⟩
 have K5:=tK (((NP.refl [] w4).drew).trans k5)
 clear k5
 go_wp2_with fail
 refine hK.out _ _ (HC.out _ (K5.out.mono _b)) (fun hHeld=>nM ?_)
 clear hK K
 refine tS ?_
 have O25:=tK (K5.out.own O24.out _b)
 refine rD 8 (fun K hK=>?_)
 refine dz rfl 66 _ _ rfl (n1+1) 0 #[b,r,.pointer Vs,.pointer WM] _g _g (O25.out.drew.there 0 4 _b) _c (NL (cs:=[.pointer (some b),.pointer (some r),.pointer Vs,.pointer WM]) _t) ?_
 rw[tQ]
 have o6:=O25.out.AJ b r (.pointer Vs) (.pointer WM)
 have k6:NP [n1+1] w5 ((((w5.setCell (aa (n1+1) 0) b).setCell (aa (n1+1) 1) r).setCell (aa (n1+1) 2) (.pointer Vs)).setCell (aa (n1+1) 3) (.pointer WM)):=NP.fU (NP.refl _ _) (Or.inl _b) _ _ _ _
 generalize ((((w5.setCell (aa (n1+1) 0) b).setCell (aa (n1+1) 1) r).setCell (aa (n1+1) 2) (.pointer Vs)).setCell (aa (n1+1) 3) (.pointer WM))=w6 at*
 have⟨O6,K6⟩:=_f o6 k6
 clear o6 k6
 refine hK.out _ _ (HC.out _ ((K5.out.mono _b).trans K6.out)) (fun hHeld=>nM ?_)
 clear hK K
 refine tS ?_
 refine Ng _c ?_ _
 try simp only[List.set_cons_succ,List.set_cons_zero]
 have O6:Hid (ae w6 (n1+1) #[b,r,.pointer Vs,.pointer WM] 66):=tK O6.out
 have⟨_,hS6,_⟩:=xt VK.out Ul.out HD1.out HN.out (S:=[n1,n1+1]) (w4:=w6) (((Zm.out.mono _b).trans (K5.out.mono _b)).trans (K6.out.mono _b)) (fun x hx=>by
  simp only[List.mem_cons,List.not_mem_nil,or_false]at hx
  have⟨a1,a2,a3⟩:=HOF.out x hx
  rcases hx with rfl|rfl
  .exact⟨a1,a2,a3,_,O13.out⟩
  .exact⟨a1,a2,a3,_,O23.out⟩)
 have HS6:=tK hS6
 have HKF:Hid (NP [] w w6):=tK ((Ro.out.trans K5.out).call K6.out (fun x hx=>by
  obtain rfl:x=n1+1:=_h
  exact Or.inr (by have:=Ts.out;omega)))
 clear hS6
 go_wp2_with fail
 refine MN (v:=.tuple #[.agg #[b,r,.pointer Vs,.pointer WM],true]) (aj results23 rfl rfl (t:=66) ?_ underlying66 rfl _c) rfl ?_
 .exact O6.out
 .exact⟨⟨_,_,rfl,HS6.out⟩,HKF.out⟩
