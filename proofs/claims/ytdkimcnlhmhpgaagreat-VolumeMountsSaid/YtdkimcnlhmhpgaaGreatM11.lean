/- -/
import Derived.Test.YtdkimcnlhmhpgaaGreatM10
set_option maxHeartbeats 32000000
set_option maxRecDepth 100000
namespace Go.Proofs.YtdkimcnlhmhpgaaGreat
section
open Go.Proofs.Tryz Go.RowKit Go.Shelf
variable {Inv:DK->World->Prop} {d:DK} {l:List (Int×Int)}
attribute [local go_sem] Oper.semAt_some
def gE (d:DK) (l:List (Int×Int)) (size:Int) (w:World) (e:Ending) (w':World):Prop:=e=.returned (.tuple #[.string (bs (PV d l size)),(N7 d l size:Int)])/\NP [] w w'
theorem FW:∃i,prog.info? 5=some i/\i.zero=some (.int .u8 0)/\i.size=1/\i.bytes=1:=by
 have hi:(prog.info? 5).map (fun i=>(i.zero,i.size,i.bytes))=some (some (.int .u8 0),1,1):=_c
 exact Yh
theorem adB {A:Prop}(h:A:=by
 simp only[Nd]at this
 exact(k1.trans (((NP.refl [] w1).alloc _).trans k2)).own this _b):A:=h
theorem Mu {b:Nat} (O:r7 Inv b) (d:DK) (v:Value) (l:List (Int×Int)) (size:Int) (lo hi:Nat) (w:World) (hI:Inv d w) (h:af w v l lo hi) (hl:l.length<=1000000) (Pj:∀a∈l,aQ a)
  (PW:(Lit.int .i64 size).wf=true):
  am! 60 #[b,v,size] w (gE d l size w):=by
 have HC:∀W,NP [] w W->am! 104 #[b,v,size] W fun e w'=>e=(N7 d l size:Int)/\NP [] W w':=fun W k=>DX O d v l size lo hi W (O.keep hI k) (h.kept0 k) hl Pj PW
 have HE:∀W,NP [] w W->am! 105 #[v] W fun e w'=>∃f,e=.returned f/\NP [] W w'/\tA 5 w l f w':=fun W k=>DY 5 _a w v l 0 w W (h.wide.kept0 k) hl Pj (MG _) k.size
 have HR:∀W,NP [] w W->∀i:Nat,am! 62 #[b,((i:Nat):Int)] W fun e w'=>e=.returned (.tuple #[.string (bs (Pc d i)),(OM d i:Int)])/\W=w':=fun W k i=>O.readC _ (O.keep hI k)
 have Oq:=O.fit hI
 have hlen:=O.len hI
 clear h Pj hI
 have k3:=(((NP.refl [] w).alloc (.cells #[b] 23)).alloc (.cells #[.string ⟨#[]⟩] 9)).alloc (.cells #[(0:Int)] 24)
 by_cases hG:N7 d l size=0
 .have hX:dO l d.stand.length size/\¬d.down=true:=by
   unfold N7 at hG
   by_cases hf:dO l d.stand.length size
   .rw[if_pos hf]at hG
    by_cases hd:d.down=true
    .rw[if_pos hd]at hG;omega
    .exact⟨hf,hd⟩
   .rw[if_neg hf]at hG;omega
  have ZY:PV d l size=(cz d (NY l)).take size.toNat:=by unfold PV;rw[if_pos hG]
  have TN:=hX.1.wC
  have ZD:eM l=NY l:=oZ hX.1
  have hal:(NY l).length<=8192:=by rw[<-ZD];exact lr l
  have QT:0<=size:=hX.1.1
  have U8:∀x∈NY l,OM d (x:Int)=0:=fun x hx=>by
   have:=(hX.1.lt hx).1
   unfold OM
   rw[if_neg hX.2,if_neg _a]
  unfold gE
  obtain⟨sz,rfl⟩:=MM QT
  rw[Nw]at ZY
  obtain⟨GL,hGL⟩:∃GL,cz d (NY l)=GL:=⟨_,rfl⟩
  rw[hGL]at ZY
  rw[hG,ZY]
  rw[hG]at HC
  have UN:(cz d (NY l)).length=128*(NY l).length:=lI Oq (fun y hy=>by have⟨_,h1,h2⟩:=dh (U8 y hy);omega)
  have hle:sz<=GL.length:=by
   rw[<-hGL,UN]
   have:=TN
   unfold On at this
   split at this<;>omega
  have aeT:GL.length<=1048576:=by rw[<-hGL,UN];omega
  have HGL:=tK hGL
  clear ZY hG QT UN hGL hX TN PW
  refine(callsIn_wide (n:=6)).1 ?_
  refine callsIn_of_wp_marks func60 rfl trivial ?_ rfl
  simp only[ntmps60,List.size_toArray,Nj,List.length_nil,Nat.reduceAdd,Nat.reduceSub,Array.replicate_succ,Array.replicate_zero,List.push_toArray,List.append_toArray,NI,List.cons_append]
  refine wpIn_wide.2 ?_
  go_wp2_with fail
  refine(HC _ k3).mono ?_;rintro e w1 ⟨rfl,k1⟩
  have k31:=k3.trans k1
  have acJ:=k31.alloc (.cells #[()] 61)
  go_wp2_with fail
  refine(HE _ acJ).mono ?_;rintro e w2 ⟨f,rfl,k2,B1,B2,rfl,hT⟩
  go_wp2_with fail
  have Wb:=acJ.trans k2
  have o3:ae w2 w #[b] 23:=(k1.trans (((NP.refl [] w1).alloc _).trans k2)).own (((ae.new w #[b] 23).alloc _).alloc _) _b
  have o6:ae w2 (w.heap.size+1) #[.string ⟨#[]⟩] 9:=by
   have:=(ae.new (w.alloc (.cells #[b] 23)) #[.string ⟨#[]⟩] 9).alloc (.cells #[(0:Int)] 24)
   exact adB
  have o7:ae w2 (w.heap.size+1+1) #[(0:Int)] 24:=by
   have:=ae.new ((w.alloc (.cells #[b] 23)).alloc (.cells #[.string ⟨#[]⟩] 9)) #[(0:Int)] 24
   exact adB
  have o9:ae w2 w1 #[()] 61:=k2.own (ae.new w1 _ _) _b
  have RH:w.heap.size+3<=w1.heap.size:=by have:=k1.size;simpa using this
  have QG:w1.heap.size+1<=w2.heap.size:=_Z
  have⟨i0,q0,q1,q2,q3⟩:=FW
  have hN8:=lr l
  refine(wpIn_wide (n:=6)).1 ?_
  refine wpIn_rangeFunc_ownG rfl _a (gf:=179) (lb:=#[B1,B2]) rfl trivial (enters_of func179 _c rfl)
   hT (fun h k=>ml.trans h k) (ml.Je (w:=w2) _a) (Below.refl _ w2) (fun _=>rfl)
   (fun(pre:List Nat) W=>(∃v,Boxed W w1 61 v/\W.ownsRow w1 5 1 v (cz d pre).length (Lib.strCells (bs (cz d pre)))/\∀x∈pre,OM d (x:Int)=0)/\Below w1 w2 W)
   (fun c (pre:List Nat) W=>∃x∈pre,¬OM d (x:Int)=0)
   (OwnFrom.and (Go.Own.from (holdsRow_own w1 w1 61 5 1 (fun pre:List Nat=>(cz d pre).length) (fun pre:List Nat=>Lib.strCells (bs (cz d pre))) (fun(pre:List Nat) v=>∀x∈pre,OM d (x:Int)=0)) _) (ownFrom_below _a _a))
   (fun c=>ownFrom_pure _ (fun pre:List Nat=>∃x∈pre,¬OM d (x:Int)=0))
   ⟨⟨_,o9,Nf _ _ _ _,fun x hx=>by cases hx⟩,Below.refl _ w2⟩
   (fun x=>{tmps:=#[.pointer (some ⟨b,0,none⟩),v,.int .i64 sz,.pointer (some ⟨w.heap.size,0,none⟩),undef,undef,.pointer (some ⟨w.heap.size+1,0,none⟩),.pointer (some ⟨w.heap.size+1+1,0,none⟩),.int .i64 0,.pointer (some ⟨w1.heap.size,0,none⟩),.int .i64 ((x:Nat):Int),undef,undef,.pointer (some ⟨b,0,none⟩),v,.int .i64 sz,.int .i64 0,.int .i64 0,.bool false,undef,v,.func (.func 179) #[] #[.pointer (some ⟨B1,0,none⟩),.pointer (some ⟨B2,0,none⟩)],.int .i64 ((x:Nat):Int),undef,undef,undef,undef,undef,undef,undef,undef,undef,undef,undef,undef,undef,undef,undef,undef],defers:=[]}) ?assign ?body ?done ?stop
  case assign=>
   intro l x W K hK
   gi_wp2
   exact hK
  case body=>
   rintro lp pre x W ⟨⟨u,hv,NU,Rm⟩,hB⟩ NV
   have kW:=nL Wb hB _a
   have hc:=hv.cell
   have hc3:W.cell? w=b:=(hB.cell (p:=w) (by show w.heap.size<w1.heap.size;omega)).trans (o3.cell 0 _b)
   have hRx:=HR W kW x
   have aeX:=hB.size
   by_cases hz:OM d (x:Int)=0
   .have e1:Pc d (x:Int)=seen d x:=by unfold Pc;rw[if_pos hz];rfl
    rw[e1,hz]at hRx
    have⟨_,Wr,UT⟩:=dh hz
    have PX:=gj Oq (show x<d.stand.length by omega)
    have UN:(cz d pre).length=128*pre.length:=lI Oq (fun y hy=>by have⟨_,h1,h2⟩:=dh (Rm y hy);omega)
    have hss:(bs (seen d x)).size=128:=by rw[NQ,PX]
    have abO:cz d (pre++[x])=cz d pre++seen d x:=by unfold cz;simp
    have ae5:∀y∈pre++[x],OM d (y:Int)=0:=fun y hy=>by
     rcases Na.1 hy with hy|hy
     .exact Rm y hy
     .have:y=x:=N!
      subst this;exact hz
    obtain⟨nl,hnl⟩:∃nl,(cz d pre).length=nl:=⟨_,rfl⟩
    rw[hnl]at NU UN
    have TG:nl+(bs (seen d x)).size<=140737488355328:=_a
    have Q3:nl+(bs (seen d x)).size<=maxLen:=_m
    have HNL:=tK hnl
    clear hnl UN Wr UT
    obtain⟨pu,cu,rfl⟩:=ah NU
    gi_wp2_with (first
     |(refine⟨trivial,?_⟩;gi_at_call 62;refine(CallsIn.inRound lp (callsIn_wide.2 hRx)).mono ?_;rintro e w3 ⟨rfl,rfl⟩)
     |(gi_at_builtin;refine kj _ rfl (.tmp 32) (.tmp 33) 61 9 rfl w1 5 i0 underlying61 underlying9 q0 q1 q2 q3 _ _ _ rfl NU (bs (seen d x)) rfl Q3 TG _a ?_;intro v' w4 Rj Pi _;rw[hss]at Rj;obtain⟨g',cap',rfl⟩:=wF Rj _a;have⟨Ve,hv2,Th,PY,hb3⟩:=Boxed.D0 hv _d NU _a (MG _) Rj Pi;have RU:=Ve.cell;have hf1:=Ve.frozen))
    refine⟨PY.from _,yI hv _d NU _d Pi (hb3.mono (show w.heap.size<=w1.heap.size by omega)),⟨_,hv2,?_,ae5⟩,hB.trans hb3⟩
    rw[abO,sn,tN,HNL.out,PX]
    exact Th
   .have e1:Pc d (x:Int)=[]:=by unfold Pc;rw[if_neg hz]
    rw[e1]at hRx
    obtain⟨G,hGq⟩:∃G,OM d (x:Int)=G:=⟨_,rfl⟩
    rw[hGq]at hRx
    have Qc:¬G=0:=hGq▸hz
    have e2:(G != 0)=true:=by simp[Qc]
    have HZ:=tK hz
    clear hz hGq
    have c6:=(hB.cell (p:=(aa (w+1) 0)) (by show w.heap.size+1<w1.heap.size;omega)).trans (o6.cell 0 _b)
    have z6:=(hB.frozen (p:=(aa (w+1) 0)) (by show w.heap.size+1<w1.heap.size;omega)).trans (o6.free 0)
    have c7:=(hB.cell (p:=(aa (w.heap.size+1+1) 0)) (by show w.heap.size+1+1<w1.heap.size;omega)).trans (o7.cell 0 _b)
    have z7:=(hB.frozen (p:=(aa (w.heap.size+1+1) 0)) (by show w.heap.size+1+1<w1.heap.size;omega)).trans (o7.free 0)
    gi_wp2_with (refine⟨trivial,?_⟩;gi_at_call 62;refine(CallsIn.inRound lp (callsIn_wide.2 hRx)).mono ?_;rintro e w3 ⟨rfl,rfl⟩)
    exact⟨((KeepsOthers.setCell _ _ _).trans (KeepsOthers.setCell _ _ _)).from _,x,_b,HZ.out⟩
  case done=>
   rintro D xs W hD rfl ⟨⟨u,hv,NU,Rm⟩,hB⟩ hK
   have kW:=nL Wb hB _a
   have hc:=hv.cell
   rw[ZD]at NU
   have o6:ae W (w.heap.size+1) #[.string ⟨#[]⟩] 9:=(hB.block (w.heap.size+1) _a).trans o6
   have o7:ae W (w.heap.size+1+1) #[(0:Int)] 24:=(hB.block (w.heap.size+1+1) _a).trans o7
   rw[HGL.out]at NU
   have c6:=o6.cell 0 _b
   have z6:=o6.free 0
   have c7:=o7.cell 0 _b
   have z7:=o7.free 0
   have Oy:∀S:ByteArray,Hid (((W.setCell (aa (w+1) 0) (.string S)).setCell (aa (w.heap.size+1+1) 0) (0:Int)).heap[D]? =some (.deferred (some []))/\
     ((((W.setCell (aa (w+1) 0) (.string S)).setCell (aa (w.heap.size+1+1) 0) (0:Int)).putObj D (.deferred none)).cell? (aa (w+1) 0)=some (.string S)/\
     (((W.setCell (aa (w+1) 0) (.string S)).setCell (aa (w.heap.size+1+1) 0) (0:Int)).putObj D (.deferred none)).cell? (aa (w.heap.size+1+1) 0)=(0:Int))/\
     NP [] w (((W.setCell (aa (w+1) 0) (.string S)).setCell (aa (w.heap.size+1+1) 0) (0:Int)).putObj D (.deferred none))):=fun S=>by
    have a6:=(o6.set 0 (.string S)).other (p:=(aa (w.heap.size+1+1) 0)) G! (0:Int)
    have a7:=(o7.other (p:=(aa (w+1) 0)) H! (.string S)).set 0 (0:Int)
    have kD:=iI ((W.setCell (aa (w+1) 0) (.string S)).setCell (aa (w.heap.size+1+1) 0) (0:Int)) D (.deferred none)
    have b6:=kD.own a6 _e
    have b7:=kD.own a7 _e
    exact⟨(Below.heap_setCell _ _ _ D (by show D≠w.heap.size+1+1;omega)).trans ((Below.heap_setCell _ _ _ D (by show D≠w.heap.size+1;omega)).trans hK),⟨b6.cell 0 _b,b7.cell 0 _b⟩,((kW.setCell (Or.inr (by show w.heap.size<=w.heap.size+1;omega)) _).setCell (Or.inr _V) _).call kD (fun y hy=>Or.inr (by rw[show y=D by simpa using hy];omega))⟩
   rcases NU.2 with⟨rfl,Rh⟩|⟨g,cap,cur,rfl,TI,UK,hg3,hg4,hg5,hg6⟩
   .have:sz=0:=_a
    subst this
    have Tk:∀W:World,(convert 61 9 ()).run prog W=.ok (.string ⟨#[]⟩) W:=fun W=>by kernel_rfl
    have hf:=Oy ⟨#[]⟩
    clear Oy hK NU o6 o7
    go_wp2_with fail
    refine sF hf.out.1 ?_ ⟨rfl,hf.out.2.2⟩
    have c6:=hf.out.2.1.1
    have c7:=hf.out.2.1.2
    simp[results,f60,go_sem,c6,c7]
    rfl
   .have Qs:Lib.Bytes W g 0 (bs (GL.take sz)):=by
     intro i hi
     rw[NQ,MO]at hi
     have hi':i<GL.length:=_a
     have:=NU.cells (g:=g) rfl i (.int .u8 ((GL[i]'hi').toNat:Int)) (by simp[Lib.strCells,bs,hi'])
     rw[nY]at this
     rw[Nat.zero_add,this]
     show some (Value.int .u8 ((GL[i]).toNat:Int))=some (Value.int .u8 (((GL.take sz)[i]' _w).toNat:Int))
     rw[List.getElem_take]
    have Tk:=Lib.run_convert_whole (P:=prog) W 61 5 9 underlying61 underlying5 underlying9 _ _ _ Qs cap
    have hl:(bs (GL.take sz)).size=sz:=by rw[NQ,MO];omega
    rw[hl]at Tk
    obtain⟨S,hS⟩:∃S,bs (GL.take sz)=S:=⟨_,rfl⟩
    rw[hS]at Tk
    have hf:=Oy S
    have HS:=tK hS
    clear hS
    generalize GL.length=gl at*
    have h1:(sz:Int)<=gl:=_a
    have h2:(gl:Int)<=cap:=_a
    have h3:(sz:Int)<=cap:=_a
    clear Oy hK NU o6 o7 Qs UK hg5 hg6 hl TI
    go_wp2_with fail
    refine sF hf.out.1 ?_ ⟨rfl,hf.out.2.2⟩
    have c6:=hf.out.2.1.1
    have c7:=hf.out.2.1.2
    simp[results,f60,go_sem,c6,c7]
    exact HS.out.symm
  case stop=>
   rintro D c pre W hD Xu ⟨x,hx,Pb⟩ hK
   exfalso
   rw[ZD]at Xu
   exact Pb (U8 x (Xu.subset hx))
 .have ZY:PV d l size=[]:=by unfold PV;rw[if_neg hG]
  unfold gE
  rw[ZY]
  generalize N7 d l size=G at*
  refine(callsIn_wide (n:=6)).1 ?_
  refine callsIn_of_wp_marks func60 rfl trivial ?_ rfl
  simp only[ntmps60,List.size_toArray,Nj,List.length_nil,Nat.reduceAdd,Nat.reduceSub,Array.replicate_succ,Array.replicate_zero,List.push_toArray,List.append_toArray,NI,List.cons_append]
  refine wpIn_wide.2 ?_
  have o6:ae (((w.alloc (.cells #[b] 23)).alloc (.cells #[.string ⟨#[]⟩] 9)).alloc (.cells #[(0:Int)] 24)) (w.heap.size+1) #[.string ⟨#[]⟩] 9:=by
   have:=(ae.new (w.alloc (.cells #[b] 23)) #[.string ⟨#[]⟩] 9).alloc (.cells #[(0:Int)] 24)
   simpa using this
  have o7:ae (((w.alloc (.cells #[b] 23)).alloc (.cells #[.string ⟨#[]⟩] 9)).alloc (.cells #[(0:Int)] 24)) (w.heap.size+1+1) #[(0:Int)] 24:=by
   have:=ae.new ((w.alloc (.cells #[b] 23)).alloc (.cells #[.string ⟨#[]⟩] 9)) #[(0:Int)] 24
   simpa using this
  go_wp2_with fail
  refine(HC _ k3).mono ?_;rintro e w1 ⟨rfl,k1⟩
  have k31:=k3.trans k1
  have o6:=k1.own o6 _b
  have o7:=k1.own o7 _b
  have c6:=o6.cell 0 _b
  have z6:=o6.free 0
  have c7:=o7.cell 0 _b
  have z7:=o7.free 0
  have e1:(G != 0)=true:=by simp[hG]
  go_wp2_with fail
  have a6:=(o6.set 0 (.string ⟨#[]⟩)).other (p:=(aa (w.heap.size+1+1) 0)) G! G
  have a7:=(o7.other (p:=(aa (w+1) 0)) H! (.string ⟨#[]⟩)).set 0 G
  have b6:=a6.cell 0 _b
  have b7:=a7.cell 0 _b
  refine Md ?_ ⟨rfl,(k31.setCell (Or.inr (by show w.heap.size<=w.heap.size+1;omega)) _).setCell (Or.inr _V) _⟩
  simp only[List.setIfInBounds_toArray,List.set_cons_zero]at b6 b7
  simp[results,f60,go_sem,b6,b7,Kc]
theorem xJ {size:Int} (h:N7 d l size=0):dO l d.stand.length size/\¬d.down=true:=by
 unfold N7 at h
 by_cases hf:dO l d.stand.length size
 .rw[if_pos hf]at h
  by_cases hd:d.down=true
  .rw[if_pos hd]at h;omega
  .exact⟨hf,hd⟩
 .rw[if_neg hf]at h;omega
theorem tf {size:Int} {C:Int} {w w':World} (hC:N7 d l size=C) (h0:¬C=0) (k:NP [] w w'):gE d l size w (.returned (.tuple #[.string ⟨#[]⟩,C])) w':=by
 have e:PV d l size=[]:=by unfold PV;rw[if_neg (by rw[hC];exact h0)]
 unfold gE
 rw[e,hC]
 exact⟨rfl,k⟩
theorem Mh {r lim:Nat} (O:GP Inv r lim) (d:DK) (v:Value) (l:List (Int×Int)) (size:Int) (lo hi:Nat) (w:World) (hI:Inv d w) (h:af w v l lo hi) (hl:l.length<=1000000) (Pj:∀a∈l,aQ a)
  (PW:(Lit.int .i64 size).wf=true):
  am! 152 #[r,v,size] w (gE d l size w):=by
 have⟨n1,n2⟩:=O.ops.len hI
 have HF:∀W,NP [] w W->am! 217 #[v,(d.stand.length:Int),size] W (lf l d.stand.length size W):=fun W k=>Mi v l _ _ lo hi W (h.kept0 k) hl Pj (vY _a) PW
 have HL:∀W,NP [] w W->am! 218 #[v] W fun e w'=>∃u,e=.returned u/\w'.ownsRow W.heap.size 3 1 u (eM l).length (fv (eM l))/\NP [] W w':=fun W k=>Le v l lo hi W (h.kept0 k) hl Pj
 have HI:∀W,NP [] w W->Inv d W:=fun W k=>O.ops.keep hI k
 have HC:∀W,NP [] w W->∃p c,W.cell? r=some (.slice p d.stand.length c):=fun W k=>O.stands (HI W k)
 have HD:∀W,NP [] w W->W.cell? (aa r 4)=some (.bool d.down):=fun W k=>O.ops.down (HI W k)
 have HR:∀W,NP [] w W->∀i:Nat,am! 128 #[r,((i:Nat):Int)] W fun e w'=>e=.returned (.tuple #[.string (bs (Pc d i)),(OM d i:Int)])/\W=w':=fun W k i=>O.ops.readC _ (HI W k)
 have Oq:=O.ops.fit hI
 clear h Pj PW hI HI
 have k0:=NP.refl [] w
 have⟨ps,cs,c0⟩:=HC w k0
 obtain⟨N,hN⟩:∃N:Nat,d.stand.length=N:=⟨_,rfl⟩
 rw[hN]at c0 HF n1 n2
 by_cases hG:N7 d l size=0
 .have⟨hX,hd⟩:=xJ hG
  have ZY:PV d l size=(cz d (NY l)).take size.toNat:=by unfold PV;rw[if_pos hG]
  have TN:=hX.wC
  have ZD:eM l=NY l:=oZ hX
  have hal:(NY l).length<=8192:=by rw[<-ZD];exact lr l
  have QT:0<=size:=hX.1
  have U8:∀x∈NY l,OM d (x:Int)=0:=fun x hx=>by
   have:=(hX.lt hx).1
   unfold OM
   rw[if_neg hd,if_neg _a]
  unfold gE
  obtain⟨sz,rfl⟩:=MM QT
  rw[Nw]at ZY
  rw[hG,ZY]
  have UN:(cz d (NY l)).length=128*(NY l).length:=lI Oq (fun y hy=>by have⟨_,h1,h2⟩:=dh (U8 y hy);omega)
  have hle:sz<=(cz d (NY l)).length:=by
   rw[UN]
   have:=TN
   unfold On at this
   split at this<;>omega
  have aeT:(cz d (NY l)).length<=1048576:=by rw[UN];omega
  have hXN:=hX
  rw[hN]at hXN
  rw[ZD]at HL
  have QQ:∀W,NP [] w W->∀k (hk:k<(NY l).length),am! 128 #[r,(((NY l)[k]:Nat):Int)] W fun e w'=>e=.returned (.tuple #[.string (bs (seen d (NY l)[k])),(0:Int)])/\W=w':=fun W q k hk=>by
   have h1:=HR W q (NY l)[k]
   have h2:=U8 _ (MJ hk)
   rw[h2,show Pc d (((NY l)[k]:Nat):Int)=seen d (NY l)[k]by unfold Pc;rw[if_pos h2];rfl]at h1
   exact h1
  have⟨TC,Zy⟩:=_f QQ hXN
  rw[show d.down=false by simpa using hd]at HD
  have aas:∀k (hk:k<(NY l).length),(seen d (NY l)[k]).length=128:=fun k hk=>gj Oq (by have⟨_,h1,h2⟩:=dh (U8 _ (MJ hk));omega)
  have TO:=tK aas
  have Ox:=fun k (hk:k<(NY l).length)=>Dv d (NY l) k hk
  have OY:=tK Ox
  have hg0:∀k,k<=(NY l).length->(cz d ((NY l).take k)).length=128*k:=fun k hk=>by
   rw[lI Oq (fun y hy=>by have⟨_,h1,h2⟩:=dh (U8 y (NJ hy));omega),MO,Nat.min_eq_left hk]
  have HG0:=tK hg0
  clear QQ hX hXN hd ZD ZY TN HC HR U8 aas Ox hG UN Oq hN hg0 QT
  generalize hALq:NY l=al at*
  go_enter func152,ntmps152
  go_wp2_with fail
  refine(HF _ k0).mono ?_;rintro e w1 ⟨q,rfl,hq,k1⟩
  obtain rfl:q=true:=hq.2 Zy.out
  have c4:=HD _ k1
  clear hq HF HD
  go_wp2_with fail
  refine(HL _ k1).mono ?_;rintro e w2 ⟨u,rfl,NU,k2⟩
  have Wb:=k1.trans k2
  have HRW:=tK NU
  have RH:=k1.size
  clear HL NU c4 c0
  obtain⟨pu,cu,rfl⟩:=ah HRW.out
  go_wp2_with fail
  go_loopw [8,10] (fun t i wx=>∃k:Nat,i=(k:Int)/\t=.string (bs (cz d (al.take k)))/\k<=al.length/\NP [] w2 wx) (fun _ i _=>al.length-(intOf i).toNat)
  case atStart=>exact⟨0,rfl,_L,Nb _,NP.refl _ _⟩
  case round=>
   obtain⟨k,rfl,rfl,hk,hK⟩:=hrel
   by_cases NV:k<al.length
   .have⟨g,c,e,cg,hg,_,RU,hc2⟩:=Jl (ax HRW.out hK _b) NV
    injection e with e1 e2 e3
    subst e1;subst e3
    have hr:=TC.out wr (Wb.trans hK) k NV
    have h1:=TO.out k NV
    have h2:=HG0.out k hk
    have h3:=OY.out k NV
    have z1:(bs (seen d al[k])).size=128:=by rw[NQ,h1]
    have z2:(bs (cz d (al.take k))).size=128*k:=by rw[NQ,h2]
    have Qf:bs (cz d (al.take k))++bs (seen d al[k])=bs (cz d (al.take (k+1))):=by rw[aw,h3]
    have z3:(bs (cz d (al.take k))++bs (seen d al[k])).size=128*k+128:=by rw[Qf,NQ,HG0.out (k+1) NV];omega
    have i1:(k:Int)<al.length:=_a
    have i2:(al.length:Int)<=8192:=_a
    have⟨SG,HR,Of⟩:=gg! Qf hr NV
    clear hr h1 h2 h3 Qf
    generalize bs (cz d (al.take k))=A at*
    generalize bs (seen d al[k])=B at*
    generalize al[k]=x at*
    go_wp2_with fail
    refine HR.out.mono ?_;rintro e w5 ⟨rfl,rfl⟩
    go_wp2_with fail
    go_roundw
    case rel=>exact⟨k+1,congrArg (Value.int .i64) _a,congrArg Value.string SG.out,Of.out,hK⟩
    case measure=>(have:=Of.out;simp[intOf];omega)
   .obtain rfl:k=al.length:=_a
    rw[MU]
    have hz:(bs (cz d al)).size=(cz d al).length:=NQ _
    have hex:(bs (cz d al)).extract 0 sz=bs ((cz d al).take sz):=by rw[aY];simp
    have HEX:=tK hex
    have h1:(sz:Int)<=(cz d al).length:=_a
    clear hex
    generalize bs (cz d al)=A at*
    go_wp2_with fail
    go_ret2
    exact⟨by rw[<-HEX.out];rfl,Wb.trans hK⟩
 .by_cases hX:dO l N size
  .have hd:d.down=true:=by
    by_cases hd:d.down=true
    .exact hd
    .exfalso;apply hG;unfold N7;rw[hN,if_pos hX,if_neg hd]
   have hc:N7 d l size=90:=by unfold N7;rw[hN,if_pos hX,if_pos hd]
   have HE:Hid (∀W,NP [] w W->gE d l size w (.returned (.tuple #[.string ⟨#[]⟩,(90:Int)])) W):=tK (fun W k=>tf hc _d k)
   have Zy:=tK hX
   rw[hd]at HD
   clear hX hd hG hc HC HR HL Oq
   go_enter func152,ntmps152
   go_wp2_with fail
   refine(HF _ k0).mono ?_;rintro e w1 ⟨q,rfl,hq,k1⟩
   obtain rfl:q=true:=hq.2 Zy.out
   have c4:=HD _ k1
   clear hq HF HD
   go_wp2_with fail
   go_ret2
   exact HE.out _ k1
  .have hc:N7 d l size=1:=by unfold N7;rw[hN,if_neg hX]
   have HE:Hid (∀W,NP [] w W->gE d l size w (.returned (.tuple #[.string ⟨#[]⟩,(1:Int)])) W):=tK (fun W k=>tf hc _d k)
   have Zy:=tK hX
   clear hX hG hc HC HR HL Oq HD
   go_enter func152,ntmps152
   go_wp2_with fail
   refine(HF _ k0).mono ?_;rintro e w1 ⟨q,rfl,hq,k1⟩
   obtain rfl:q=false:=by
    cases q
    .rfl
    .exact absurd (hq.1 rfl) Zy.out
   clear hq HF
   go_wp2_with fail
   go_ret2
   exact HE.out _ k1
end
open Go.Proofs.Tryz Go.RowKit
variable {l m:List (Int×Int)} {A:Prop} {d:DK} {n:Nat} {j u:Int}
theorem yl (h:l.length≠m.length):(l==m)=false:=by
 rw[Nl];intro e;rw[e]at h;exact h rfl
theorem Ar (k:Nat) (h1:k<l.length) (h2:k<m.length) (h:l[k]≠m[k]):(l==m)=false:=by
 rw[Nl];intro e;subst e;exact h rfl
theorem Hh (hl:l.length=m.length) (h:l.take l.length=m.take l.length):(l==m)=true:=by
 rw[beq_iff_eq];rw[MU]at h;rw[h,hl,MU]
theorem ado (h:A:=by
 go_wp2_with fail
 go_region
 all_goals go_wp2_with fail
 all_goals go_ret
 all_goals exact⟨by rw[HN.out];rfl,hK.drew⟩):A:=h
theorem uG (va vb:Value) (l m:List (Int×Int)) (lo hi lo' hi':Nat) (w:World) (h:af w va l lo hi) (h':af w vb m lo' hi') (hl:l.length<=1000000) (_:m.length<=1000000):
  am! 68 #[va,vb] w fun e w'=>e=.returned (.bool (l==m))/\NP [] w w':=by
 obtain⟨p,c,rfl⟩:=h.shape
 obtain⟨p',c',rfl⟩:=h'.shape
 by_cases Pb:l.length=m.length
 .have hq:((l.length:Int)==(m.length:Int))=true:=_e
  have HQ:=tK Pb
  clear Pb
  go_enter func68,ntmps68
  go_wp2_with fail
  go_loopw [5] (fun i wr=>∃k:Nat,k<=l.length/\i=(k:Int)/\Aside (l.take k=m.take k)/\NP [] w wr) (fun i _=>l.length-(intOf i).toNat)
  case atStart=>exact⟨0,_a,rfl,by simp[Aside],NP.refl _ _⟩
  case round=>
   obtain⟨k,hk,rfl,hA,hK⟩:=hrel
   by_cases NV:k<l.length
   .have hlm:k<m.length:=by have:=HQ.out;omega
    obtain⟨b,off,rfl,c0,c1,hb,hlc,PT⟩:=(h.kept0 hK).at_ k NV
    obtain⟨b',off',rfl,c0',c1',UR,hlc',hcm'⟩:=(h'.kept0 hK).at_ k hlm
    have i1:(k:Int)<l.length:=_a
    have i2:(k:Int)<m.length:=_a
    have OF:l[k]≠m[k]->(l==m)=false:=Ar k NV hlm
    have Oo:l[k]=m[k]->Aside (l.take (k+1)=m.take (k+1)):=fun e=>by
     show _=_
     rw[MI NV,MI hlm,hA.out,e]
    generalize l[k]=a at*
    generalize m[k]=a' at*
    by_cases e1:a.1=a'.1
    .by_cases e2:a.2=a'.2
     .have e3:a=a':=Prod.ext e1 e2
      have HT:=Oo e3
      subst e3
      clear OF Oo e1 e2 hA
      go_wp2_with fail
      go_region
      all_goals go_wp2_with fail
      all_goals go_roundw
      case rel=>exact⟨k+1,_a,_j,HT,hK.drew⟩
      case measure=>simp[intOf];omega
     .have HN:Hid ((l==m)=false):=OF (fun e=>e2 (by rw[e]))
      clear OF Oo hA
      rw[<-e1]at c0'
      clear e1
      exact ado
    .have HN:Hid ((l==m)=false):=OF (fun e=>e1 (by rw[e]))
     clear OF Oo hA
     exact ado
   .obtain rfl:k=l.length:=_a
    have HY:Hid ((l==m)=true):=Hh HQ.out hA.out
    clear hA
    go_wp2_with fail
    go_ret
    exact⟨by rw[HY.out];rfl,hK⟩
 .have hq:((l.length:Int)==(m.length:Int))=false:=_e
  have HN:Hid ((l==m)=false):=yl Pb
  clear Pb
  go_enter func68,ntmps68
  go_wp2_with fail
  go_ret
  exact⟨by rw[HN.out];rfl,NP.refl _ _⟩
def SB.same (a b:SB):Bool:=a.seq==b.seq&&a.sectors==b.sectors&&a.journal==b.journal&&a.used==b.used&&a.size==b.size&&a.runs==b.runs
theorem Hg (a b:Nat):((a:Int)==(b:Int))=(a==b):=by
 rw[Bool.eq_iff_iff,beq_iff_eq,beq_iff_eq];omega
theorem SB.Mm (a b:SB):(((a.seq:Int)==(b.seq:Int))=false/\a.same b=false)\/(((a.seq:Int)==(b.seq:Int))=true/\(a.sectors==b.sectors)=false/\a.same b=false)\/
  (((a.seq:Int)==(b.seq:Int))=true/\(a.sectors==b.sectors)=true/\(a.journal==b.journal)=false/\a.same b=false)\/
  (((a.seq:Int)==(b.seq:Int))=true/\(a.sectors==b.sectors)=true/\(a.journal==b.journal)=true/\(a.used==b.used)=false/\a.same b=false)\/
  (((a.seq:Int)==(b.seq:Int))=true/\(a.sectors==b.sectors)=true/\(a.journal==b.journal)=true/\(a.used==b.used)=true/\(a.size==b.size)=false/\a.same b=false)\/
  (((a.seq:Int)==(b.seq:Int))=true/\(a.sectors==b.sectors)=true/\(a.journal==b.journal)=true/\(a.used==b.used)=true/\(a.size==b.size)=true/\a.same b=(a.runs==b.runs)):=by
 unfold SB.same
 rw[Hg]
 cases a.seq==b.seq<;>cases a.sectors==b.sectors<;>cases a.journal==b.journal<;>cases a.used==b.used<;>cases a.size==b.size<;>simp
theorem KI (a b:SB) (va vb:Value) (lo hi lo' hi':Nat) (w:World) (h:af w va a.runs lo hi) (h':af w vb b.runs lo' hi') (hl:a.runs.length<=1000000) (hm:b.runs.length<=1000000):
  am! 20 #[.agg (a.cells va),.agg (b.cells vb)] w fun e w'=>e=.returned (.bool (a.same b))/\NP [] w w':=by
 have hc:=SB.Mm a b
 have hq:=fun w' (hk:NP [] w w')=>uG va vb a.runs b.runs lo hi lo' hi' w' (h.kept0 hk) (h'.kept0 hk) hl hm
 have HQ:=tK hq
 obtain⟨p,c,rfl⟩:=h.shape
 obtain⟨p',c',rfl⟩:=h'.shape
 clear hq h h'
 have⟨o1,o2⟩:=ch w (a.cells (p,a.runs.length,c)) (b.cells (p',b.runs.length,c')) 58 58
 unfold SB.cells at*
 rcases hc with⟨e1,hx⟩|⟨e1,e2,hx⟩|⟨e1,e2,e3,hx⟩|⟨e1,e2,e3,e4,hx⟩|⟨e1,e2,e3,e4,e5,hx⟩|⟨e1,e2,e3,e4,e5,hx⟩
 case inr.inr.inr.inr.inr=>
  have HX:=tK hx
  clear hx
  go_enter func20,ntmps20
  go_wp2_with fail
  refine(HQ.out _ (((NP.refl _ _).alloc _).alloc _)).mono ?_;rintro e w1 ⟨rfl,hk⟩
  go_wp2_with fail
  go_ret
  exact⟨by rw[HX.out];rfl,(((NP.refl _ _).alloc _).alloc _).trans hk⟩
 all_goals
  have HX:=tK hx
  clear hx
  go_enter func20,ntmps20
  go_wp2_with fail
  go_ret
  exact⟨by rw[HX.out];rfl,((NP.refl _ _).alloc _).alloc _⟩
structure ag where
 kind:Int
 id:Int
 name:List UInt8
 size:Int
 runs:List (Int×Int)
deriving Inhabited
def ag.cells (r:ag) (v:Value):Array Value:=#[r.kind,(r.id,()),r.name,r.size,v]
def S4 (k:Int):Bool:=k==1||k==2||k==4||k==5
def Px (k:Int):Bool:=k==3||k==6
def Oj (k:Int):Bool:=k==1||k==2||k==3
theorem s6 (k:Int):k=1\/k=2\/k=3\/k=4\/k=5\/k=6\/((k==1)=false/\(k==2)=false/\(k==3)=false/\(k==4)=false/\(k==5)=false/\(k==6)=false):=by
 by_cases h1:k=1
 .exact Or.inl h1
 by_cases h2:k=2
 .exact Or.inr (Or.inl h2)
 by_cases h3:k=3
 .exact Or.inr (Or.inr (Or.inl h3))
 by_cases h4:k=4
 .exact Or.inr (Or.inr (Or.inr (Or.inl h4)))
 by_cases h5:k=5
 .exact Or.inr (Or.inr (Or.inr (Or.inr (Or.inl h5))))
 by_cases h6:k=6
 .exact Or.inr (Or.inr (Or.inr (Or.inr (Or.inr (Or.inl h6)))))
 simp[h1,h2,h3,h4,h5,h6]
theorem pJ (k:Int) (w:World):am! 169 #[k] w fun e w'=>e=.returned (.tuple #[.bool (S4 k),.bool (Px k),.bool (Oj k)])/\w=w':=by
 rcases s6 k with rfl|rfl|rfl|rfl|rfl|rfl|⟨h1,h2,h3,h4,h5,h6⟩
 iterate 6
  .go_enter func169,ntmps169
   go_wp2_with fail
   go_ret3
   exact⟨rfl,rfl⟩
 .have e1:S4 k=false:=by unfold S4;rw[h1,h2,h4,h5];rfl
  have e2:Px k=false:=by unfold Px;rw[h3,h6];rfl
  have e3:Oj k=false:=by unfold Oj;rw[h1,h2,h3];rfl
  rw[e1,e2,e3]
  clear e1 e2 e3
  go_enter func169,ntmps169
  go_wp2_with fail
  go_ret3
  exact⟨rfl,rfl⟩
theorem pq (k:Int) (w:World):am! 263 #[k] w fun e w'=>e=.returned (.tuple #[.bool (S4 k),.bool (Px k),.bool (Oj k)])/\w=w':=by
 rcases s6 k with rfl|rfl|rfl|rfl|rfl|rfl|⟨h1,h2,h3,h4,h5,h6⟩
 iterate 6
  .go_enter func263,ntmps263
   go_wp2_with fail
   go_ret3
   exact⟨rfl,rfl⟩
 .have e1:S4 k=false:=by unfold S4;rw[h1,h2,h4,h5];rfl
  have e2:Px k=false:=by unfold Px;rw[h3,h6];rfl
  have e3:Oj k=false:=by unfold Oj;rw[h1,h2,h3];rfl
  rw[e1,e2,e3]
  clear e1 e2 e3
  go_enter func263,ntmps263
  go_wp2_with fail
  go_ret3
  exact⟨rfl,rfl⟩
def iD (l:List (Int×Int)) (n:Int):Bool:=decide (l.length<=16)&&(decide (0<=n)&&(decide (n<=1048576)&&(lies 0 8192 l&&(NZ l==On n))))
def lQ (l:List (Int×Int)) (n:Int) (w:World) (e:Ending) (w':World):Prop:=e=.returned (.bool (iD l n))/\NP [] w w'
theorem uQ {n:Int} {w w':World} (h:lies 0 8192 l=false) (hk:NP [] w w'):lQ l n w (.returned false) w':=by
 refine⟨?_,hk⟩
 unfold iD
 rw[h];simp
theorem AM {n:Int} {w w':World} (h0:l.length<=16) (h1:0<=n) (h2:n<=1048576) (h:lies 0 8192 l=true) (hk:NP [] w w'):lQ l n w (.returned (.bool (NZ l==On n))) w':=by
 refine⟨?_,hk⟩
 unfold iD
 rw[h,MV h0,MV h1,MV h2];simp
theorem M81 (h:A:=by
 go_enter func170,ntmps170
 go_wp2_with fail
 go_ret
 exact⟨rfl,NP.refl _ _⟩):A:=h
theorem Ij (v:Value) (l:List (Int×Int)) (n:Int) (lo hi:Nat) (w:World) (h:af w v l lo hi) (hl:l.length<=1000000) (hn:(Lit.int .i64 n).wf=true):
  am! 170 #[v,n] w (lQ l n w):=by
 obtain⟨p,c,rfl⟩:=h.shape
 have RG:=ko hn
 rcases(by omega:16<l.length\/(l.length<=16/\n<0)\/(l.length<=16/\0<=n/\1048576<n)\/(l.length<=16/\0<=n/\n<=1048576))with b1|⟨b1,b2⟩|⟨b1,b2,b3⟩|⟨b1,b2,b3⟩
 .have e:iD l n=false:=by unfold iD;rw[MS _a];rfl
  unfold lQ
  rw[e]
  have b1':(16:Int)<l.length:=_a
  exact M81
 .have e:iD l n=false:=by unfold iD;rw[MS (by omega:¬0<=n)];simp
  unfold lQ
  rw[e]
  have b1':(l.length:Int)<=16:=_a
  exact M81
 .have e:iD l n=false:=by unfold iD;rw[MS (by omega:¬n<=1048576)];simp
  unfold lQ
  rw[e]
  have b1':(l.length:Int)<=16:=_a
  exact M81
 have b1':(l.length:Int)<=16:=_a
 have HPN:=tK (sP n)
 have HN':=tK hn
 clear hn
 go_enter func170,ntmps170
 go_wp2_with fail
 go_loopw [5,23] (fun a i wr=>∃k:Nat,k<=l.length/\i=(k:Int)/\a=(NZ (l.take k):Int)/\Aside (dP 0 8192 l k=true)/\NP [] w wr) (fun _ i _=>l.length-(intOf i).toNat)
 case atStart=>exact⟨0,_a,rfl,by simp[NZ],rfl,NP.refl _ _⟩
 case round=>
  obtain⟨k,hk,rfl,rfl,hL,hK⟩:=hrel
  by_cases NV:k<l.length
  .obtain⟨b,off,rfl,c0,c1,hb,hlc,PT⟩:=(h.kept0 hK).at_ k NV
   unfold maxLen at PT
   have OF:=ue 0 8192 l k NV
   have P9:Aside (∀m,(l.take m).all (dQ l[k])=true->m=k->iM 0 8192 l[k]=true->dP 0 8192 l (k+1)=true):=fun m h1 h2 h3=>by
    subst h2;rw[iy 0 8192 l m NV,hL.out,h3,h1];rfl
   have Qe:Hid (NZ (l.take (k+1))=NZ (l.take k)+l[k].2):=gH l k NV
   have Tj:=oO (Nat.le_of_lt NV) hL.out _a _a
   have hks:(8192:Int)*k<=8192000000:=_a
   have Rx:=mE l[k] l
   rcases @mv 0 8192 l[k]with⟨h0,UD⟩|⟨h0,g1,g2,g3,g4⟩
   .have HN:Hid (lies 0 8192 l=false):=OF aa!
    clear OF P9 Qe h0 Rx
    generalize l[k]=a at*
    generalize NZ (l.take k)=sm at*
    rcases UD with g1|⟨g1,g2⟩|⟨g1,g2,g3⟩|⟨g1,g2,g3,g4⟩
    all_goals
     go_wp2_with fail
     go_ret
     exact uQ HN.out (hK.alloc _)
   .have TV:Hid ((l.take k).all (dQ l[k])=false->lies 0 8192 l=false):=fun hh=>OF W!
    have⟨H0,HA⟩:=_f h0 Rx
    have Ox:=fun m hm=>kp l[k] l m hm
    have OY:=tK Ox
    have Vr:=fJ (Nat.le_of_lt NV) hL.out
    have QH:=tK Vr
    clear OF h0 Rx Ox Vr
    generalize l[k]=a at*
    generalize NZ (l.take k)=sm at*
    go_wp2_with fail
    obtain⟨wo,rfl⟩:∃wo:World,wo=wr:=⟨_,rfl⟩
    go_loopw [53] (fun i wr=>∃m:Nat,m<=k/\i=(m:Int)/\Aside ((l.take m).all (dQ a)=true)/\NP [] w wr/\ae wr wo #[a.1,a.2] 128) (fun i _=>k-(intOf i).toNat)
    case atStart=>exact⟨0,_a,rfl,rfl,hK.alloc _,ae.new _ _ _⟩
    case round=>
     obtain⟨m,hm,rfl,hAP,QJ,ho⟩:=hrel
     have⟨d0,d1⟩:=ho.c2
     have adg:=ho.lt
     by_cases RO:m<k
     .obtain⟨b',off',WA,e0,e1,Q3,-,-⟩:=(h.kept0 QJ).at_ m _a
      injection WA with WA
      injection WA with hbe1 hbe2 _
      subst hbe1 hbe2
      have hob:=dN.1 (QH.out m RO)
      have Q9:=OY.out m _a
      have TY:=HA.out m k _a RO
      have⟨Xg,YC⟩:=_f Q9 TY
      have hc:= @mD a l[m]
      clear Q9 TY
      generalize l[m]=bb at*
      have⟨q1,q2,q3,q4⟩:=hob
      rcases hc with⟨r0,r1,r2⟩|⟨r0,r1⟩
      .have HN:Hid (lies 0 8192 l=false):=TV.out (YC.out r0)
       clear r0 c0 c1
       go_wp2_with fail
       go_ret
       exact uQ HN.out (QJ.alloc _)
      .have R0:=tK r0
       exact M38
     .have Wc:m=k:=_a
      have HL:Aside (dP 0 8192 l (k+1)=true):=P9.out m hAP.out Wc H0.out
      exact M72
  .obtain rfl:k=l.length:=_a
   have HY:Hid (lies 0 8192 l=true):=hL.out
   have Oy:=fun wx (hk:NP [] w wx)=>AM (n:=n) (w:=w) (w':=wx) b1 b2 b3 HY.out hk
   have Rv:=tK Oy
   rw[MU]
   clear Oy hL
   generalize NZ l=sm at*
   have ad1:=tK (HPN.out wr HN'.out)
   clear HPN
   generalize On n=nd at*
   go_wp2_with fail
   refine ad1.out.mono ?_;rintro e w5 ⟨rfl,rfl⟩
   go_wp2_with fail
   go_ret
   exact Rv.out _ hK
def bo (n:Nat) (j u:Int):Int:=if j<1\/(n:Int)-2<j\/u<0\/128*j<u then 1 else 0
def bA (d:DK) (k:Nat):List UInt8:=((List.range k).map fun i=>seen d (2+i)).flatten
theorem mq (d:DK) (k:Nat):bA d (k+1)=bA d k++seen d (2+k):=by
 unfold bA;rw[List.range_succ,M0,Nv];simp
theorem sG (hf:dS d) (k:Nat) (hk:2+k<=d.stand.length):(bA d k).length=128*k:=by
 induction k with
 |zero=>rfl
 |succ k ih=>rw[mq,tN,ih _a,gj hf _a];omega
def Oi (d:DK) (j u:Int):Int:=if bo d.stand.length j u≠0 then 1 else if d.down=true then 90 else 0
def Pq (d:DK) (j u:Int):List UInt8:=if Oi d j u=0 then(bA d (On u).toNat).take u.toNat else[]
theorem jX (h:bo n j u=0):1<=j/\j<=(n:Int)-2/\0<=u/\u<=128*j:=by
 unfold bo at h
 split at h
 .omega
 .omega
theorem DB (h:bo n j u≠0):bo n j u=1:=by
 unfold bo at h ⊢
 by_cases hc:j<1\/(n:Int)-2<j\/u<0\/128*j<u
 .rw[if_pos hc]
 .rw[if_neg hc]at h;exact absurd rfl h
def lO:Nat->DK->Nat->List UInt8->DK×Int
 |0,d,_,_=>(d,0)
 |f+1,d,a,s=>if s=[]then(d,0)else if OW d a (aC s)=0 then lO f (OJ d a (aC s)) (a+1) (s.drop 128)else(OJ d a (aC s),OW d a (aC s))
theorem D2 (f g:Nat) (d:DK) (a:Nat) (s:List UInt8) (hf:s.length<=f) (hg:s.length<=g):lO f d a s=lO g d a s:=by
 induction f generalizing g d a s with
 |zero=>
  have:s=[]:=Nc _a
  subst this
  cases g with
  |zero=>rfl
  |succ g=>rw[lO,lO,if_pos rfl]
 |succ f ih=>
  cases g with
  |zero=>
   have:s=[]:=Nc _a
   subst this
   rw[lO,lO,if_pos rfl]
  |succ g=>
   rw[lO,lO]
   by_cases hs:s=[]
   .rw[if_pos hs,if_pos hs]
   .have hl:0<s.length:=Nu.2 hs
    rw[if_neg hs,if_neg hs,ih g _ _ _ _z _z]
def fW (d:DK) (a:Nat) (s:List UInt8):DK×Int:=lO s.length d a s
theorem BH (d:DK) (a:Nat):fW d a []=(d,0):=rfl
theorem iK {a:Nat} {s:List UInt8} (hs:s≠[]):fW d a s=if OW d a (aC s)=0 then fW (OJ d a (aC s)) (a+1) (s.drop 128)else(OJ d a (aC s),OW d a (aC s)):=by
 have hl:0<s.length:=Nu.2 hs
 obtain⟨f,hf⟩:∃f,s.length=f+1:=⟨s.length-1,_a⟩
 unfold fW
 rw[hf,lO,if_neg hs,D2 f (s.drop 128).length _ _ _ _z (MG _)]
def gq (I N B:Bool) (id:Int) (name:List UInt8) (size:Int) (runs:List (Int×Int)):Bool:=
 (I||N)&&((I==decide (id≠0))&&(decide (id<=4294967294)&&((N== !name.isEmpty)&&(decide (name.length<=48)&&((B||(decide (size=0)&&runs.isEmpty))&&iD runs size)))))
def az (r:ag):Bool:=gq (S4 r.kind) (Px r.kind) (Oj r.kind) r.id r.name r.size r.runs
def ag.fits (r:ag):Prop:=(Lit.int .i64 r.kind).wf=true/\(Lit.int .u32 r.id).wf=true/\r.name.length<=maxLen/\(Lit.int .i64 r.size).wf=true
def mZ (m:Bool) (w:World) (e:Ending) (w':World):Prop:=e=(if m then 0 else 1:Int)/\NP [] w w'
def qd (m:Bool) (w:World) (e:Ending) (w':World):Prop:=e=.returned (.bool m)/\NP [] w w'
theorem eG {n:Int} (h:(Lit.int .u32 n).wf=true):0<=n/\n<=4294967295:=by
 simp only[Lit.wf,No,decide_eq_true_eq]at h
 exact⟨by have:=h.1;exact this,by have:=h.2;exact this⟩
theorem rC:iD [] 0=true:=_d
theorem nF (l:List UInt8):(l=[]/\(bs l).toList.isEmpty=true/\(bs l).toList=[]/\l.length=0)\/(l.isEmpty=false/\(bs l).toList.isEmpty=false/\1<=l.length):=by
 cases l with
 |nil=>exact Or.inl ⟨rfl,by rw[bj];rfl,by rw[bj],rfl⟩
 |cons a t=>exact Or.inr ⟨rfl,by rw[bj];rfl,_b⟩
