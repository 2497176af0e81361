/- -/
import Derived.Test.YtdkimcnlhmhpgaaGreatF05
set_option maxHeartbeats 32000000
set_option maxRecDepth 100000
namespace Go.Proofs.YtdkimcnlhmhpgaaGreat
section
section
open Go.Proofs.Tryz Go.RowKit Go.Shelf
variable {Inv:DK->World->Prop} {d:DK} {l:List (Int×Int)}
attribute [local go_sem] Oper.semAt_some
def gE (d:DK) (l:List (Int×Int)) (size:Int) (w:World) (e:Ending) (w':World):Prop:=e=.returned (.tuple #[.string (bs (PV d l size)),(N7 d l size:Int)])/\NP [] w w'
theorem FW:∃i,prog.info? 5=some i/\i.zero=some (.int .u8 0)/\i.size=1/\i.bytes=1:=by
 have hi:(prog.info? 5).map (fun i=>(i.zero,i.size,i.bytes))=some (some (.int .u8 0),1,1):=c?
 exact Yh
theorem adB {A:Prop}(h:A:=by
 simp only[Nd]at this
 exact(k1.trans (((NP.refl [] w1).alloc _).trans k2)).own this b?):A:=h
theorem Mu {b} (O:r7 Inv b) (d v l size lo hi w) (hI:Inv d w) (h:af w v l lo hi) (hl:l.length<=1000000) (Pj:∀a∈l,aQ a) (PW:(Lit.int .i64 size).wf=true):
  am! 60 #[b,v,size] w (gE d l size w):=by
 have HC:=fun W k=>DX O d v l size lo hi W (O.keep hI k) (h.kept0 k) hl Pj PW
 have HE:=fun W (k:NP [] w W)=>DY 5 a? w v l 0 w W (h.wide.kept0 k) hl Pj (MG _) k.size
 have HR:∀W,NP [] w W->∀i:Nat,am! 62 #[b,((i:Nat):Int)] W fun e w'=>e=.returned (.tuple #[.string (bs (Pc d i)),(OM d i:Int)])/\W=w':=fun W k i=>O.readC _ (O.keep hI k)
 have Oq:=O.fit hI
 have hlen:=O.len hI
 clear h Pj hI
 have k3:=(((NP.refl [] w).alloc (.cells #[b] 23)).alloc (.cells #[.string ⟨#[]⟩] 9)).alloc (.cells #[(0:Int)] 24)
 by_cases hG:N7 d l size=0
 .have hX:dO l d.stand.length size/\¬d.down=true:=by
   unfold N7 at hG
   by_cases hf:dO l d.stand.length size
   .rw[if_pos hf]at hG
    by_cases hd:d.down=true
    .rw[if_pos hd]at hG;omega
    .exact⟨hf,hd⟩
   .rw[if_neg hf]at hG;omega
  have ZY:PV d l size=(cz d (NY l)).take size.toNat:=by unfold PV;rw[if_pos hG]
  have TN:=hX.1.wC
  have ZD:eM l=NY l:=oZ hX.1
  have hal:(NY l).length<=8192:=by rw[<-ZD];exact lr l
  have QT:0<=size:=hX.1.1
  have U8:∀x∈NY l,OM d (x:Int)=0:=fun x hx=>by
   have:=(hX.1.lt hx).1
   unfold OM
   rw[if_neg hX.2,if_neg a?]
  unfold gE
  obtain⟨sz,rfl⟩:=MM QT
  rw[Nw]at ZY
  obtain⟨GL,hGL⟩:∃GL,cz d (NY l)=GL:=⟨_,rfl⟩
  rw[hGL]at ZY
  rw[hG,ZY]
  rw[hG]at HC
  have UN:(cz d (NY l)).length=128*(NY l).length:=lI Oq (fun y hy=>by have⟨_,h1,h2⟩:=dh (U8 y hy);omega)
  have hle:sz<=GL.length:=by
   rw[<-hGL,UN]
   have:=TN
   unfold On at this
   split at this<;>omega
  have aeT:GL.length<=1048576:=by rw[<-hGL,UN];omega
  have HGL:=tK hGL
  clear ZY hG QT UN hGL hX TN PW
  refine(callsIn_wide (n:=6)).1 ?_
  refine callsIn_of_wp_marks func60 rfl trivial ?_ rfl
  simp only[ntmps60,List.size_toArray,Nj,List.length_nil,Nat.reduceAdd,Nat.reduceSub,Array.replicate_succ,Array.replicate_zero,List.push_toArray,List.append_toArray,NI,List.cons_append]
  refine wpIn_wide.2 ?_
  go_wp2_with fail
  refine(HC _ k3).mono ?_;rintro e w1 ⟨rfl,k1⟩
  have k31:=k3.trans k1
  have acJ:=k31.alloc (.cells #[()] 61)
  go_wp2_with fail
  refine(HE _ acJ).mono ?_;rintro e w2 ⟨f,rfl,k2,B1,B2,rfl,hT⟩
  go_wp2_with fail
  have Wb:=acJ.trans k2
  have o3:ae w2 w #[b] 23:=(k1.trans (((NP.refl [] w1).alloc _).trans k2)).own (((ae.new w #[b] 23).alloc _).alloc _) b?
  have o6:ae w2 (w.heap.size+1) #[.string ⟨#[]⟩] 9:=by
   have:=(ae.new (w.alloc (.cells #[b] 23)) #[.string ⟨#[]⟩] 9).alloc (.cells #[(0:Int)] 24)
   exact adB
  have o7:ae w2 (w.heap.size+1+1) #[(0:Int)] 24:=by
   have:=ae.new ((w.alloc (.cells #[b] 23)).alloc (.cells #[.string ⟨#[]⟩] 9)) #[(0:Int)] 24
   exact adB
  have o9:ae w2 w1 #[()] 61:=k2.own (ae.new w1 _ _) b?
  have RH:w.heap.size+3<=w1.heap.size:=by have:=k1.size;simpa using this
  have QG:w1.heap.size+1<=w2.heap.size:=Z?
  have⟨i0,q0,q1,q2,q3⟩:=FW
  have hN8:=lr l
  refine(wpIn_wide (n:=6)).1 ?_
  refine wpIn_rangeFunc_ownG rfl a? (gf:=179) (lb:=#[B1,B2]) rfl trivial (enters_of func179 c? rfl)
   hT (fun h k=>ml.trans h k) (ml.Je (w:=w2) a?) (Below.refl _ w2) (fun _=>rfl)
   (fun(pre:List Nat) W=>(∃v,Boxed W w1 61 v/\W.ownsRow w1 5 1 v (cz d pre).length (Lib.strCells (bs (cz d pre)))/\∀x∈pre,OM d (x:Int)=0)/\Below w1 w2 W)
   (fun c (pre:List Nat) W=>∃x∈pre,¬OM d (x:Int)=0)
   (OwnFrom.and (Go.Own.from (holdsRow_own w1 w1 61 5 1 (fun pre:List Nat=>(cz d pre).length) (fun pre:List Nat=>Lib.strCells (bs (cz d pre))) (fun(pre:List Nat) v=>∀x∈pre,OM d (x:Int)=0)) _) (ownFrom_below a? a?))
   (fun c=>ownFrom_pure _ (fun pre:List Nat=>∃x∈pre,¬OM d (x:Int)=0))
   ⟨⟨_,o9,Nf _ _ _ _,fun x hx=>by cases hx⟩,Below.refl _ w2⟩
   (fun x=>{tmps:=#[.pointer (some ⟨b,0,none⟩),v,.int .i64 sz,.pointer (some ⟨w.heap.size,0,none⟩),undef,undef,.pointer (some ⟨w.heap.size+1,0,none⟩),.pointer (some ⟨w.heap.size+1+1,0,none⟩),.int .i64 0,.pointer (some ⟨w1.heap.size,0,none⟩),.int .i64 ((x:Nat):Int),undef,undef,.pointer (some ⟨b,0,none⟩),v,.int .i64 sz,.int .i64 0,.int .i64 0,.bool false,undef,v,.func (.func 179) #[] #[.pointer (some ⟨B1,0,none⟩),.pointer (some ⟨B2,0,none⟩)],.int .i64 ((x:Nat):Int),undef,undef,undef,undef,undef,undef,undef,undef,undef,undef,undef,undef,undef,undef,undef,undef],defers:=[]}) ?assign ?body ?done ?stop
  case assign=>
   intro l x W K hK
   gi_wp2
   exact hK
  case body=>
   rintro lp pre x W ⟨⟨u,hv,NU,Rm⟩,hB⟩ NV
   have kW:=nL Wb hB a?
   have hc:=hv.cell
   have hc3:W.cell? w=b:=(hB.cell (p:=w) (by show w.heap.size<w1.heap.size;omega)).trans (o3.cell 0 b?)
   have hRx:=HR W kW x
   have aeX:=hB.size
   by_cases hz:OM d (x:Int)=0
   .have e1:Pc d (x:Int)=seen d x:=by unfold Pc;rw[if_pos hz];rfl
    rw[e1,hz]at hRx
    have⟨_,Wr,UT⟩:=dh hz
    have PX:=gj Oq (show x<d.stand.length by omega)
    have UN:(cz d pre).length=128*pre.length:=lI Oq (fun y hy=>by have⟨_,h1,h2⟩:=dh (Rm y hy);omega)
    have hss:(bs (seen d x)).size=128:=by rw[NQ,PX]
    have abO:cz d (pre++[x])=cz d pre++seen d x:=by unfold cz;simp
    have ae5:∀y∈pre++[x],OM d (y:Int)=0:=fun y hy=>by
     rcases Na.1 hy with hy|hy
     .exact Rm y hy
     .have:y=x:=N!
      subst this;exact hz
    obtain⟨nl,hnl⟩:∃nl,(cz d pre).length=nl:=⟨_,rfl⟩
    rw[hnl]at NU UN
    have TG:nl+(bs (seen d x)).size<=140737488355328:=a?
    have Q3:nl+(bs (seen d x)).size<=maxLen:=m?
    have HNL:=tK hnl
    clear hnl UN Wr UT
    obtain⟨pu,cu,rfl⟩:=ah NU
    gi_wp2_with (first
     |(refine⟨trivial,?_⟩;gi_at_call 62;refine(CallsIn.inRound lp (callsIn_wide.2 hRx)).mono ?_;rintro e w3 ⟨rfl,rfl⟩)
     |(gi_at_builtin;refine kj _ rfl (.tmp 32) (.tmp 33) 61 9 rfl w1 5 i0 underlying61 underlying9 q0 q1 q2 q3 _ _ _ rfl NU (bs (seen d x)) rfl Q3 TG a? ?_;intro v' w4 Rj Pi _;rw[hss]at Rj;obtain⟨g',cap',rfl⟩:=wF Rj a?;have⟨Ve,hv2,Th,PY,hb3⟩:=Boxed.D0 hv d? NU a? (MG _) Rj Pi;have RU:=Ve.cell;have hf1:=Ve.frozen))
    refine⟨PY.from _,yI hv d? NU d? Pi (hb3.mono (show w.heap.size<=w1.heap.size by omega)),⟨_,hv2,?_,ae5⟩,hB.trans hb3⟩
    rw[abO,sn,tN,HNL.out,PX]
    exact Th
   .have e1:Pc d (x:Int)=[]:=by unfold Pc;rw[if_neg hz]
    rw[e1]at hRx
    obtain⟨G,hGq⟩:∃G,OM d (x:Int)=G:=⟨_,rfl⟩
    rw[hGq]at hRx
    have Qc:¬G=0:=hGq▸hz
    have e2:(G != 0)=true:=by simp[Qc]
    have HZ:=tK hz
    clear hz hGq
    have c6:=(hB.cell (p:=(aa (w+1) 0)) (by show w.heap.size+1<w1.heap.size;omega)).trans (o6.cell 0 b?)
    have z6:=(hB.frozen (p:=(aa (w+1) 0)) (by show w.heap.size+1<w1.heap.size;omega)).trans (o6.free 0)
    have c7:=(hB.cell (p:=(aa (w.heap.size+1+1) 0)) (by show w.heap.size+1+1<w1.heap.size;omega)).trans (o7.cell 0 b?)
    have z7:=(hB.frozen (p:=(aa (w.heap.size+1+1) 0)) (by show w.heap.size+1+1<w1.heap.size;omega)).trans (o7.free 0)
    gi_wp2_with (refine⟨trivial,?_⟩;gi_at_call 62;refine(CallsIn.inRound lp (callsIn_wide.2 hRx)).mono ?_;rintro e w3 ⟨rfl,rfl⟩)
    exact⟨((KeepsOthers.setCell _ _ _).trans (KeepsOthers.setCell _ _ _)).from _,x,b?,HZ.out⟩
  case done=>
   rintro D xs W hD rfl ⟨⟨u,hv,NU,Rm⟩,hB⟩ hK
   have kW:=nL Wb hB a?
   have hc:=hv.cell
   rw[ZD]at NU
   have o6:ae W (w.heap.size+1) #[.string ⟨#[]⟩] 9:=(hB.block (w.heap.size+1) a?).trans o6
   have o7:ae W (w.heap.size+1+1) #[(0:Int)] 24:=(hB.block (w.heap.size+1+1) a?).trans o7
   rw[HGL.out]at NU
   have c6:=o6.cell 0 b?
   have z6:=o6.free 0
   have c7:=o7.cell 0 b?
   have z7:=o7.free 0
   have Oy:∀S:ByteArray,Hid (((W.setCell (aa (w+1) 0) (.string S)).setCell (aa (w.heap.size+1+1) 0) (0:Int)).heap[D]? =some (.deferred (some []))/\
     ((((W.setCell (aa (w+1) 0) (.string S)).setCell (aa (w.heap.size+1+1) 0) (0:Int)).putObj D (.deferred none)).cell? (aa (w+1) 0)=some (.string S)/\
     (((W.setCell (aa (w+1) 0) (.string S)).setCell (aa (w.heap.size+1+1) 0) (0:Int)).putObj D (.deferred none)).cell? (aa (w.heap.size+1+1) 0)=(0:Int))/\
     NP [] w (((W.setCell (aa (w+1) 0) (.string S)).setCell (aa (w.heap.size+1+1) 0) (0:Int)).putObj D (.deferred none))):=fun S=>by
    have a6:=(o6.set 0 (.string S)).other (p:=(aa (w.heap.size+1+1) 0)) G! (0:Int)
    have a7:=(o7.other (p:=(aa (w+1) 0)) H! (.string S)).set 0 (0:Int)
    have kD:=iI ((W.setCell (aa (w+1) 0) (.string S)).setCell (aa (w.heap.size+1+1) 0) (0:Int)) D (.deferred none)
    have b6:=kD.own a6 e?
    have b7:=kD.own a7 e?
    exact⟨(Below.heap_setCell _ _ _ D (by show D≠w.heap.size+1+1;omega)).trans ((Below.heap_setCell _ _ _ D (by show D≠w.heap.size+1;omega)).trans hK),⟨b6.cell 0 b?,b7.cell 0 b?⟩,((kW.setCell (Or.inr (by show w.heap.size<=w.heap.size+1;omega)) _).setCell (Or.inr V?) _).call kD (fun y hy=>Or.inr (by rw[show y=D by simpa using hy];omega))⟩
   rcases NU.2 with⟨rfl,Rh⟩|⟨g,cap,cur,rfl,TI,UK,hg3,hg4,hg5,hg6⟩
   .have:sz=0:=a?
    subst this
    have Tk:∀W:World,(convert 61 9 ()).run prog W=.ok (.string ⟨#[]⟩) W:=fun W=>by kernel_rfl
    have hf:=Oy ⟨#[]⟩
    clear Oy hK NU o6 o7
    go_wp2_with fail
    refine sF hf.out.1 ?_ ⟨rfl,hf.out.2.2⟩
    have c6:=hf.out.2.1.1
    have c7:=hf.out.2.1.2
    simp[results,f60,go_sem,c6,c7]
    rfl
   .have Qs:Lib.Bytes W g 0 (bs (GL.take sz)):=by
     intro i hi
     rw[NQ,MO]at hi
     have hi':i<GL.length:=a?
     have:=NU.cells (g:=g) rfl i (.int .u8 ((GL[i]'hi').toNat:Int)) (by simp[Lib.strCells,bs,hi'])
     rw[nY]at this
     rw[Nat.zero_add,this]
     show some (Value.int .u8 ((GL[i]).toNat:Int))=some (Value.int .u8 (((GL.take sz)[i]' w?).toNat:Int))
     rw[List.getElem_take]
    have Tk:=Lib.run_convert_whole (P:=prog) W 61 5 9 underlying61 underlying5 underlying9 _ _ _ Qs cap
    have hl:(bs (GL.take sz)).size=sz:=by rw[NQ,MO];omega
    rw[hl]at Tk
    obtain⟨S,hS⟩:∃S,bs (GL.take sz)=S:=⟨_,rfl⟩
    rw[hS]at Tk
    have hf:=Oy S
    have HS:=tK hS
    clear hS
    generalize GL.length=gl at*
    have h1:(sz:Int)<=gl:=a?
    have h2:(gl:Int)<=cap:=a?
    have h3:(sz:Int)<=cap:=a?
    clear Oy hK NU o6 o7 Qs UK hg5 hg6 hl TI
    go_wp2_with fail
    refine sF hf.out.1 ?_ ⟨rfl,hf.out.2.2⟩
    have c6:=hf.out.2.1.1
    have c7:=hf.out.2.1.2
    simp[results,f60,go_sem,c6,c7]
    exact HS.out.symm
  case stop=>
   rintro D c pre W hD Xu ⟨x,hx,Pb⟩ hK
   exfalso
   rw[ZD]at Xu
   exact Pb (U8 x (Xu.subset hx))
 .have ZY:PV d l size=[]:=by unfold PV;rw[if_neg hG]
  unfold gE
  rw[ZY]
  generalize N7 d l size=G at*
  refine(callsIn_wide (n:=6)).1 ?_
  refine callsIn_of_wp_marks func60 rfl trivial ?_ rfl
  simp only[ntmps60,List.size_toArray,Nj,List.length_nil,Nat.reduceAdd,Nat.reduceSub,Array.replicate_succ,Array.replicate_zero,List.push_toArray,List.append_toArray,NI,List.cons_append]
  refine wpIn_wide.2 ?_
  have o6:ae (((w.alloc (.cells #[b] 23)).alloc (.cells #[.string ⟨#[]⟩] 9)).alloc (.cells #[(0:Int)] 24)) (w.heap.size+1) #[.string ⟨#[]⟩] 9:=by
   have:=(ae.new (w.alloc (.cells #[b] 23)) #[.string ⟨#[]⟩] 9).alloc (.cells #[(0:Int)] 24)
   simpa using this
  have o7:ae (((w.alloc (.cells #[b] 23)).alloc (.cells #[.string ⟨#[]⟩] 9)).alloc (.cells #[(0:Int)] 24)) (w.heap.size+1+1) #[(0:Int)] 24:=by
   have:=ae.new ((w.alloc (.cells #[b] 23)).alloc (.cells #[.string ⟨#[]⟩] 9)) #[(0:Int)] 24
   simpa using this
  go_wp2_with fail
  refine(HC _ k3).mono ?_;rintro e w1 ⟨rfl,k1⟩
  have k31:=k3.trans k1
  have o6:=k1.own o6 b?
  have o7:=k1.own o7 b?
  have c6:=o6.cell 0 b?
  have z6:=o6.free 0
  have c7:=o7.cell 0 b?
  have z7:=o7.free 0
  have e1:(G != 0)=true:=by simp[hG]
  go_wp2_with fail
  have a6:=(o6.set 0 (.string ⟨#[]⟩)).other (p:=(aa (w.heap.size+1+1) 0)) G! G
  have a7:=(o7.other (p:=(aa (w+1) 0)) H! (.string ⟨#[]⟩)).set 0 G
  have b6:=a6.cell 0 b?
  have b7:=a7.cell 0 b?
  refine Md ?_ ⟨rfl,(k31.setCell (Or.inr (by show w.heap.size<=w.heap.size+1;omega)) _).setCell (Or.inr V?) _⟩
  simp only[List.setIfInBounds_toArray,List.set_cons_zero]at b6 b7
  simp[results,f60,go_sem,b6,b7,Kc]
theorem xJ {size} (h:N7 d l size=0):dO l d.stand.length size/\¬d.down=true:=by
 unfold N7 at h
 by_cases hf:dO l d.stand.length size
 .rw[if_pos hf]at h
  by_cases hd:d.down=true
  .rw[if_pos hd]at h;omega
  .exact⟨hf,hd⟩
 .rw[if_neg hf]at h;omega
theorem tf {size C w w'} (hC:N7 d l size=C) (h0:¬C=0) (k:NP [] w w'):gE d l size w (.returned (.tuple #[.string ⟨#[]⟩,C])) w':=by
 have e:PV d l size=[]:=by unfold PV;rw[if_neg (by rw[hC];exact h0)]
 unfold gE
 rw[e,hC]
 exact⟨rfl,k⟩
theorem Mh {r lim} (O:GP Inv r lim) (d v l size lo hi w) (hI:Inv d w) (h:af w v l lo hi) (hl:l.length<=1000000) (Pj:∀a∈l,aQ a) (PW:(Lit.int .i64 size).wf=true):
  am! 152 #[r,v,size] w (gE d l size w):=by
 have⟨n1,n2⟩:=O.ops.len hI
 have HF:∀W,NP [] w W->am! 217 #[v,(d.stand.length:Int),size] W (lf l d.stand.length size W):=fun W k=>Mi v l _ _ lo hi W (h.kept0 k) hl Pj (vY a?) PW
 have HL:∀W,NP [] w W->am! 218 #[v] W fun e w'=>∃u,e=.returned u/\w'.ownsRow W.heap.size 3 1 u (eM l).length (fv (eM l))/\NP [] W w':=fun W k=>Le v l lo hi W (h.kept0 k) hl Pj
 have HI:∀W,NP [] w W->Inv d W:=fun W k=>O.ops.keep hI k
 have HC:∀W,NP [] w W->∃p c,W.cell? r=some (.slice p d.stand.length c):=fun W k=>O.stands (HI W k)
 have HD:∀W,NP [] w W->W.cell? (aa r 4)=some (.bool d.down):=fun W k=>O.ops.down (HI W k)
 have HR:∀W,NP [] w W->∀i:Nat,am! 128 #[r,((i:Nat):Int)] W fun e w'=>e=.returned (.tuple #[.string (bs (Pc d i)),(OM d i:Int)])/\W=w':=fun W k i=>O.ops.readC _ (HI W k)
 have Oq:=O.ops.fit hI
 clear h Pj PW hI HI
 have k0:=NP.refl [] w
 have⟨ps,cs,c0⟩:=HC w k0
 obtain⟨N,hN⟩:∃N:Nat,d.stand.length=N:=⟨_,rfl⟩
 rw[hN]at c0 HF n1 n2
 by_cases hG:N7 d l size=0
 .have⟨hX,hd⟩:=xJ hG
  have ZY:PV d l size=(cz d (NY l)).take size.toNat:=by unfold PV;rw[if_pos hG]
  have TN:=hX.wC
  have ZD:eM l=NY l:=oZ hX
  have hal:(NY l).length<=8192:=by rw[<-ZD];exact lr l
  have QT:0<=size:=hX.1
  have U8:∀x∈NY l,OM d (x:Int)=0:=fun x hx=>by
   have:=(hX.lt hx).1
   unfold OM
   rw[if_neg hd,if_neg a?]
  unfold gE
  obtain⟨sz,rfl⟩:=MM QT
  rw[Nw]at ZY
  rw[hG,ZY]
  have UN:(cz d (NY l)).length=128*(NY l).length:=lI Oq (fun y hy=>by have⟨_,h1,h2⟩:=dh (U8 y hy);omega)
  have hle:sz<=(cz d (NY l)).length:=by
   rw[UN]
   have:=TN
   unfold On at this
   split at this<;>omega
  have aeT:(cz d (NY l)).length<=1048576:=by rw[UN];omega
  have hXN:=hX
  rw[hN]at hXN
  rw[ZD]at HL
  have QQ:∀W,NP [] w W->∀k (hk:k<(NY l).length),am! 128 #[r,(((NY l)[k]:Nat):Int)] W fun e w'=>e=.returned (.tuple #[.string (bs (seen d (NY l)[k])),(0:Int)])/\W=w':=fun W q k hk=>by
   have h1:=HR W q (NY l)[k]
   have h2:=U8 _ (MJ hk)
   rw[h2,show Pc d (((NY l)[k]:Nat):Int)=seen d (NY l)[k]by unfold Pc;rw[if_pos h2];rfl]at h1
   exact h1
  have⟨TC,Zy⟩:=f? QQ hXN
  rw[show d.down=false by simpa using hd]at HD
  have aas:∀k (hk:k<(NY l).length),(seen d (NY l)[k]).length=128:=fun k hk=>gj Oq (by have⟨_,h1,h2⟩:=dh (U8 _ (MJ hk));omega)
  have TO:=tK aas
  have Ox:=fun k (hk:k<(NY l).length)=>Dv d (NY l) k hk
  have OY:=tK Ox
  have hg0:∀k,k<=(NY l).length->(cz d ((NY l).take k)).length=128*k:=fun k hk=>by
   rw[lI Oq (fun y hy=>by have⟨_,h1,h2⟩:=dh (U8 y (NJ hy));omega),MO,Nat.min_eq_left hk]
  have HG0:=tK hg0
  clear QQ hX hXN hd ZD ZY TN HC HR U8 aas Ox hG UN Oq hN hg0 QT
  generalize hALq:NY l=al at*
  go_enter func152,ntmps152
  go_wp2_with fail
  refine(HF _ k0).mono ?_;rintro e w1 ⟨q,rfl,hq,k1⟩
  obtain rfl:q=true:=hq.2 Zy.out
  have c4:=HD _ k1
  clear hq HF HD
  go_wp2_with fail
  refine(HL _ k1).mono ?_;rintro e w2 ⟨u,rfl,NU,k2⟩
  have Wb:=k1.trans k2
  have HRW:=tK NU
  have RH:=k1.size
  clear HL NU c4 c0
  obtain⟨pu,cu,rfl⟩:=ah HRW.out
  go_wp2_with fail
  go_loopw [8,10] (fun t i wx=>∃k:Nat,i=(k:Int)/\t=.string (bs (cz d (al.take k)))/\k<=al.length/\NP [] w2 wx) (fun _ i _=>al.length-(intOf i).toNat)
  case atStart=>exact⟨0,rfl,L?,Nb _,NP.refl _ _⟩
  case round=>
   obtain⟨k,rfl,rfl,hk,hK⟩:=hrel
   by_cases NV:k<al.length
   .have⟨g,c,e,cg,hg,_,RU,hc2⟩:=Jl (ax HRW.out hK b?) NV
    injection e with e1 e2 e3
    subst e1;subst e3
    have hr:=TC.out wr (Wb.trans hK) k NV
    have h1:=TO.out k NV
    have h2:=HG0.out k hk
    have h3:=OY.out k NV
    have z1:(bs (seen d al[k])).size=128:=by rw[NQ,h1]
    have z2:(bs (cz d (al.take k))).size=128*k:=by rw[NQ,h2]
    have Qf:bs (cz d (al.take k))++bs (seen d al[k])=bs (cz d (al.take (k+1))):=by rw[aw,h3]
    have z3:(bs (cz d (al.take k))++bs (seen d al[k])).size=128*k+128:=by rw[Qf,NQ,HG0.out (k+1) NV];omega
    have i1:(k:Int)<al.length:=a?
    have i2:(al.length:Int)<=8192:=a?
    have⟨SG,HR,Of⟩:=gg! Qf hr NV
    clear hr h1 h2 h3 Qf
    generalize bs (cz d (al.take k))=A at*
    generalize bs (seen d al[k])=B at*
    generalize al[k]=x at*
    go_wp2_with fail
    refine HR.out.mono ?_;rintro e w5 ⟨rfl,rfl⟩
    go_wp2_with fail
    go_roundw
    case rel=>exact⟨k+1,congrArg (Value.int .i64) a?,congrArg Value.string SG.out,Of.out,hK⟩
    case measure=>(have:=Of.out;simp[intOf];omega)
   .obtain rfl:k=al.length:=a?
    rw[MU]
    have hz:(bs (cz d al)).size=(cz d al).length:=NQ _
    have hex:(bs (cz d al)).extract 0 sz=bs ((cz d al).take sz):=by rw[aY];simp
    have HEX:=tK hex
    have h1:(sz:Int)<=(cz d al).length:=a?
    clear hex
    generalize bs (cz d al)=A at*
    go_wp2_with fail
    go_ret2
    exact⟨by rw[<-HEX.out];rfl,Wb.trans hK⟩
 .by_cases hX:dO l N size
  .have hd:d.down=true:=by
    by_cases hd:d.down=true
    .exact hd
    .exfalso;apply hG;unfold N7;rw[hN,if_pos hX,if_neg hd]
   have hc:N7 d l size=90:=by unfold N7;rw[hN,if_pos hX,if_pos hd]
   have HE:Hid (∀W,NP [] w W->gE d l size w (.returned (.tuple #[.string ⟨#[]⟩,(90:Int)])) W):=tK (fun W k=>tf hc d? k)
   have Zy:=tK hX
   rw[hd]at HD
   clear hX hd hG hc HC HR HL Oq
   go_enter func152,ntmps152
   go_wp2_with fail
   refine(HF _ k0).mono ?_;rintro e w1 ⟨q,rfl,hq,k1⟩
   obtain rfl:q=true:=hq.2 Zy.out
   have c4:=HD _ k1
   clear hq HF HD
   go_wp2_with fail
   go_ret2
   exact HE.out _ k1
  .have hc:N7 d l size=1:=by unfold N7;rw[hN,if_neg hX]
   have HE:Hid (∀W,NP [] w W->gE d l size w (.returned (.tuple #[.string ⟨#[]⟩,(1:Int)])) W):=tK (fun W k=>tf hc d? k)
   have Zy:=tK hX
   clear hX hG hc HC HR HL Oq HD
   go_enter func152,ntmps152
   go_wp2_with fail
   refine(HF _ k0).mono ?_;rintro e w1 ⟨q,rfl,hq,k1⟩
   obtain rfl:q=false:=by
    cases q
    .rfl
    .exact absurd (hq.1 rfl) Zy.out
   clear hq HF
   go_wp2_with fail
   go_ret2
   exact HE.out _ k1
end
open Go.Proofs.Tryz Go.RowKit
variable {l m:List (Int×Int)} {A:Prop} {d:DK} {n:Nat} {j u:Int}
theorem yl (h:l.length≠m.length):(l==m)=false:=by
 rw[Nl];intro e;rw[e]at h;exact h rfl
theorem Ar (k) (h1:k<l.length) (h2:k<m.length) (h:l[k]≠m[k]):(l==m)=false:=by
 rw[Nl];intro e;subst e;exact h rfl
theorem Hh (hl:l.length=m.length) (h:l.take l.length=m.take l.length):(l==m)=true:=by
 rw[beq_iff_eq];rw[MU]at h;rw[h,hl,MU]
theorem ado (h:A:=by
 go_wp2_with fail
 go_region
 all_goals go_wp2_with fail
 all_goals go_ret
 all_goals exact⟨by rw[HN.out];rfl,hK.drew⟩):A:=h
theorem uG (va vb l m lo hi lo' hi' w) (h:af w va l lo hi) (h':af w vb m lo' hi') (hl:l.length<=1000000) (_:m.length<=1000000):
  am! 68 #[va,vb] w fun e w'=>e=.returned (.bool (l==m))/\NP [] w w':=by
 obtain⟨p,c,rfl⟩:=h.shape
 obtain⟨p',c',rfl⟩:=h'.shape
 by_cases Pb:l.length=m.length
 .have hq:((l.length:Int)==(m.length:Int))=true:=e?
  have HQ:=tK Pb
  clear Pb
  go_enter func68,ntmps68
  go_wp2_with fail
  go_loopw [5] (fun i wr=>∃k:Nat,k<=l.length/\i=(k:Int)/\Aside (l.take k=m.take k)/\NP [] w wr) (fun i _=>l.length-(intOf i).toNat)
  case atStart=>exact⟨0,a?,rfl,by simp[Aside],NP.refl _ _⟩
  case round=>
   obtain⟨k,hk,rfl,hA,hK⟩:=hrel
   by_cases NV:k<l.length
   .have hlm:k<m.length:=by have:=HQ.out;omega
    obtain⟨b,off,rfl,c0,c1,hb,hlc,PT⟩:=(h.kept0 hK).at_ k NV
    obtain⟨b',off',rfl,c0',c1',UR,hlc',hcm'⟩:=(h'.kept0 hK).at_ k hlm
    have i1:(k:Int)<l.length:=a?
    have i2:(k:Int)<m.length:=a?
    have OF:l[k]≠m[k]->(l==m)=false:=Ar k NV hlm
    have Oo:l[k]=m[k]->Aside (l.take (k+1)=m.take (k+1)):=fun e=>by
     show _=_
     rw[MI NV,MI hlm,hA.out,e]
    generalize l[k]=a at*
    generalize m[k]=a' at*
    by_cases e1:a.1=a'.1
    .by_cases e2:a.2=a'.2
     .have e3:a=a':=Prod.ext e1 e2
      have HT:=Oo e3
      subst e3
      clear OF Oo e1 e2 hA
      go_wp2_with fail
      go_region
      all_goals go_wp2_with fail
      all_goals go_roundw
      case rel=>exact⟨k+1,a?,j?,HT,hK.drew⟩
      case measure=>simp[intOf];omega
     .have HN:Hid ((l==m)=false):=OF (fun e=>e2 (by rw[e]))
      clear OF Oo hA
      rw[<-e1]at c0'
      clear e1
      exact ado
    .have HN:Hid ((l==m)=false):=OF (fun e=>e1 (by rw[e]))
     clear OF Oo hA
     exact ado
   .obtain rfl:k=l.length:=a?
    have HY:Hid ((l==m)=true):=Hh HQ.out hA.out
    clear hA
    go_wp2_with fail
    go_ret
    exact⟨by rw[HY.out];rfl,hK⟩
 .have hq:((l.length:Int)==(m.length:Int))=false:=e?
  have HN:Hid ((l==m)=false):=yl Pb
  clear Pb
  go_enter func68,ntmps68
  go_wp2_with fail
  go_ret
  exact⟨by rw[HN.out];rfl,NP.refl _ _⟩
def SB.same (a b:SB):Bool:=a.seq==b.seq&&a.sectors==b.sectors&&a.journal==b.journal&&a.used==b.used&&a.size==b.size&&a.runs==b.runs
theorem Hg (a b:Nat):((a:Int)==(b:Int))=(a==b):=by
 rw[Bool.eq_iff_iff,beq_iff_eq,beq_iff_eq];omega
theorem SB.Mm (a b:SB):(((a.seq:Int)==(b.seq:Int))=false/\a.same b=false)\/(((a.seq:Int)==(b.seq:Int))=true/\(a.sectors==b.sectors)=false/\a.same b=false)\/
  (((a.seq:Int)==(b.seq:Int))=true/\(a.sectors==b.sectors)=true/\(a.journal==b.journal)=false/\a.same b=false)\/
  (((a.seq:Int)==(b.seq:Int))=true/\(a.sectors==b.sectors)=true/\(a.journal==b.journal)=true/\(a.used==b.used)=false/\a.same b=false)\/
  (((a.seq:Int)==(b.seq:Int))=true/\(a.sectors==b.sectors)=true/\(a.journal==b.journal)=true/\(a.used==b.used)=true/\(a.size==b.size)=false/\a.same b=false)\/
  (((a.seq:Int)==(b.seq:Int))=true/\(a.sectors==b.sectors)=true/\(a.journal==b.journal)=true/\(a.used==b.used)=true/\(a.size==b.size)=true/\a.same b=(a.runs==b.runs)):=by
 unfold SB.same
 rw[Hg]
 cases a.seq==b.seq<;>cases a.sectors==b.sectors<;>cases a.journal==b.journal<;>cases a.used==b.used<;>cases a.size==b.size<;>simp
theorem KI (a b:SB) (va vb:Value) (lo hi lo' hi':Nat) (w:World) (h:af w va a.runs lo hi) (h':af w vb b.runs lo' hi') (hl:a.runs.length<=1000000) (hm:b.runs.length<=1000000):
  am! 20 #[.agg (a.cells va),.agg (b.cells vb)] w fun e w'=>e=.returned (.bool (a.same b))/\NP [] w w':=by
 have hc:=SB.Mm a b
 have hq:=fun w' (hk:NP [] w w')=>uG va vb a.runs b.runs lo hi lo' hi' w' (h.kept0 hk) (h'.kept0 hk) hl hm
 have HQ:=tK hq
 obtain⟨p,c,rfl⟩:=h.shape
 obtain⟨p',c',rfl⟩:=h'.shape
 clear hq h h'
 have⟨o1,o2⟩:=ch w (a.cells (p,a.runs.length,c)) (b.cells (p',b.runs.length,c')) 58 58
 unfold SB.cells at*
 rcases hc with⟨e1,hx⟩|⟨e1,e2,hx⟩|⟨e1,e2,e3,hx⟩|⟨e1,e2,e3,e4,hx⟩|⟨e1,e2,e3,e4,e5,hx⟩|⟨e1,e2,e3,e4,e5,hx⟩
 case inr.inr.inr.inr.inr=>
  have HX:=tK hx
  clear hx
  go_enter func20,ntmps20
  go_wp2_with fail
  refine(HQ.out _ (((NP.refl _ _).alloc _).alloc _)).mono ?_;rintro e w1 ⟨rfl,hk⟩
  go_wp2_with fail
  go_ret
  exact⟨by rw[HX.out];rfl,(((NP.refl _ _).alloc _).alloc _).trans hk⟩
 all_goals
  have HX:=tK hx
  clear hx
  go_enter func20,ntmps20
  go_wp2_with fail
  go_ret
  exact⟨by rw[HX.out];rfl,((NP.refl _ _).alloc _).alloc _⟩
structure ag where
 kind:Int
 id:Int
 name:List UInt8
 size:Int
 runs:List (Int×Int)
deriving Inhabited
def ag.cells (r:ag) (v:Value):Array Value:=#[r.kind,(r.id,()),r.name,r.size,v]
def S4 (k:Int):Bool:=k==1||k==2||k==4||k==5
def Px (k:Int):Bool:=k==3||k==6
def Oj (k:Int):Bool:=k==1||k==2||k==3
theorem s6 (k:Int):k=1\/k=2\/k=3\/k=4\/k=5\/k=6\/((k==1)=false/\(k==2)=false/\(k==3)=false/\(k==4)=false/\(k==5)=false/\(k==6)=false):=by
 by_cases h1:k=1
 .exact Or.inl h1
 by_cases h2:k=2
 .exact Or.inr (Or.inl h2)
 by_cases h3:k=3
 .exact Or.inr (Or.inr (Or.inl h3))
 by_cases h4:k=4
 .exact Or.inr (Or.inr (Or.inr (Or.inl h4)))
 by_cases h5:k=5
 .exact Or.inr (Or.inr (Or.inr (Or.inr (Or.inl h5))))
 by_cases h6:k=6
 .exact Or.inr (Or.inr (Or.inr (Or.inr (Or.inr (Or.inl h6)))))
 simp[h1,h2,h3,h4,h5,h6]
theorem pJ (k:Int) (w):am! 169 #[k] w fun e w'=>e=.returned (.tuple #[.bool (S4 k),.bool (Px k),.bool (Oj k)])/\w=w':=by
 rcases s6 k with rfl|rfl|rfl|rfl|rfl|rfl|⟨h1,h2,h3,h4,h5,h6⟩
 iterate 6
  .go_enter func169,ntmps169
   go_wp2_with fail
   go_ret3
   exact⟨rfl,rfl⟩
 .have e1:S4 k=false:=by unfold S4;rw[h1,h2,h4,h5];rfl
  have e2:Px k=false:=by unfold Px;rw[h3,h6];rfl
  have e3:Oj k=false:=by unfold Oj;rw[h1,h2,h3];rfl
  rw[e1,e2,e3]
  clear e1 e2 e3
  go_enter func169,ntmps169
  go_wp2_with fail
  go_ret3
  exact⟨rfl,rfl⟩
theorem pq (k:Int) (w):am! 263 #[k] w fun e w'=>e=.returned (.tuple #[.bool (S4 k),.bool (Px k),.bool (Oj k)])/\w=w':=by
 rcases s6 k with rfl|rfl|rfl|rfl|rfl|rfl|⟨h1,h2,h3,h4,h5,h6⟩
 iterate 6
  .go_enter func263,ntmps263
   go_wp2_with fail
   go_ret3
   exact⟨rfl,rfl⟩
 .have e1:S4 k=false:=by unfold S4;rw[h1,h2,h4,h5];rfl
  have e2:Px k=false:=by unfold Px;rw[h3,h6];rfl
  have e3:Oj k=false:=by unfold Oj;rw[h1,h2,h3];rfl
  rw[e1,e2,e3]
  clear e1 e2 e3
  go_enter func263,ntmps263
  go_wp2_with fail
  go_ret3
  exact⟨rfl,rfl⟩
def iD (l:List (Int×Int)) (n:Int):Bool:=decide (l.length<=16)&&(decide (0<=n)&&(decide (n<=1048576)&&(lies 0 8192 l&&(NZ l==On n))))
def lQ (l:List (Int×Int)) (n:Int) (w:World) (e:Ending) (w':World):Prop:=e=.returned (.bool (iD l n))/\NP [] w w'
theorem uQ {n w w'} (h:lies 0 8192 l=false) (hk:NP [] w w'):lQ l n w (.returned false) w':=by
 refine⟨?_,hk⟩
 unfold iD
 rw[h];simp
theorem AM {n w w'} (h0:l.length<=16) (h1:0<=n) (h2:n<=1048576) (h:lies 0 8192 l=true) (hk:NP [] w w'):lQ l n w (.returned (.bool (NZ l==On n))) w':=by
 refine⟨?_,hk⟩
 unfold iD
 rw[h,MV h0,MV h1,MV h2];simp
theorem M81 (h:A:=by
 go_enter func170,ntmps170
 go_wp2_with fail
 go_ret
 exact⟨rfl,NP.refl _ _⟩):A:=h
theorem Ij (v l n lo hi w) (h:af w v l lo hi) (hl:l.length<=1000000) (hn:(Lit.int .i64 n).wf=true):
  am! 170 #[v,n] w (lQ l n w):=by
 obtain⟨p,c,rfl⟩:=h.shape
 have RG:=ko hn
 rcases(by omega:16<l.length\/(l.length<=16/\n<0)\/(l.length<=16/\0<=n/\1048576<n)\/(l.length<=16/\0<=n/\n<=1048576))with b1|⟨b1,b2⟩|⟨b1,b2,b3⟩|⟨b1,b2,b3⟩
 .have e:iD l n=false:=by unfold iD;rw[MS a?];rfl
  unfold lQ
  rw[e]
  have b1':(16:Int)<l.length:=a?
  exact M81
 .have e:iD l n=false:=by unfold iD;rw[MS (by omega:¬0<=n)];simp
  unfold lQ
  rw[e]
  have b1':(l.length:Int)<=16:=a?
  exact M81
 .have e:iD l n=false:=by unfold iD;rw[MS (by omega:¬n<=1048576)];simp
  unfold lQ
  rw[e]
  have b1':(l.length:Int)<=16:=a?
  exact M81
 have b1':(l.length:Int)<=16:=a?
 have HPN:=tK (sP n)
 have HN':=tK hn
 clear hn
 go_enter func170,ntmps170
 go_wp2_with fail
 go_loopw [5,23] (fun a i wr=>∃k:Nat,k<=l.length/\i=(k:Int)/\a=(NZ (l.take k):Int)/\Aside (dP 0 8192 l k=true)/\NP [] w wr) (fun _ i _=>l.length-(intOf i).toNat)
 case atStart=>exact⟨0,a?,rfl,by simp[NZ],rfl,NP.refl _ _⟩
 case round=>
  obtain⟨k,hk,rfl,rfl,hL,hK⟩:=hrel
  by_cases NV:k<l.length
  .obtain⟨b,off,rfl,c0,c1,hb,hlc,PT⟩:=(h.kept0 hK).at_ k NV
   unfold maxLen at PT
   have OF:=ue 0 8192 l k NV
   have P9:Aside (∀m,(l.take m).all (dQ l[k])=true->m=k->iM 0 8192 l[k]=true->dP 0 8192 l (k+1)=true):=fun m h1 h2 h3=>by
    subst h2;rw[iy 0 8192 l m NV,hL.out,h3,h1];rfl
   have Qe:Hid (NZ (l.take (k+1))=NZ (l.take k)+l[k].2):=gH l k NV
   have Tj:=oO (Nat.le_of_lt NV) hL.out a? a?
   have hks:(8192:Int)*k<=8192000000:=a?
   have Rx:=mE l[k] l
   rcases @mv 0 8192 l[k]with⟨h0,UD⟩|⟨h0,g1,g2,g3,g4⟩
   .have HN:Hid (lies 0 8192 l=false):=OF aa!
    clear OF P9 Qe h0 Rx
    generalize l[k]=a at*
    generalize NZ (l.take k)=sm at*
    rcases UD with g1|⟨g1,g2⟩|⟨g1,g2,g3⟩|⟨g1,g2,g3,g4⟩
    all_goals
     go_wp2_with fail
     go_ret
     exact uQ HN.out (hK.alloc _)
   .have TV:Hid ((l.take k).all (dQ l[k])=false->lies 0 8192 l=false):=fun hh=>OF W!
    have⟨H0,HA⟩:=f? h0 Rx
    have Ox:=fun m hm=>kp l[k] l m hm
    have OY:=tK Ox
    have Vr:=fJ (Nat.le_of_lt NV) hL.out
    have QH:=tK Vr
    clear OF h0 Rx Ox Vr
    generalize l[k]=a at*
    generalize NZ (l.take k)=sm at*
    go_wp2_with fail
    obtain⟨wo,rfl⟩:∃wo:World,wo=wr:=⟨_,rfl⟩
    go_loopw [53] (fun i wr=>∃m:Nat,m<=k/\i=(m:Int)/\Aside ((l.take m).all (dQ a)=true)/\NP [] w wr/\ae wr wo #[a.1,a.2] 128) (fun i _=>k-(intOf i).toNat)
    case atStart=>exact⟨0,a?,rfl,rfl,hK.alloc _,ae.new _ _ _⟩
    case round=>
     obtain⟨m,hm,rfl,hAP,QJ,ho⟩:=hrel
     have⟨d0,d1⟩:=ho.c2
     have adg:=ho.lt
     by_cases RO:m<k
     .obtain⟨b',off',WA,e0,e1,Q3,-,-⟩:=(h.kept0 QJ).at_ m a?
      injection WA with WA
      injection WA with hbe1 hbe2 _
      subst hbe1 hbe2
      have hob:=dN.1 (QH.out m RO)
      have Q9:=OY.out m a?
      have TY:=HA.out m k a? RO
      have⟨Xg,YC⟩:=f? Q9 TY
      have hc:= @mD a l[m]
      clear Q9 TY
      generalize l[m]=bb at*
      have⟨q1,q2,q3,q4⟩:=hob
      rcases hc with⟨r0,r1,r2⟩|⟨r0,r1⟩
      .have HN:Hid (lies 0 8192 l=false):=TV.out (YC.out r0)
       clear r0 c0 c1
       go_wp2_with fail
       go_ret
       exact uQ HN.out (QJ.alloc _)
      .have R0:=tK r0
       exact M38
     .have Wc:m=k:=a?
      have HL:Aside (dP 0 8192 l (k+1)=true):=P9.out m hAP.out Wc H0.out
      exact M72
  .obtain rfl:k=l.length:=a?
   have HY:Hid (lies 0 8192 l=true):=hL.out
   have Oy:=fun wx (hk:NP [] w wx)=>AM (n:=n) (w:=w) (w':=wx) b1 b2 b3 HY.out hk
   have Rv:=tK Oy
   rw[MU]
   clear Oy hL
   generalize NZ l=sm at*
   have ad1:=tK (HPN.out wr HN'.out)
   clear HPN
   generalize On n=nd at*
   go_wp2_with fail
   refine ad1.out.mono ?_;rintro e w5 ⟨rfl,rfl⟩
   go_wp2_with fail
   go_ret
   exact Rv.out _ hK
def bo (n:Nat) (j u:Int):Int:=if j<1\/(n:Int)-2<j\/u<0\/128*j<u then 1 else 0
def bA (d:DK) (k:Nat):List UInt8:=((List.range k).map fun i=>seen d (2+i)).flatten
theorem mq (d k):bA d (k+1)=bA d k++seen d (2+k):=by
 unfold bA;rw[List.range_succ,M0,Nv];simp
theorem sG (hf:dS d) (k) (hk:2+k<=d.stand.length):(bA d k).length=128*k:=by
 induction k with
 |zero=>rfl
 |succ k ih=>rw[mq,tN,ih a?,gj hf a?];omega
def Oi (d:DK) (j u:Int):Int:=if bo d.stand.length j u≠0 then 1 else if d.down=true then 90 else 0
def Pq (d:DK) (j u:Int):List UInt8:=if Oi d j u=0 then(bA d (On u).toNat).take u.toNat else[]
theorem jX (h:bo n j u=0):1<=j/\j<=(n:Int)-2/\0<=u/\u<=128*j:=by
 unfold bo at h
 split at h
 .omega
 .omega
theorem DB (h:bo n j u≠0):bo n j u=1:=by
 unfold bo at h ⊢
 by_cases hc:j<1\/(n:Int)-2<j\/u<0\/128*j<u
 .rw[if_pos hc]
 .rw[if_neg hc]at h;exact absurd rfl h
def lO:Nat->DK->Nat->List UInt8->DK×Int
 |0,d,_,_=>(d,0)
 |f+1,d,a,s=>if s=[]then(d,0)else if OW d a (aC s)=0 then lO f (OJ d a (aC s)) (a+1) (s.drop 128)else(OJ d a (aC s),OW d a (aC s))
theorem D2 (f g d a s) (hf:s.length<=f) (hg:s.length<=g):lO f d a s=lO g d a s:=by
 induction f generalizing g d a s with
 |zero=>
  have:s=[]:=Nc a?
  subst this
  cases g with
  |zero=>rfl
  |succ g=>rfl
 |succ f ih=>
  cases g with
  |zero=>
   grind
  |succ g=>
   rw[lO,lO]
   grind
def fW (d:DK) (a:Nat) (s:List UInt8):DK×Int:=lO s.length d a s
theorem BH (d a):fW d a []=(d,0):=rfl
theorem iK {d a s} (hs:s≠[]):fW d a s=if OW d a (aC s)=0 then fW (OJ d a (aC s)) (a+1) (s.drop 128)else(OJ d a (aC s),OW d a (aC s)):=by
 have hl:0<s.length:=Nu.2 hs
 obtain⟨f,hf⟩:∃f,s.length=f+1:=(by simp_all)
 unfold fW
 rw[hf,lO,if_neg hs,D2 f (s.drop 128).length _ _ _ z? (MG _)]
def gq (I N B:Bool) (id:Int) (name:List UInt8) (size:Int) (runs:List (Int×Int)):Bool:=
 (I||N)&&((I==decide (id≠0))&&(decide (id<=4294967294)&&((N== !name.isEmpty)&&(decide (name.length<=48)&&((B||(decide (size=0)&&runs.isEmpty))&&iD runs size)))))
def az (r:ag):Bool:=gq (S4 r.kind) (Px r.kind) (Oj r.kind) r.id r.name r.size r.runs
def ag.fits (r:ag):Prop:=(Lit.int .i64 r.kind).wf=true/\(Lit.int .u32 r.id).wf=true/\r.name.length<=maxLen/\(Lit.int .i64 r.size).wf=true
def mZ (m:Bool) (w:World) (e:Ending) (w':World):Prop:=e=(if m then 0 else 1:Int)/\NP [] w w'
def qd (m:Bool) (w:World) (e:Ending) (w':World):Prop:=e=.returned (.bool m)/\NP [] w w'
theorem eG {n} (h:(Lit.int .u32 n).wf=true):0<=n/\n<=4294967295:=by
 simp only[Lit.wf,No,decide_eq_true_eq]at h
 exact⟨by have:=h.1;exact this,by have:=h.2;exact this⟩
theorem rC:iD [] 0=true:=d?
theorem nF (l):(l=[]/\(bs l).toList.isEmpty=true/\(bs l).toList=[]/\l.length=0)\/(l.isEmpty=false/\(bs l).toList.isEmpty=false/\1<=l.length):=by
 grind [bj]
end
section
section
open Go.Proofs.Tryz Go.RowKit
variable {A:Prop} {Inv:DK->World->Prop} {b r rlo:Nat} {d:DK} {w w':World}
theorem M26 (h:A:=by
 rw[e];clear e
 go_enter func180,ntmps180
 go_wp2_with fail
 refine HD.out.mono ?_;rintro e w' ⟨rfl,rfl⟩
 go_wp2_with fail
 refine HD.out.mono ?_;rintro e w' ⟨rfl,rfl⟩
 go_wp2_with fail
 go_ret
 exact⟨rfl,rfl⟩):A:=h
theorem Dk (O:r7 Inv b) {w d} (h:Inv d w) (j u) (hj:(Lit.int .i64 j).wf=true) (hu:(Lit.int .i64 u).wf=true):
  am! 180 #[b,j,u] w fun e w'=>e=(bo d.stand.length j u:Int)/\w=w':=by
 have⟨n1,n2⟩:=O.len h
 have⟨j1,j2⟩:=ko hj
 have⟨u1,u2⟩:=ko hu
 have hd:=O.lenC h
 generalize d.stand.length=n at*
 have HD:=tK hd
 have g0:((n:Int)==0)=false:=y?
 clear hd hj hu h
 rcases(by omega:j<1\/(1<=j/\(n:Int)-2<j)\/(1<=j/\j<=(n:Int)-2/\u<0)\/(1<=j/\j<=(n:Int)-2/\0<=u/\128*j<u)\/(1<=j/\j<=(n:Int)-2/\0<=u/\u<=128*j))with c1|⟨c1,c2⟩|⟨c1,c2,c3⟩|⟨c1,c2,c3,c4⟩|⟨c1,c2,c3,c4⟩
 .have e:bo n j u=1:=by unfold bo;rw[if_pos a?]
  rw[e];clear e
  go_enter func180,ntmps180
  go_wp2_with fail
  refine HD.out.mono ?_;rintro e w' ⟨rfl,rfl⟩
  go_wp2_with fail
  go_ret
  exact⟨rfl,rfl⟩
 .have e:bo n j u=1:=by unfold bo;rw[if_pos a?]
  exact M26
 .have e:bo n j u=1:=by unfold bo;rw[if_pos a?]
  exact M26
 .have e:bo n j u=1:=by unfold bo;rw[if_pos a?]
  have hm:j*128<u:=a?
  have QL:j*128<=2000000:=a?
  have hm3:0<=j*128:=a?
  exact M26
 .have e:bo n j u=0:=by unfold bo;rw[if_neg a?]
  have hm:u<=j*128:=a?
  have QL:j*128<=2000000:=a?
  have hm3:0<=j*128:=a?
  exact M26
def KH:Value->Nat
 |.string x=>x.size
 |_=>0
def Oa (d:DK) (j u:Int) (s:List UInt8):DK×Int:=
 if bo d.stand.length j u≠0 then(d,1)else if 128*j-u<s.length then(d,100)else if d.down=true then(d,90)else if s=[]then(d,0)else fW d (2+u.toNat/128) ((seen d (2+u.toNat/128)).take (u.toNat%128)++s)
def jb (d:DK) (j u:Int) (s:List UInt8):Int:=if(Oa d j u s).2=0 then u+s.length else 0
def uv (Inv:DK->World->Prop) (d:DK) (j u:Int) (s:List UInt8) (_:World) (e:Ending) (w':World):Prop:=
 e=.returned (.tuple #[(jb d j u s:Int),.int .i64 (Oa d j u s).2])/\Inv (Oa d j u s).1 w'
theorem gz {d' j u s C n} (h:Oa d j u s=(d',C)) (hn:n=if C=0 then u+s.length else 0) (hI:Inv d' w'):uv Inv d j u s w (.returned (.tuple #[n,C])) w':=by
 unfold uv jb
 rw[h,hn]
 exact⟨rfl,hI⟩
theorem M99 (h:A:=by
 go_enter func109,ntmps109
 go_wp2_with fail
 refine HF.out.mono ?_;rintro e w' ⟨rfl,rfl⟩
 go_wp2_with fail
 go_ret2
 exact HR.out):A:=h
theorem M76 {A:Prop}(h:A:=by
 rw[if_neg hC]at UG
 have hr:=gz (Inv:=Inv) (w:=w) (n:=0) (SG.out.trans UG.symm) (by rw[if_neg hC]) hI3
 have HR:=tK hr
 clear UG hr hI3 HAA
 go_wp2_with fail
 go_ret2
 exact HR.out):A:=h
theorem M61 (h:A:=by
 have HR:=tK hr
 clear hr hc h R9 hd RP
 go_enter func109,ntmps109
 go_wp2_with fail
 refine HF.out.mono ?_;rintro e w' ⟨rfl,rfl⟩
 go_wp2_with fail
 refine HD.out.mono ?_;rintro e w' ⟨rfl,rfl⟩
 go_wp2_with fail
 go_ret2
 exact HR.out):A:=h
theorem Im (O:r7 Inv b) {w:World} {d:DK} (h:Inv d w) (j u:Int) (s:List UInt8) (hj:(Lit.int .i64 j).wf=true) (hu:(Lit.int .i64 u).wf=true) (hs:s.length<=4000) (ho:d.ops<=40000) (hw:d.waits.length<=5000):
  am! 109 #[b,j,u,s] w (uv Inv d j u s w):=by
 have hf:=Dk O h j u hj hu
 have PW:(bs s).size=s.length:=NQ s
 by_cases hc:bo d.stand.length j u=0
 .have⟨c1,c2,c3,c4⟩:=jX hc
  have⟨n1,n2⟩:=O.len h
  have QL:j*128<=2000000:=a?
  have hm3:0<=j*128:=a?
  have hs':(s.length:Int)<=4000:=a?
  rw[hc]at hf
  have HF:=tK hf
  clear hf hj hu
  by_cases R9:128*j-u<s.length
  .have hr:=gz (Inv:=Inv) (w:=w) (n:=0) (show Oa d j u s=(d,100)by unfold Oa;rw[if_neg a?,if_pos R9]) X! h
   have HR:=tK hr
   have Ug:j*128-u<s.length:=a?
   clear hr hc h R9
   exact M99
  .have Ug:(s.length:Int)<=j*128-u:=a?
   have hd:=O.downC h
   cases RP:d.down
   .rw[RP]at hd
    have HD:=tK hd
    rcases nF s with⟨m1,m2,m3,m4⟩|⟨m1,m2,m3⟩
    .subst m1
     have hr:=gz (Inv:=Inv) (w:=w) (n:=u) (show Oa d j u []=(d,0)by unfold Oa;rw[if_neg a?,if_neg R9,if_neg (by rw[RP];simp),if_pos rfl]) b? h
     exact M61
    .obtain⟨un,rfl⟩:=MM c3
     have hq:(un:Int)/128=((un/128:Nat):Int):=a?
     have hrm:(un:Int)%128=((un%128:Nat):Int):=a?
     have Rm:2+un/128<d.stand.length:=a?
     have QQ:=O.readC (2+((un/128:Nat):Int)) h
     have e1:OM d (2+((un/128:Nat):Int))=0:=by unfold OM;rw[RP,if_neg b?,if_neg a?]
     have e2:Pc d (2+((un/128:Nat):Int))=seen d (2+un/128):=by
      unfold Pc
      rw[if_pos e1]
      congr 1
     rw[e1,e2]at QQ
     have PX:=gj (O.fit h) Rm
     have hR:Oa d j un s=fW d (2+un/128) ((seen d (2+un/128)).take (un%128)++s):=by
      unfold Oa
      rw[if_neg a?,if_neg R9,if_neg (by rw[RP];simp),if_neg (by intro e;rw[e]at m3;simp at m3),Nw]
     have hex:Hid ((bs (seen d (2+un/128))).extract 0 (un%128)++bs s=bs ((seen d (2+un/128)).take (un%128)++s)):=by
      show _=_;rw[aY,aw];simp
     have P3:((seen d (2+un/128)).take (un%128)++s).length<=4128:=by
      rw[tN]
      have:=List.length_take_le (un%128) (seen d (2+un/128))
      omega
     have afq:((bs (seen d (2+un/128))).extract 0 (un%128)).size<=128:=k!
     have y0:(bs (seen d (2+un/128))).size=128:=by rw[NQ,PX]
     have y3:un%128<128:=Nat.mod_lt _ a?
     have⟨TC,SG,HI⟩:=gg! QQ hR h
     have hau:2+un/128<=8192:=a?
     clear QQ e1 e2 PX hR hc h R9 hd RP Rm
     generalize (seen d (2+un/128)).take (un%128)++s=R0 at*
     generalize bs (seen d (2+un/128))=SE at*
     generalize un%128=um at*
     generalize un/128=ud at*
     have i1:(um:Int)<128:=a?
     have i2:(ud:Int)<=8192:=a?
     have i3:(um:Int)<=SE.size:=a?
     have yy:(SE.extract 0 um++bs s).size=(SE.extract 0 um).size+(bs s).size:=ByteArray.size_append
     have hdd:decide (j*128-(un:Int)<(s.length:Int))=false:=MS a?
     go_enter func109,ntmps109
     go_wp2_with fail
     refine HF.out.mono ?_;rintro e w' ⟨rfl,rfl⟩
     go_wp2_with fail
     refine HD.out.mono ?_;rintro e w' ⟨rfl,rfl⟩
     go_wp2_with fail
     refine TC.out.mono ?_;rintro e w' ⟨rfl,rfl⟩
     go_wp2_with fail
     go_loopw [11,14] (fun a t wr=>∃(d':DK) (a':Nat) (rs:List UInt8),a=(a':Int)/\t=rs/\Inv d' wr/\fW d' a' rs=fW d (2+ud) R0/\a'+rs.length<=20000/\d'.ops+rs.length<=60000/\d'.waits.length+rs.length<=10000/\rs.length<=4128) (fun _ t _=>KH t)
     case atStart=>exact⟨d,2+ud,R0,j?,congrArg Value.string hex.out,HI.out,rfl,a?,a?,a?,P3⟩
     case round=>
      obtain⟨d',a',rs,rfl,rfl,hI,hA,b1,b2,b3,b4⟩:=hrel
      have hzr:(bs rs).size=rs.length:=NQ rs
      rcases nF rs with⟨q1,q2,q3,q4⟩|⟨q1,q2,q3⟩
      .subst q1
       rw[BH]at hA
       have hr:=gz (Inv:=Inv) (w:=w) (n:=(un:Int)+s.length) (SG.out.trans hA.symm) b? hI
       have HR:=tK hr
       clear hr hA hI
       go_wp2_with fail
       go_ret2
       exact HR.out
      .have Pb:rs≠[]:=by intro e;rw[e]at q3;simp at q3
       rw[iK Pb]at hA
       have Qg:=mi rs
       have Sr:=fun W (k:NP [] wr W)=>O.writeC (a':Int) (aC rs) (O.keep hI k) a? a?
       have aab:=fy d' (a':Int) (aC rs)
       have⟨HW,Wi,HAA⟩:=gg! Sr aab hA
       clear Sr aab hA hI Pb Qg
       generalize OW d' (a':Int) (aC rs)=C at*
       generalize OJ d' (a':Int) (aC rs)=dn at*
       rcases(by omega:rs.length<=128\/128<rs.length)with g1|g1
       .have ZX:min (rs.length:Int) 128=rs.length:=a?
        have Wl:=fun W=>lz ((bs rs).extract 0 rs.length) 128 W k! a?
        have Zu:Pg ((bs rs).extract 0 rs.length).data.toList 128=aC rs:=by
         rw[aY,cC];unfold aC
         rw[Nh g1];simp
        rw[Zu]at Wl
        have HPF:=tK Wl
        have YE:Hid (ByteArray.empty=bs (rs.drop 128)):=by
         show _=_;rw[List.drop_of_length_le g1];rfl
        clear Wl Zu
        have g2:(rs.length:Int)<=128:=a?
        go_wp2_with fail
        refine(HPF.out _).mono ?_;rintro e w2 ⟨rfl,k2⟩
        go_wp2_with fail
        refine(HW.out _ k2).mono ?_;rintro e w3 ⟨rfl,hI3⟩
        by_cases hC:C=0
        .subst hC
         have UG:=HAA.out
         rw[if_pos rfl]at UG
         have⟨V9,HI3⟩:=f? UG hI3
         clear UG hI3 HAA
         go_wp2_with fail
         go_roundw
         case rel=>(try rw[hrm]);((repeat apply Exists.intro);refine⟨?_,rfl⟩;exact⟨dn,a'+1,rs.drop 128,congrArg (Value.int .i64) a?,congrArg Value.string YE.out,HI3.out,V9.out,by rw[MQ];omega,by have:=Wi.out;rw[MQ];omega,by have:=Wi.out;rw[MQ];omega,by rw[MQ];omega⟩)
         case measure=>(show ByteArray.empty.size<(bs rs).size;rw[NQ];show 0<rs.length;omega)
        .have UG:=HAA.out
         exact M76
       .have ZX:min (rs.length:Int) 128=128:=a?
        have Wl:=fun W=>lz ((bs rs).extract 0 128) 128 W k! a?
        have Zu:Pg ((bs rs).extract 0 128).data.toList 128=aC rs:=by
         rw[aY,cC];unfold aC
         simp
        rw[Zu]at Wl
        have HPF:=tK Wl
        have YE:Hid ((bs rs).extract 128 rs.length=bs (rs.drop 128)):=by
         show _=_;rw[aY,Nh z?]
        clear Wl Zu
        have g2:(128:Int)<rs.length:=a?
        go_wp2_with fail
        refine(HPF.out _).mono ?_;rintro e w2 ⟨rfl,k2⟩
        go_wp2_with fail
        refine(HW.out _ k2).mono ?_;rintro e w3 ⟨rfl,hI3⟩
        by_cases hC:C=0
        .subst hC
         have UG:=HAA.out
         rw[if_pos rfl]at UG
         have⟨V9,HI3⟩:=f? UG hI3
         clear UG hI3 HAA
         go_wp2_with fail
         go_roundw
         case rel=>(try rw[hrm]);((repeat apply Exists.intro);refine⟨?_,rfl⟩;exact⟨dn,a'+1,rs.drop 128,congrArg (Value.int .i64) a?,congrArg Value.string YE.out,HI3.out,V9.out,by rw[MQ];omega,by have:=Wi.out;rw[MQ];omega,by have:=Wi.out;rw[MQ];omega,by rw[MQ];omega⟩)
         case measure=>(show((bs rs).extract 128 rs.length).size<(bs rs).size;rw[YE.out,NQ,NQ,MQ];omega)
        .have UG:=HAA.out
         exact M76
   .rw[RP]at hd
    have HD:=tK hd
    have hr:=gz (Inv:=Inv) (w:=w) (n:=0) (show Oa d j u s=(d,90)by unfold Oa;rw[if_neg a?,if_neg R9,if_pos RP]) X! h
    exact M61
 .have RU:=DB hc
  have hr:=gz (Inv:=Inv) (w:=w) (n:=0) (show Oa d j u s=(d,1)by unfold Oa;rw[if_pos hc]) X! h
  rw[RU]at hf
  have⟨HF,HR⟩:=f? hf hr
  clear hf hr hc RU h hj hu
  exact M99
theorem adr {A:Prop}(h:A:=by
 generalize bs (bA d k)=S0 at*
 go_wp2_with fail
 go_ret2
 exact⟨by rw[<-hex.out];rfl,rfl⟩):A:=h
theorem M94 {A:Prop}(h:A:=by
 have e:OM d (2+(k:Int))=0:=by
  unfold OM
  rw[RP,if_neg b?,if_neg a?]
 refine⟨?_,e⟩
 unfold Pc
 rw[if_pos e]
 congr 1):A:=h
theorem M48 {A:Prop}(h:A:=by
 have Of:=tK NV
 clear hrk ZT XD
 generalize bs (seen d (2+k))=S1 at*
 generalize bs (bA d k)=S0 at*
 go_wp2_with fail
 refine HRK.out.mono ?_;rintro e w' ⟨rfl,rfl⟩
 go_wp2_with fail
 go_round
 case rel=>exact⟨k+1,Of.out,j?,by rw[<-Tz.out]⟩
 case measure=>(have hh:=Of.out;simp[intOf];omega)):A:=h
theorem JV (O:r7 Inv b) {w d} (h:Inv d w) (j u) (hj:(Lit.int .i64 j).wf=true) (hu:(Lit.int .i64 u).wf=true):
  am! 123 #[b,j,u] w fun e w'=>e=.returned (.tuple #[.string (bs (Pq d j u)),(Oi d j u:Int)])/\w=w':=by
 have hf:=Dk O h j u hj hu
 by_cases hc:bo d.stand.length j u=0
 .have⟨c1,c2,c3,c4⟩:=jX hc
  have⟨n1,n2⟩:=O.len h
  have hd:=O.downC h
  rw[hc]at hf
  cases RP:d.down
  .have el:Oi d j u=0:=by unfold Oi;rw[if_neg a?,if_neg (by rw[RP];simp)]
   have es:Pq d j u=(bA d (On u).toNat).take u.toNat:=by unfold Pq;rw[if_pos el]
   rw[el,es]
   rw[RP]at hd
   have hn:=sP u w hu
   have QQ:=fun(k:Nat) (hk:2+k<d.stand.length)=>O.readC (2+(k:Int)) h
   have Rm:∀k:Nat,2+k<d.stand.length->Pc d (2+(k:Int))=seen d (2+k)/\OM d (2+(k:Int))=0:=fun k hk=>by
    exact M94
   have Zf:∀k:Nat,2+k<d.stand.length->am! 62 #[b,(2+(k:Int):Int)] w fun e w'=>e=.returned (.tuple #[.string (bs (seen d (2+k))),(0:Int)])/\w=w':=fun k hk=>by
    have h1:=QQ k hk
    rw[(Rm k hk).1,(Rm k hk).2]at h1
    exact h1
   have hln:∀k:Nat,2+k<=d.stand.length->(bA d k).length=128*k:=fun k hk=>sG (O.fit h) k hk
   have PX:∀k:Nat,2+k<d.stand.length->(seen d (2+k)).length=128:=fun k hk=>gj (O.fit h) hk
   have hnd:0<=On u/\On u+2<=d.stand.length/\u<=128*On u:=by
    unfold On
    split
    .omega
    .omega
   have⟨nd,Xx⟩:=MM hnd.1
   obtain⟨un,rfl⟩:=MM c3
   rw[Xx]at hn hnd ⊢
   have⟨_,hnd2,hnd3⟩:=hnd
   rw[Nw,Nw]
   have⟨HF,HD,HN,HR,HL,HS⟩:=gj! hf hd hn Zf hln PX
   clear hf hd hn QQ Zf hln PX Rm el es RP hc h Xx
   generalize d.stand.length=n at*
   go_enter func123,ntmps123
   go_wp2_with fail
   refine HF.out.mono ?_;rintro e w' ⟨rfl,rfl⟩
   go_wp2_with fail
   refine HD.out.mono ?_;rintro e w' ⟨rfl,rfl⟩
   go_wp2_with fail
   refine HN.out.mono ?_;rintro e w' ⟨rfl,rfl⟩
   go_wp2_with fail
   go_loop [9,24] (fun t i=>∃k:Nat,k<=nd/\i=(k:Int)/\t=.string (bs (bA d k))) (fun _ i=>nd-(intOf i).toNat)
   case atStart=>exact⟨0,a?,rfl,rfl⟩
   case round=>
    obtain⟨k,hk,rfl,rfl⟩:=hrel
    have XD:=HL.out k a?
    by_cases NV:k<nd
    .have hrk:=HR.out k a?
     have ZT:=HS.out k a?
     have HRK:=tK hrk
     have Tz:Hid (bs (bA d k)++bs (seen d (2+k))=bs (bA d (k+1))):=by show _=_;rw[aw,mq]
     have y0:(bs (bA d k)).size<=2000000:=by rw[NQ,XD];omega
     have y1:(bs (seen d (2+k))).size=128:=by rw[NQ,ZT]
     have yy:(bs (bA d k)++bs (seen d (2+k))).size=(bs (bA d k)).size+(bs (seen d (2+k))).size:=ByteArray.size_append
     have i1:(k:Int)<nd:=a?
     have i2:(nd:Int)<=8192:=a?
     exact M48
    .obtain rfl:k=nd:=a?
     have hex:Hid ((bs (bA d k)).extract 0 un=bs ((bA d k).take un)):=by show _=_;rw[aY];simp
     have y0:(bs (bA d k)).size=128*k:=by rw[NQ,XD]
     have y1:un<=(bs (bA d k)).size:=a?
     have y2:(un:Int)<=(bs (bA d k)).size:=a?
     have y3:(0:Int)<=un:=a?
     exact adr
  .have el:Oi d j u=90:=by unfold Oi;rw[if_neg a?,if_pos RP]
   have es:Pq d j u=[]:=by unfold Pq;rw[if_neg a?]
   rw[el,es]
   rw[RP]at hd
   have⟨HF,HD⟩:=f? hf hd
   clear hf hd el es hc h
   go_enter func123,ntmps123
   go_wp2_with fail
   refine HF.out.mono ?_;rintro e w' ⟨rfl,rfl⟩
   go_wp2_with fail
   refine HD.out.mono ?_;rintro e w' ⟨rfl,rfl⟩
   go_wp2_with fail
   go_ret2
   exact⟨rfl,rfl⟩
 .have RU:=DB hc
  have el:Oi d j u=1:=by unfold Oi;rw[if_pos hc]
  have es:Pq d j u=[]:=by unfold Pq;rw[if_neg a?]
  rw[el,es]
  rw[RU]at hf
  have HF:=tK hf
  clear hf el es hc RU h
  go_enter func123,ntmps123
  go_wp2_with fail
  refine HF.out.mono ?_;rintro e w' ⟨rfl,rfl⟩
  go_wp2_with fail
  go_ret2
  exact⟨rfl,rfl⟩
theorem KY (O:Gp Inv r) {w d} (h:Inv d w) (j u) (hc:bo d.stand.length j u=0):
  am! 131 #[r,u] w fun e w'=>e=.returned (.tuple #[.string (bs (Pq d j u)),(Oi d j u:Int)])/\w=w':=by
 have⟨c1,c2,c3,c4⟩:=jX hc
 have⟨n1,n2⟩:=O.len h
 have hd:=O.down h
 cases RP:d.down
 .have el:Oi d j u=0:=by unfold Oi;rw[if_neg a?,if_neg (by rw[RP];simp)]
  have es:Pq d j u=(bA d (On u).toNat).take u.toNat:=by unfold Pq;rw[if_pos el]
  rw[el,es]
  rw[RP]at hd
  have QQ:=fun(k:Nat) (hk:2+k<d.stand.length)=>O.readC (2+(k:Int)) h
  have Rm:∀k:Nat,2+k<d.stand.length->Pc d (2+(k:Int))=seen d (2+k)/\OM d (2+(k:Int))=0:=fun k hk=>by
   exact M94
  have Zf:∀k:Nat,2+k<d.stand.length->am! 128 #[r,(2+(k:Int):Int)] w fun e w'=>e=.returned (.tuple #[.string (bs (seen d (2+k))),(0:Int)])/\w=w':=fun k hk=>by
   have h1:=QQ k hk
   rw[(Rm k hk).1,(Rm k hk).2]at h1
   exact h1
  have hln:∀k:Nat,2+k<=d.stand.length->(bA d k).length=128*k:=fun k hk=>sG (O.fit h) k hk
  have PX:∀k:Nat,2+k<d.stand.length->(seen d (2+k)).length=128:=fun k hk=>gj (O.fit h) hk
  have hnd:0<=On u/\On u+2<=d.stand.length/\u<=128*On u/\128*On u<u+128:=by
   unfold On
   split
   .omega
   .omega
  have⟨nd,Xx⟩:=MM hnd.1
  obtain⟨un,rfl⟩:=MM c3
  rw[Xx]at hnd ⊢
  have⟨_,hnd2,hnd3,hnd4⟩:=hnd
  rw[Nw,Nw]
  have⟨HR,HL,HS⟩:=gg! Zf hln PX
  clear QQ Zf hln PX Rm el es RP hc h Xx
  generalize d.stand.length=n at*
  go_enter func131,ntmps131
  go_wp2_with fail
  go_loop [6,7] (fun t i=>∃k:Nat,k<=nd/\i=(k:Int)/\t=.string (bs (bA d k))) (fun _ i=>nd-(intOf i).toNat)
  case atStart=>exact⟨0,a?,rfl,rfl⟩
  case round=>
   obtain⟨k,hk,rfl,rfl⟩:=hrel
   have XD:=HL.out k a?
   by_cases NV:k<nd
   .have hrk:=HR.out k a?
    have ZT:=HS.out k a?
    have HRK:=tK hrk
    have Tz:Hid (bs (bA d k)++bs (seen d (2+k))=bs (bA d (k+1))):=by show _=_;rw[aw,mq]
    have y0:(bs (bA d k)).size<=2000000:=by rw[NQ,XD];omega
    have y1:(bs (seen d (2+k))).size=128:=by rw[NQ,ZT]
    have yy:(bs (bA d k)++bs (seen d (2+k))).size=(bs (bA d k)).size+(bs (seen d (2+k))).size:=ByteArray.size_append
    have i1:(k:Int)*128<un:=a?
    have i2:(nd:Int)<=8192:=a?
    have i3:(k:Int)<8192:=a?
    exact M48
   .obtain rfl:k=nd:=a?
    have hex:Hid ((bs (bA d k)).extract 0 un=bs ((bA d k).take un)):=by show _=_;rw[aY];simp
    have y0:(bs (bA d k)).size=128*k:=by rw[NQ,XD]
    have y1:un<=(bs (bA d k)).size:=a?
    have y2:(un:Int)<=(bs (bA d k)).size:=a?
    have y3:(0:Int)<=un:=a?
    have i1:(un:Int)<=(k:Int)*128:=a?
    have i3:(k:Int)<=8192:=a?
    exact adr
 .have el:Oi d j u=90:=by unfold Oi;rw[if_neg a?,if_pos RP]
  have es:Pq d j u=[]:=by unfold Pq;rw[if_neg a?]
  rw[el,es]
  rw[RP]at hd
  clear el es hc h
  go_enter func131,ntmps131
  go_wp2_with fail
  go_ret2
  exact⟨rfl,rfl⟩
structure QA (w:World) (r rlo:Nat) (d:DK):Prop where
 ref:eK w r rlo d
 fit:dS d
theorem QA.aJ (h:QA w r rlo d) (k:NP [] w w'):QA w' r rlo d:=⟨h.ref.kept0 k,h.fit⟩
theorem QA.lt (h:QA w r rlo d):r<w.heap.size:=by
 have⟨_,_,o⟩:=h.ref.own
 exact o.lt
theorem QA.read (h:QA w r rlo d) (i:Int):am! 128 #[r,i] w fun e w'=>e=.returned (.tuple #[.string (bs (Pc d i)),(OM d i:Int)])/\w=w':=by
 unfold Pc
 by_cases h0:OM d i=0
 .have⟨h1,h2,h3⟩:=dh h0
  obtain⟨n,rfl⟩:=MM h2
  rw[if_pos h0,h0,Nw]
  exact Lc r rlo d n w h.ref h1 a?
 .rw[if_neg h0]
  exact EJ r rlo d i w h.ref h0
theorem QA.write (h:QA w r rlo d) (i:Int) (s:List UInt8) (ho:d.ops<100000) (hw:d.waits.length<20000):
  am! 140 #[r,i,s] w fun e w'=>e=(OW d i s:Int)/\QA w' r rlo (OJ d i s)/\NP [r] w w':=by
 by_cases hz:OM d i=0
 .by_cases hs:s.length=128
  .have⟨h1,h2,h3⟩:=dh hz
   obtain⟨n,rfl⟩:=MM h2
   have e1:OJ d (n:Int) s=cW d n s:=by unfold OJ;rw[if_pos ⟨hz,hs⟩];rfl
   have e2:OW d (n:Int) s=if d.fuse=0 then 90 else 0:=by unfold OW;rw[if_neg a?,if_neg a?]
   have hf:=h.fit.write (n:Int) s
   rw[e1]at hf ⊢
   rw[e2]
   exact(JH r rlo d n s w h.ref h1 a? hs ho hw).mono fun e w' ⟨h4,h5,h6⟩=>⟨h4,⟨h5,hf⟩,h6⟩
  .have e1:OJ d i s=d:=by unfold OJ;rw[if_neg (fun hh=>hs hh.2)]
   have e2:OW d i s=1:=by unfold OW;rw[if_neg a?,if_pos hs]
   rw[e1,e2]
   exact(AI r rlo d i (bs s) w h.ref hz (by rw[NQ];exact hs)).mono fun e w' ⟨h4,h5⟩=>⟨h4,by subst h5;exact h,by subst h5;exact NP.refl _ _⟩
 .have e1:OJ d i s=d:=by unfold OJ;rw[if_neg (fun hh=>hz hh.1)]
  have e2:OW d i s=OM d i:=by unfold OW;rw[if_pos hz]
  rw[e1,e2]
  exact(Cz r rlo d i (bs s) w h.ref hz).mono fun e w' ⟨h4,h5⟩=>⟨h4,by subst h5;exact h,by subst h5;exact NP.refl _ _⟩
theorem QA.image (h:QA w r rlo d):am! 136 #[r] w fun e w'=>e=.returned d.stand.flatten/\w=w':=
 JI r rlo d w h.ref (fun s hs=>Nat.le_of_eq (h.fit.all s hs))
def Gq (w0:World) (r rlo:Nat) (d:DK) (w:World):Prop:=QA w r rlo d/\NP [r] w0 w
theorem QA.JE (h:QA w r rlo d):Gq w r rlo d w:=⟨h,NP.refl _ _⟩
theorem zi (w0 r rlo):Gp (Gq w0 r rlo) r where
 len:=fun h=>h.1.ref.lens
 fit:=fun h=>h.1.fit
 keep:=fun h k=>⟨h.1.aJ k,h.2.trans (k.mono b?)⟩
 down:=fun h=>h.1.ref.Lt
 readC:=fun i h=>h.1.read i
 writeC:=fun i s h ho hw=>(h.1.write i s ho hw).mono fun e w' hh=>⟨hh.1,hh.2.1,h.2.trans hh.2.2⟩
theorem La {w0 d0} (h0:QA w0 r rlo d0):GP (Gq w0 r rlo) r w0 where
 ops:=zi w0 r rlo
 stands:=fun h=>by have⟨p,c,p',c',e0,_⟩:=h.1.ref.mz;exact⟨p,c,e0⟩
 writeB:=fun i s h ho hw=>(h.1.write i s ho hw).mono fun e w' hh=>⟨hh.1,⟨hh.2.1,h.2.trans hh.2.2⟩,(hh.2.2.both (b:=r) (sb:=r) (mb:=r) (lo:=0)).j9 h0.lt h0.lt h0.lt h0.lt⟩
theorem Lb (v l size PU PC) {w r rlo d} (hD:QA w r rlo d) (h:af w v l PU PC) (hl:l.length<=1000000) (Pj:∀a∈l,aQ a) (PW:(Lit.int .i64 size).wf=true):
  am! 152 #[r,v,size] w fun e w'=>e=.returned (.tuple #[.string (bs (PV d l size)),(N7 d l size:Int)])/\NP [] w w':=
 Mh (La hD) d v l size PU PC w hD.JE h hl Pj PW
theorem JD (j u) {w r rlo d} (hD:QA w r rlo d) (hc:bo d.stand.length j u=0):
  am! 131 #[r,u] w fun e w'=>e=.returned (.tuple #[.string (bs (Pq d j u)),(Oi d j u:Int)])/\w=w':=
 KY (zi w r rlo) hD.JE j u hc
end
open Go.Proofs.Tryz Go.RowKit Go.Maps
variable {w w':World} {b sb lo:Nat} {T S:List Nat} {d:DK}
def WB (w:World) (b k:Nat):Prop:=∃v,w.cell? (aa b 1)=some v/\v.ownBlock=some k
structure PK (T:List Nat) (b sb mb:Nat) (w w':World):Prop where
 os:w'.os=w.os
 tape:w'.tape=w.tape
 output:w'.output=w.output
 size:w.heap.size<=w'.heap.size
 block:∀k,k<w.heap.size->k∉T->k≠b->k≠sb->k≠mb->¬WB w b k->w'.heap[k]? =w.heap[k]?
 wb:∀k,WB w' b k->WB w b k\/w.heap.size<=k
theorem WB.iw {k} (h:w'.cell? (aa b 1)=w.cell? (aa b 1)):WB w' b k↔WB w b k:=by unfold WB;rw[h]
theorem PK.refl (T b sb mb w):PK T b sb mb w w:=⟨rfl,rfl,rfl,MG _,fun _ _ _ _ _ _ _=>rfl,fun _ h=>Or.inl h⟩
theorem PK.trans {mb a} (h:PK T b sb mb a w) (k:PK T b sb mb w w'):PK T b sb mb a w':=by
 refine⟨k.os.trans h.os,k.tape.trans h.tape,k.output.trans h.output,Nk h.size k.size,fun i hi h1 h2 h3 h4 h5=>?_,fun i hi=>?_⟩
 .rw[k.block i (MR hi h.size) h1 h2 h3 h4 (fun hw=>by
   rcases h.wb i hw with h6|h6
   .exact h5 h6
   .omega)]
  exact h.block i hi h1 h2 h3 h4 h5
 .rcases k.wb i hi with h6|h6
  .exact h.wb i h6
  .exact Or.inr (Nk h.size h6)
theorem PK.mono {mb} (h:PK S b sb mb w w') (hST:∀x∈S,x∈T):PK T b sb mb w w':=
 ⟨h.os,h.tape,h.output,h.size,fun k hk h1=>h.block k hk (fun h2=>h1 (hST k h2)),h.wb⟩
theorem NP.pk {mb} (h:NP S w w') (hb:b<w.heap.size) (hS:∀x∈S,x≠b/\(x∈T\/w.heap.size<=x)):PK T b sb mb w w':=
 ⟨h.os,h.tape,h.output,h.size,fun k hk h1 _ _ _ _=>h.block k hk (fun hx=>by
  rcases(hS k hx).2 with h2|h2
  .exact h1 h2
  .omega),fun k hk=>Or.inl ((WB.iw (h.cell (a:=(aa b 1)) hb (fun hx=>(hS b hx).1 rfl))).1 hk)⟩
theorem NP.eH {mb} (h:NP [] w w') (hb:b<w.heap.size):PK T b sb mb w w':=h.pk hb (fun x hx=>by cases hx)
theorem PK.kept {mb} (h:PK T b sb mb w w') (B) (hB:B<=w.heap.size) (h1:∀x∈T,B<=x) (h2:B<=b) (h3:B<=sb) (h4:B<=mb) (h5:∀k,WB w b k->B<=k):Below B w w':=
 ⟨h.os,h.tape,h.output,h.size,fun k hk=>h.block k a? (fun hx=>by have:=h1 k hx;omega) a? a? a? (fun hx=>by have:=h5 k hx;omega)⟩
theorem aD.bH {mb} (h:aD w b sb mb lo d):b<w.heap.size:=by have⟨_,_,o,_⟩:=h;exact o.lt
theorem aD.wb {mb} (h:aD w b sb mb lo d) {k} (hk:WB w b k):lo<=k/\∃cs,w.heap[k]? =some (.cells cs 206 (0,0)):=by
 have⟨wv,n,o,os,hw,_⟩:=h
 have⟨v,h1,h2⟩:=hk
 have h3:=o.cell 1 b?
 rw[h1]at h3
 have e:v=wv:=by injection h3
 subst e
 rcases hw.2 with⟨rfl,_⟩|⟨g',cap,cur,rfl,hge,hh,_⟩
 .simp[Value.ownBlock]at h2
 .have e1:g'=k:=by simpa[Value.ownBlock]using h2
  subst e1
  exact⟨hge,cur,hh⟩
theorem PK.Lu {mb} (h:PK [] b sb mb w w') (hD:aD w b sb mb lo d):BK b sb mb lo w w':=
 ⟨h.os,h.tape,h.output,h.size,fun k hk h1 h2 h3 h4=>h.block k hk b? h1 h2 h3 (fun hx=>by
  have⟨h5,cs,h6⟩:=hD.wb hx
  rcases h4 with h4|h4
  .omega
  .exact h4 cs _ h6)⟩
theorem pP (b sb mb lo d w) (h:aD w b sb mb lo d) (ho:d.ops<100000):am! 90 #[b] w fun e w'=>e=.returned (.bool (decide (d.fuse=0)))/\aD w' b sb mb lo (dq d)/\NP [b] w w'/\w'.cell? (aa b 1)=w.cell? (aa b 1):=by
 have hn:=fun(d':DK) (w':World) (k:NP [b] w w')=>aD.nums (d':=d') h k
 have HN:=tK hn
 clear hn
 have⟨wv,n,o,os,hw,hm,g1,g2,g3,g4,g5,g6,g7,g8,g9,g10,g11⟩:=h
 obtain⟨p,c,rfl⟩:=ah hw
 have⟨c0,c1,c2,c3,c4,c5⟩:=o.c6
 have z:=o.z6
 clear os hw hm
 have⟨st,wa,fu,op,dn⟩:=d
 simp only at*
 obtain⟨q,hq⟩:∃q,q=op+1:=⟨_,rfl⟩
 have Sq:((op:Int)+1)=(q:Int):=a?
 have⟨HQ,HO⟩:=f? hq ho
 clear hq g11
 have aem:(op:Int)<=100000:=a?
 rcases(by omega:fu=0\/fu= -1\/0<fu)with rfl|rfl|hp
 .go_enter func90,ntmps90
  go_wp2_with fail
  go_ret
  have kk:=((NP.refl [b] w).setCell (p:=(aa b 4)) (Or.inl b?) (q:Int)).setCell (p:=(aa b 5)) (Or.inl b?) true
  refine⟨rfl,HN.out (dq ⟨st,wa,0,op,dn⟩) _ kk rfl rfl (by show(-1:Int)<=0;omega) (by show(0:Int)<=9223372036854775807;omega) q! (fun v0 v1 v2 o=>?_),kk,by rw[((o.set 4 _).set 5 _).cell 1 b?,o.cell 1 b?];rfl⟩
  show ae _ b #[v0,v1,v2,(0:Int),((op+1:Nat):Int),true] _
  rw[<-HQ.out]
  exact(o.set 4 _).set 5 _
 .go_enter func90,ntmps90
  go_wp2_with fail
  go_ret
  have kk:=(NP.refl [b] w).setCell (p:=(aa b 4)) (Or.inl b?) (q:Int)
  refine⟨rfl,HN.out (dq ⟨st,wa,-1,op,dn⟩) _ kk rfl rfl (by show(-1:Int)<= -1;omega) (by show(-1:Int)<=9223372036854775807;omega) q! (fun v0 v1 v2 o=>?_),kk,by rw[(o.set 4 _).cell 1 b?,o.cell 1 b?];rfl⟩
  show ae _ b #[v0,v1,v2,(-1:Int),((op+1:Nat):Int),.bool dn] _
  rw[<-HQ.out]
  exact o.set 4 _
 .have Pb:(fu==0)=false:=y?
  have hdc:decide (fu=0)=false:=MS a?
  rw[hdc]
  go_enter func90,ntmps90
  go_wp2_with fail
  go_ret
  have kk:=((NP.refl [b] w).setCell (p:=(aa b 4)) (Or.inl b?) (q:Int)).setCell (p:=(aa b 3)) (Or.inl b?) (fu-1:Int)
  have ef:(dq ⟨st,wa,fu,op,dn⟩).fuse=fu-1:=by show(if 0<fu then fu-1 else fu)=_;rw[if_pos hp]
  have ed:(dq ⟨st,wa,fu,op,dn⟩).down=dn:=by show(if fu=0 then true else dn)=_;rw[if_neg a?]
  refine⟨rfl,HN.out (dq ⟨st,wa,fu,op,dn⟩) _ kk rfl rfl (by rw[ef];omega) (by rw[ef];omega) q! (fun v0 v1 v2 o=>?_),kk,by rw[((o.set 4 _).set 3 _).cell 1 b?,o.cell 1 b?];rfl⟩
  rw[ef,ed]
  show ae _ b #[v0,v1,v2,(fu-1:Int),((op+1:Nat):Int),.bool dn] _
  rw[<-HQ.out]
  exact(o.set 4 _).set 3 _
theorem Iu (b sb mb lo:Nat) (d:DK) (i:Nat) (s:List UInt8) (w:World) (h:aD w b sb mb lo d) (hd:d.down=false) (hi:i<d.stand.length) (hs:s.length=128) (ho:d.ops<100000) (WH:d.waits.length<=10000):
  am! 88 #[b,(i:Int),s] w fun e w'=>e=(if d.fuse=0 then 90 else 0:Int)/\aD w' b sb mb lo (cW d i s)/\PK [] b sb mb w w':=by
 have hr:=DH b sb mb lo d i w h
 have e0:OM d i=0:=by unfold OM;rw[hd,if_neg b?,if_neg a?]
 rw[e0]at hr
 have Sq:=pP b sb mb lo d w h ho
 have hz:(bs s).size=128:=by rw[NQ,hs]
 have S2:(bs s).size<=maxLen:=by rw[hz];decide
 have hi8:i<=8192:=by have⟨_,_,_,_,_,_,_,_,_,_,_,_,_,h8,_⟩:=h;omega
 have⟨i0,q0,q1,q2,q3⟩:=FU
 clear h e0 hd
 have HI:=tK hi
 clear hi
 have key:∀(fb:Bool) (fc:Int),decide (d.fuse=0)=fb->(if d.fuse=0 then(90:Int)else 0)=fc->(fb=true/\fc=90\/fb=false/\fc=0)->
   am! 88 #[b,(i:Int),s] w fun e w'=>e=fc/\aD w' b sb mb lo (cW d i s)/\PK [] b sb mb w w':=by
  intro fb fc hfb UF Wg
  rw[hfb]at Sq
  clear hfb UF
  rcases Wg with⟨rfl,rfl⟩|⟨rfl,rfl⟩
  all_goals
   go_enter func88,ntmps88
   go_wp2_with fail
   refine hr.mono ?_;rintro e w' ⟨rfl,rfl⟩
   go_wp2_with fail
   refine Sq.mono ?_;rintro e w1 ⟨rfl,h1,k1,RU⟩
   have⟨wv,n,o,os,hw,hm,hn,g2,g3,g4,g5,g6,g7,g8,g9,g10,g11⟩:=h1
   obtain⟨p,c,rfl⟩:=ah hw
   have⟨c0,c1,c2,c3,c4,c5⟩:=o.c6
   have z:=o.z6
   have hcw:w.cell? (aa b 1)=(p,(dq d).waits.length,c):=by rw[<-RU];exact o.cell 1 b?
   have afi:(dq d).waits.length<=10000:=WH
   have r3:(dq d).waits.length+1<=maxLen:=m?
   have r4:((dq d).waits.length+1)*24<=140737488355328:=a?
   clear hr Sq
   go_wp2_with (at_builtin;go_must (refine MT _ rfl (.tmp 24) (.tmp 28) 135 rfl lo 206 i0 (.agg #[(0:Int),.string ⟨#[]⟩]) 2 24 underlying135 q0 q1 q2 q3 rfl d? _ _ _ rfl (MH hw _) w1 1 1 [.int .i64 i,.string (bs s)] rfl rfl ?_ ?_ ?_ ?_ ?_ ?_))
   .exact World.news_of_block (Ns w1 _)
   .intro u hu;simp at hu;rcases hu with rfl|rfl<;>rfl
   .exact r3
   .exact r4
   .simp;omega
   intro v5 w5 o3 RQ _ hv5
   obtain⟨p5,c5',rfl⟩:=ah o3
   have⟨HV5,HCW⟩:=f? hv5 hcw
   clear hv5 hcw RU
   have o5:=bW (MH hw _) RQ (o.alloc _) d?
   have os5:=bW (MH hw _) RQ (os.alloc _) d?
   have ZS:=(hm.alloc (.cells #[(i:Int),s] 206)).block (RQ.block mb (hm.alloc _).lt (fun he=>by have:=(ML hw mb he.symm).1;omega))
   have aci:=RQ.size
   simp only[Nd]at aci
   have⟨y0,y1,y2,y3,y4,y5⟩:=o5.c6
   have zy:=o5.z6
   obtain⟨gb,TI,UK⟩:∃gb,(∀j,(Value.slice p (dq d).waits.length c).ownBlock=some j->j=gb)/\(gb=b\/(Value.slice p (dq d).waits.length c).ownBlock=some gb):=by
    cases hb:(Value.slice p (dq d).waits.length c).ownBlock with
    |none=>exact⟨b,(fun j hj=>by cases hj),Or.inl rfl⟩
    |some g=>exact⟨g,(fun j hj=>by injection hj with hj;exact hj.symm),Or.inr rfl⟩
   have hK5:NP [b,mb,gb] w w5:=((k1.mono (T:=[b,mb,gb]) b?).alloc (.cells #[(i:Int),s] 206)).grown RQ (fun j hj=>Or.inl (by rw[TI j hj];simp))
   clear c0 c1 c2 c3 c4 c5 z o os hm hw RQ
   have⟨D,Ot,hf⟩:=ZS.other (p:=(aa b 1)) (by show mb≠b;omega) (p5,(dq d).waits.length+1,c5')
   go_wp2_with (at_mapUpdate;go_must (refine wpList_mapUpdate_own _ rfl _ _ _ 136 rfl 3 9 Dn underlying136 _ mb n _ rfl Ot ?_ _ _ _ rfl rfl (zC i hi8) _ [] (plainElem_string underlying9 S2) ?_))
   .unfold maxLen;omega
   intro w7 VB X9
   go_wp2_with fail
   go_ret
   have SV:=(NP.refl [mb] _).grown X9 (fun k hk=>Or.inl (by simp at hk;simp[hk]))
   have aej:=SV.size
   have e:eJ (d.waits++[(i,s)])=fun j=>if i=j then some s else eJ d.waits j:=funext fun j=>iH _ _ _
   have o7:=SV.own (o5.set 1 (p5,(dq d).waits.length+1,c5')) e?
   have os7:=SV.own (os5.other (p:=(aa b 1)) (by show sb≠b;omega) (p5,(dq d).waits.length+1,c5')) e?
   have hr7:=ax (bT o3 (p:=(aa b 1)) (aB o3 o5 d?) (p5,(dq d).waits.length+1,c5')) SV e?
   have hm7:= @cV.put w7 _ _ _ _ Ot.isMap hf i hi8 s VB
   have hsx:(w5.setCell (aa b 1) (p5,(dq d).waits.length+1,c5')).heap.size=w5.heap.size:=z!
   have hlen:(d.waits++[(i,s)]).length=(dq d).waits.length+1:=by simp[dq]
   have Y4:=((hK5.setCell (p:=(aa b 1)) (Or.inl b?) (p5,(dq d).waits.length+1,c5')).trans (SV.mono (T:=[b,mb,gb]) b?))
   have hdk:PK [] b sb mb w w7:=by
    refine⟨Y4.os,Y4.tape,Y4.output,Y4.size,fun k hk _ e1 e2 e3 e4=>Y4.block k hk (fun hx=>?_),fun k hx=>?_⟩
    .simp only[List.mem_cons,List.not_mem_nil,or_false]at hx
     rcases hx with hx|hx|hx
     .exact e1 hx
     .exact e3 hx
     .rcases UK with h|h
      .exact e1 (hx.trans h)
      .exact e4 ⟨_,HCW.out,by rw[hx];exact h⟩
    .have⟨v,h1,h2⟩:=hx
     have h3:=o7.cell 1 b?
     rw[h1]at h3
     have e:v=(p5,(dq d).waits.length+1,c5'):=by injection h3
     subst e
     rcases HV5.out with h4|h4
     .exact Or.inl ⟨_,HCW.out,h4▸h2⟩
     .right
      rw[h2]at h4
      injection h4 with h4
      have:=k1.size
      (try simp only[Nd]at h4)
      omega
   refine⟨rfl,⟨(p5,(dq d).waits.length+1,c5'),n+1,o7,os7,?_,?_,?_,g2,g3,g4,g5,a?,g7,g8,g9,g10,g11⟩,hdk⟩
   .show w7.ownsRow lo _ 2 _ (d.waits++[(i,s)]).length (PG (d.waits++[(i,s)]))
    rw[hlen,qD];exact hr7
   .show cV w7 mb (n+1) (eJ (d.waits++[(i,s)]))
    rw[e];exact hm7
   .show n+1<=(d.waits++[(i,s)]).length
    rw[hlen];omega
 by_cases hf:d.fuse=0
 .have:=key true 90 (MV hf) (if_pos hf) (Or.inl ⟨rfl,rfl⟩)
  rw[if_pos hf];exact this
 .have:=key false 0 (MS hf) (if_neg hf) (Or.inr ⟨rfl,rfl⟩)
  rw[if_neg hf];exact this
theorem PK.Mn {T b sb mb w w' cs} {t:TypeId} (h:NP [sb,b,mb] w w') (o:ae w' b cs t) (h1:cs[1]? =()):PK T b sb mb w w':=
 ⟨h.os,h.tape,h.output,h.size,fun k hk _ e1 e2 e3 _=>h.block k hk (by simp[e1,e2,e3]),fun k hk=>by
  have⟨v,h2,h3⟩:=hk
  have⟨NV,h4⟩:=Array.getElem?_eq_some_iff.1 h1
  have h5:=o.cell 1 NV
  rw[h2,h4]at h5
  injection h5 with h5
  subst h5
  simp[Value.ownBlock]at h3⟩
theorem yR (b sb mb lo d w) (h:aD w b sb mb lo d) (hfine:∀x∈d.waits,x.1<d.stand.length) (WH:d.waits.length<=10000):
  am! 75 #[b,.func (.func 91) #[] #[]] w fun e w'=>e=.returned (.tuple #[])/\aD w' b sb mb lo (kX d (fun _=>true))/\PK [] b sb mb w w':=by
 have⟨wv,n,o,os,hw,hm,hn,g2,g3,g4,g5,g6,g7,g8,g9,g10,g11⟩:=h
 obtain⟨p,c,rfl⟩:=ah hw
 have⟨c0,c1,c2,c3,c4,c5⟩:=o.c6
 have⟨st,ws,fu,op,dn⟩:=d
 simp only at*
 go_enter func75,ntmps75
 go_wp2_with fail
 go_loopw [11] (fun i wr=>∃k:Nat,k<=ws.length/\i=(k:Int)/\ae wr sb (bV (sk st ws (fun _=>true) k)) 9/\NP [sb] w wr) (fun i _=>ws.length-(intOf i).toNat)
 case atStart=>exact⟨0,a?,rfl,os,NP.refl _ _⟩
 case round=>
  obtain⟨k,hk,rfl,os2,hK⟩:=hrel
  have o2:=hK.own o e?
  have TS:=ax hw hK e?
  by_cases NV:k<ws.length
  .obtain⟨gw,rfl,hgw⟩:∃gw,p=some ⟨gw,0,none⟩/\lo<=gw:=by
    rcases TS.2 with⟨e1,e2⟩|⟨g',cap,cur,e1,hge,_⟩
    .omega
    .injection e1 with e1
     exact⟨g',e1,hge⟩
   have⟨q1,q2⟩:=nc ws k NV
   have w1c:=World.ownsRow.cells TS rfl (k*2) _ q1
   have w2c:=World.ownsRow.cells TS rfl (k*2+1) _ q2
   rw[Ni,Nat.zero_add]at w1c w2c
   have Rm:ws[k].1<st.length:=hfine _ (MJ _)
   have PX:(sk st ws (fun _=>true) k).length=st.length:=su _ _ _ _
   have Ox:=tP st ws (fun _=>true) k NV
   have⟨d0,d1,d2,d3,d4,d5⟩:=o2.c6
   have hgs:gw<wr.heap.size:=sW w1c
   have afr:=os2.lt
   have⟨OY,Of,TO⟩:=gg! Ox NV PX
   clear Ox PX q1 q2 c0 c1 c2 c3 c4 c5
   generalize ws[k].1=at1 at*
   generalize ws[k].2=dt at*
   have i1:(at1:Int)<st.length:=a?
   have ot:=ae.new wr #[(at1:Int),dt] 206
   have os3:=os2.alloc (.cells #[(at1:Int),dt] 206)
   have o3:=o2.alloc (.cells #[(at1:Int),dt] 206)
   have V4:=hK.alloc (.cells #[(at1:Int),dt] 206)
   have⟨e0,e1,e2,e3,e4,e5⟩:=o3.c6
   have⟨f0,f1⟩:=ot.c2
   have QW:at1<(bV (sk st ws (fun _=>true) k)).size:=by simp[bV,TO.out];exact Rm
   obtain⟨v0,s0⟩:∃v0,(wr.alloc (.cells #[(at1:Int),dt] 206)).cell? (aa sb at1)=some v0:=⟨_,os3.cell at1 QW⟩
   have zs:=os3.free at1
   go_wp2_with fail
   refine(Mr _ _).mono ?_;rintro e w' ⟨rfl,rfl⟩
   go_wp2_with fail
   go_region
   have Oy:ae ((wr.setCell (aa sb at1) dt).alloc (.cells #[(at1:Int),dt] 206)).drew sb (bV (sk st ws (fun _=>true) (k+1))) 9:=by
    rw[OY.out]
    simp only[if_true]
    rw[<-nh]
    exact((os2.set at1 _).alloc _).drew
   have WD:=((hK.setCell (p:=(aa sb at1)) (Or.inl b?) dt).alloc (.cells #[(at1:Int),dt] 206)).drew
   go_wp2_with fail
   go_roundw
   case rel=>exact⟨k+1,Of.out,j?,Oy,WD⟩
   case measure=>(have hh:=Of.out;simp[intOf];omega)
  .obtain rfl:k=ws.length:=a?
   have⟨d0,d1,d2,d3,d4,d5⟩:=o2.c6
   have z2:=o2.z6
   have QL:=hm.kept hK e?
   have hm3:=QL.other (p:=(aa b 1)) (by show mb≠b;omega) ()
   have os3:=os2.other (p:=(aa b 1)) (by show sb≠b;omega) ()
   have o3:=o2.set 1 ()
   have hsx:(wr.setCell (aa b 1) ()).heap.size=wr.heap.size:=z!
   have P6:=(hK.mono (T:=[sb,b,mb]) b?).setCell (p:=(aa b 1)) (Or.inl b?) ()
   have hlen:(sk st ws (fun _=>true) ws.length).length=st.length:=su _ _ _ _
   have⟨w7,hrun7,hm7,SV⟩:=hm3.Kb 0
   go_wp2_with fail
   go_end0
   have aej:=SV.size
   have afh:=hK.size
   refine⟨rfl,⟨(),0,?_,SV.own os3 e?,Nf _ _ _ _,hm7,MG _,g2,g3,g4,g5,a?,?_,?_,g9,g10,g11⟩,?_⟩
   .have:=SV.own o3 e?
    show ae w7 b #[(sb,(sk st ws (fun _=>true) ws.length).length,(sk st ws (fun _=>true) ws.length).length),_,_,_,_,_] _
    rw[hlen];exact this
   .show 1<=(sk st ws (fun _=>true) ws.length).length
    rw[hlen];exact g7
   .show(sk st ws (fun _=>true) ws.length).length<=8192
    rw[hlen];exact g8
   .exact PK.Mn (P6.trans (SV.mono b?)) (SV.own o3 e?) b?
theorem PK.JQ {mb} (h:NP [b] w w') (hc:w'.cell? (aa b 1)=w.cell? (aa b 1)):PK [] b sb mb w w':=
 ⟨h.os,h.tape,h.output,h.size,fun k hk _ e1 _ _ _=>h.block k hk (by simpa using e1),fun k hk=>Or.inl ((WB.iw hc).1 hk)⟩
theorem yT (b sb mb lo d w) (h:aD w b sb mb lo d) (hd:d.down=false) (hf:d.fuse=0) (ho:d.ops<100000):am! 39 #[b] w fun e w'=>e=(90:Int)/\aD w' b sb mb lo (dq d)/\PK [] b sb mb w w':=by
 have hr:=ti b sb mb lo d w h
 have Sq:=pP b sb mb lo d w h ho
 unfold kY at hr
 rw[hd]at hr
 rw[MV hf]at Sq
 simp only[Bool.false_eq_true,if_false]at hr
 clear h hd hf
 go_enter func39,ntmps39
 go_wp2_with fail
 refine hr.mono ?_;rintro e w' ⟨rfl,rfl⟩
 go_wp2_with fail
 refine Sq.mono ?_;rintro e w1 ⟨rfl,h1,k1,RU⟩
 go_wp2_with fail
 go_ret
 exact⟨rfl,h1,PK.JQ k1 RU⟩
theorem Iv (b sb mb lo d w) (h:aD w b sb mb lo d) (hd:d.down=false) (hf:d.fuse≠0) (ho:d.ops<100000) (hfine:∀x∈d.waits,x.1<d.stand.length) (WH:d.waits.length<=10000):
  am! 39 #[b] w fun e w'=>e=(0:Int)/\aD w' b sb mb lo (kX (dq d) (fun _=>true))/\PK [] b sb mb w w':=by
 have hr:=ti b sb mb lo d w h
 have Sq:=pP b sb mb lo d w h ho
 have Vg:=fun W (hW:aD W b sb mb lo (dq d))=>yR b sb mb lo (dq d) W hW hfine WH
 unfold kY at hr
 rw[hd]at hr
 rw[MS hf]at Sq
 simp only[Bool.false_eq_true,if_false]at hr
 clear h hd hf
 have Zr:=tK Vg
 clear Vg
 go_enter func39,ntmps39
 go_wp2_with fail
 refine hr.mono ?_;rintro e w' ⟨rfl,rfl⟩
 go_wp2_with fail
 refine Sq.mono ?_;rintro e w1 ⟨rfl,h1,k1,RU⟩
 go_wp2_with fail
 refine(Zr.out _ h1).mono ?_;rintro e w2 ⟨rfl,h2,k2⟩
 go_wp2_with fail
 go_ret
 exact⟨rfl,h2,(PK.JQ k1 RU).trans k2⟩
end
section
section
open Go.Proofs.Tryz Go.RowKit Go.Maps
variable {w' w0 w:World} {T:List Nat} {b sb lo:Nat}
theorem NM:type_of% @List.getElem_append_left:=@List.getElem_append_left
structure DA (w:World) (b sb mb lo:Nat) (d:DK):Prop where
 disk:aD w b sb mb lo d
 fit:dS d
section
variable {w:World} {b sb mb lo:Nat} {d:DK}
theorem DA.aJ (h:DA w b sb mb lo d) (k:NP [] w w'):DA w' b sb mb lo d:=⟨h.disk.keep k (fun x hx=>by cases hx),h.fit⟩
theorem DA.bH (h:DA w b sb mb lo d):b<w.heap.size:=h.disk.bH
theorem DA.sC (h:DA w b sb mb lo d):sb<w.heap.size:=by have⟨_,_,_,os,_⟩:=h.disk;exact os.lt
theorem DA.vP (h:DA w b sb mb lo d):mb<w.heap.size:=by have⟨_,_,_,_,_,hm,_⟩:=h.disk;exact hm.lt
theorem DA.len (h:DA w b sb mb lo d):1<=d.stand.length/\d.stand.length<=8192:=by
 have⟨_,_,_,_,_,_,_,_,_,_,_,_,h7,h8,_⟩:=h.disk
 exact⟨h7,h8⟩
theorem DA.read (h:DA w b sb mb lo d) (i:Int):am! 62 #[b,i] w fun e w'=>e=.returned (.tuple #[.string (bs (Pc d i)),(OM d i:Int)])/\w=w':=by
 by_cases hz:OM d i=0
 .have⟨h1,h2,h3⟩:=dh hz
  obtain⟨n,rfl⟩:=MM h2
  refine(Lx b sb mb lo d n w h.disk h1 a?).mono fun e w' ⟨h4,h5⟩=>⟨?_,h5⟩
  rw[h4];unfold Pc;rw[if_pos hz,hz];rfl
 .refine(F8 b sb mb lo d i w h.disk hz).mono fun e w' ⟨h4,h5⟩=>⟨?_,h5⟩
  rw[h4];unfold Pc;rw[if_neg hz];rfl
theorem DA.write (h:DA w b sb mb lo d) (i:Int) (s:List UInt8) (ho:d.ops<100000) (hw:d.waits.length<=10000):
  am! 88 #[b,i,s] w fun e w'=>e=(OW d i s:Int)/\DA w' b sb mb lo (OJ d i s)/\PK [] b sb mb w w':=by
 by_cases hz:OM d i=0
 .by_cases hs:s.length=128
  .have⟨h1,h2,h3⟩:=dh hz
   obtain⟨n,rfl⟩:=MM h2
   have e1:OJ d (n:Int) s=cW d n s:=by unfold OJ;rw[if_pos ⟨hz,hs⟩];rfl
   have e2:OW d (n:Int) s=if d.fuse=0 then 90 else 0:=by unfold OW;rw[if_neg a?,if_neg a?]
   have hf:=h.fit.write (n:Int) s
   rw[e1]at hf ⊢
   rw[e2]
   exact(Iu b sb mb lo d n s w h.disk h1 a? hs ho hw).mono fun e w' ⟨h4,h5,h6⟩=>⟨h4,⟨h5,hf⟩,h6⟩
  .have e1:OJ d i s=d:=by unfold OJ;rw[if_neg (fun hh=>hs hh.2)]
   have e2:OW d i s=1:=by unfold OW;rw[if_neg a?,if_pos hs]
   rw[e1,e2]
   exact(Bs b sb mb lo d i (bs s) w h.disk hz (by rw[NQ];exact hs)).mono fun e w' ⟨h4,h5⟩=>⟨h4,by subst h5;exact h,by subst h5;exact PK.refl _ _ _ _ _⟩
 .have e1:OJ d i s=d:=by unfold OJ;rw[if_neg (fun hh=>hz hh.1)]
  have e2:OW d i s=OM d i:=by unfold OW;rw[if_pos hz]
  rw[e1,e2]
  exact(DG b sb mb lo d i (bs s) w h.disk hz).mono fun e w' ⟨h4,h5⟩=>⟨h4,by subst h5;exact h,by subst h5;exact PK.refl _ _ _ _ _⟩
theorem DA.flush (h:DA w b sb mb lo d) (ho:d.ops<100000) (hw:d.waits.length<=10000):
  am! 39 #[b] w fun e w'=>e=(qv d:Int)/\DA w' b sb mb lo (iO d)/\PK [] b sb mb w w':=by
 have hf:=h.fit.flush
 unfold qv iO at*
 by_cases hd:d.down=true
 .rw[if_pos hd]at hf ⊢
  rw[if_pos hd]
  exact(yS b sb mb lo d w h.disk hd).mono fun e w' ⟨h4,h5⟩=>⟨h4,by subst h5;exact h,by subst h5;exact PK.refl _ _ _ _ _⟩
 .have hd':d.down=false:=by simpa using hd
  rw[if_neg hd]at hf ⊢
  rw[if_neg hd]
  by_cases h0:d.fuse=0
  .rw[if_pos h0]at hf ⊢
   rw[if_pos h0]
   exact(yT b sb mb lo d w h.disk hd' h0 ho).mono fun e w' ⟨h4,h5,h6⟩=>⟨h4,⟨h5,hf⟩,h6⟩
  .rw[if_neg h0]at hf ⊢
   rw[if_neg h0]
   exact(Iv b sb mb lo d w h.disk hd' h0 ho (fun x hx=>(h.fit.fine x hx).1) hw).mono fun e w' ⟨h4,h5,h6⟩=>⟨h4,⟨h5,hf⟩,h6⟩
theorem DA.image (h:DA w b sb mb lo d):am! 26 #[b] w fun e w'=>e=.returned d.stand.flatten/\DA w' b sb mb lo d/\NP [] w w':=
 (J9 b sb mb lo d w h.disk (fun s hs=>by rw[h.fit.all s hs];omega)).mono fun e w' ⟨h4,h5⟩=>⟨h4,h.aJ h5,h5⟩
end
theorem Lw (n:Nat) (w) (h1:1<=n) (h2:n<=8192):
  am! 9 #[(n:Int)] w fun e w'=>∃b sb mb lo,e=.returned (.tuple #[.pointer (some ⟨b,0,none⟩),(0:Int)])/\DA w' b sb mb lo (QP (List.replicate n N9))/\NP [] w w'/\w.heap.size<=b/\w.heap.size<=sb/\w.heap.size<=mb/\w.heap.size<=lo:=
 (Mw n w h1 h2).mono fun _ _ ⟨b,sb,mb,lo,he,hA⟩=>⟨b,sb,mb,lo,he,⟨hA.disk,hA.fit⟩,hA.kept,hA.hb,hA.hsb,hA.hmb,hA.hlo⟩
theorem PK.GN {S mb} (h:PK T b sb mb w0 w) (k:NP S w w') (hb:b<w0.heap.size) (hl:∀x∈S,x∈T\/w0.heap.size<=x) (Xq:b∉S):PK T b sb mb w0 w':=
 ⟨k.os.trans h.os,k.tape.trans h.tape,k.output.trans h.output,Nk h.size k.size,fun i hi h1 h2 h3 h4 h5=>(k.block i (MR hi h.size) (fun hx=>by
  rcases hl i hx with h6|h6
  .exact h1 h6
  .omega)).trans (h.block i hi h1 h2 h3 h4 h5),fun i hi=>h.wb i ((WB.iw (k.cell (a:=(aa b 1)) (MR hb h.size) Xq)).1 hi)⟩
theorem PK.LO {mb D} (h:PK T b sb mb w0 w) (k:NP [D] w w') (hb:b<w0.heap.size) (hl:w0.heap.size<=D):PK T b sb mb w0 w':=
 h.GN k hb (fun y hy=>by
  simp only[List.mem_cons,List.not_mem_nil,or_false]at hy
  exact Or.inr a?) (fun hy=>by
  simp only[List.mem_cons,List.not_mem_nil,or_false]at hy
  omega)
def Gt (w0:World) (b sb mb lo:Nat) (d:DK) (w:World):Prop:=DA w b sb mb lo d/\PK [] b sb mb w0 w
theorem DA.Br {mb d} (h:DA w b sb mb lo d):Gt w b sb mb lo d w:=⟨h,PK.refl _ _ _ _ _⟩
theorem qw (w0 b sb mb lo):r7 (Gt w0 b sb mb lo) b where
 len:=fun h=>h.1.len
 fit:=fun h=>h.1.fit
 keep:=fun h k=>⟨h.1.aJ k,h.2.trans (k.eH h.1.bH)⟩
 lenC:=fun h=>XH b sb mb lo _ _ h.1.disk
 downC:=fun h=>Bt b sb mb lo _ _ h.1.disk
 readC:=fun i h=>h.1.read i
 writeC:=fun i s h ho hw=>(h.1.write i s ho hw).mono fun _ _ hh=>⟨hh.1,hh.2.1,h.2.trans hh.2.2⟩
theorem Lv {mb d0} (h0:DA w0 b sb mb lo d0):om (Gt w0 b sb mb lo) b w0 where
 ops:=qw w0 b sb mb lo
 writeB:=fun i s h ho hw=>(h.1.write i s ho hw).mono fun _ _ hh=>⟨hh.1,⟨hh.2.1,h.2.trans hh.2.2⟩,((hh.2.2.Lu h.1.disk).both b).j9 h0.bH h0.sC h0.vP h0.bH⟩
 putD:=fun{_ _ _ _ _} h ho k hl=>⟨⟨h.1.disk.putD ho k,h.1.fit⟩,h.2.LO k h0.bH hl⟩
theorem LP (v:Value) (l:List (Int×Int)) (s:List UInt8) (PU PC:Nat) {w:World} {b sb mb lo:Nat} {d:DK} (hD:DA w b sb mb lo d) (h:af w v l PU PC) (hl:l.length<=1000000) (Pj:∀a∈l,aQ a)
  (hs:s.length<=1048576) (ho:d.ops<=90000) (hw:d.waits.length<=1800):
  am! 49 #[b,v,s] w fun e w'=>e=.returned (.int .i64 (OQ d l s).2)/\DA w' b sb mb lo (OQ d l s).1/\PK [] b sb mb w w':=
 (Mt (Lv hD) d v l s PU PC w hD.Br (MG _) h hl Pj hs ho hw).mono fun _ _ hh=>⟨hh.1,hh.2.1.1,hh.2.1.2⟩
theorem GO (v l size PU PC) {w b sb mb lo d} (hD:DA w b sb mb lo d) (h:af w v l PU PC) (hl:l.length<=1000000) (Pj:∀a∈l,aQ a) (PW:(Lit.int .i64 size).wf=true):
  am! 60 #[b,v,size] w fun e w'=>e=.returned (.tuple #[.string (bs (PV d l size)),(N7 d l size:Int)])/\NP [] w w':=
 Mu (qw w b sb mb lo) d v l size PU PC w hD.Br h hl Pj PW
theorem FT (j u:Int) (s:List UInt8) {w:World} {b sb mb lo:Nat} {d:DK} (hD:DA w b sb mb lo d) (hj:(Lit.int .i64 j).wf=true) (hu:(Lit.int .i64 u).wf=true) (hs:s.length<=4000) (ho:d.ops<=40000) (hw:d.waits.length<=5000):
  am! 109 #[b,j,u,s] w fun e w'=>e=.returned (.tuple #[(jb d j u s:Int),.int .i64 (Oa d j u s).2])/\DA w' b sb mb lo (Oa d j u s).1/\PK [] b sb mb w w':=
 (Im (qw w b sb mb lo) hD.Br j u s hj hu hs ho hw).mono fun _ _ hh=>⟨hh.1,hh.2.1,hh.2.2⟩
theorem JU (j u) {w b sb mb lo d} (hD:DA w b sb mb lo d) (hj:(Lit.int .i64 j).wf=true) (hu:(Lit.int .i64 u).wf=true):
  am! 123 #[b,j,u] w fun e w'=>e=.returned (.tuple #[.string (bs (Pq d j u)),(Oi d j u:Int)])/\w=w':=
 JV (qw w b sb mb lo) hD.Br j u hj hu
end
open Go.Proofs.Tryz Go.RowKit
variable {k next:Int} {i most o n:Nat} {A:Prop} {cur vs xs:List Value} {v:Value} {w:World}
theorem Jc (us:List (Nat×Array Value×Array Value)) (cs:Nat->Int) (I:Nat->World->Prop) (g off c:Nat) (w:World) (hn:us.length<=1000)
  (hen:∀(i:Nat) (h:i<us.length),Enters prog us[i].1)
  (h0:I 0 w) (hcell:∀k W,I k W->∀(i:Nat) (h:i<us.length),W.cell? (aa g (off+i))=some (.func (.func us[i].1) us[i].2.1 us[i].2.2))
  (hstep:∀(k:Nat) (h:k<us.length) W,I k W->(∀i,i<k->cs i=0)->am! us[k].1 (us[k].2.1++us[k].2.2) W fun e W'=>e=(cs k:Int)/\I (k+1) W'):
  am! 37 #[.slice (some (aa g off)) us.length c] w fun e w'=>(∃k,k<us.length/\(∀i,i<k->cs i=0)/\cs k≠0/\e=.returned (.int .i64 (cs k))/\I (k+1) w')\/((∀i,i<us.length->cs i=0)/\e=(0:Int)/\I us.length w'):=by
 have HEN:=tK hen
 have HC:=tK hcell
 have HS:=tK hstep
 clear hen hcell hstep
 have hn':(us.length:Int)<=1000:=a?
 go_enter func37,ntmps37
 go_wp2_with fail
 go_step3
 go_wp2_with fail
 go_step3
 go_wp2_with fail
 refine wp_loop_rounds 1 ?_
 rw[rounds_succ]
 go_wp2_with fail
 go_loopw [3,8] (fun e i wr=>∃k:Nat,k<=us.length/\i=(k:Int)/\e=(0:Int)/\(∀j,j<k->cs j=0)/\I k wr) (fun _ i _=>us.length-(intOf i).toNat)
 case atStart=>grind
 case round=>
  obtain⟨k,hk,rfl,rfl,hz,hI⟩:=hrel
  by_cases hlt:k<us.length
  .have hcl:=HC.out k _ hI k hlt
   have hst:=HS.out k hlt _ hI hz
   have he:=HEN.out k hlt
   unfold Enters at he
   have HZ:=tK hz
   have HLT:=tK hlt
   generalize us[k].1=f at*
   generalize us[k].2.1=A at*
   generalize us[k].2.2=B at*
   have hlen:(k:Int)<us.length:=a?
   clear hz hI
   go_wp2_with fail
   refine hst.mono ?_;rintro e w2 ⟨rfl,hI2⟩
   by_cases hc:cs k=0
   .have hz':∀j,j<k+1->cs j=0:=fun j hj=>by
     rcases Nat.lt_succ_iff_lt_or_eq.1 hj with h|h
     .exact HZ.out j h
     simp_all
    rw[hc]
    have HZ2:=tK hz'
    clear hz' hc
    go_wp2_with fail
    go_roundw
    case rel=>exact⟨k+1,HLT.out,j?,rfl,HZ2.out,hI2⟩
    case measure=>grind [intOf]
   .have hce:(cs k==0)=false:=by simpa using hc
    have HCN:=tK hc
    clear hc
    go_wp2_with fail
    rw[Exit.noGoto_ret]
    go_ret
    exact Or.inl ⟨k,HLT.out,HZ.out,HCN.out,rfl,hI2⟩
  .obtain rfl:k=us.length:=a?
   have HZ:=tK hz
   clear hz
   go_wp2_with fail
   rw[Exit.noGoto_ret]
   go_ret
   exact Or.inr ⟨HZ.out,rfl,hI⟩
structure NS where
 id:Int
 name:List UInt8
 size:Int
 runs:List (Int×Int)
deriving Inhabited,DecidableEq
def NS.fits (a:NS):Prop:=(Lit.int .u32 a.id).wf=true/\a.name.length<=maxLen/\(Lit.int .i64 a.size).wf=true
def NS.told (k:Int) (a:NS):ag:=⟨k,a.id,a.name,a.size,a.runs⟩
def NS.cells (a:NS) (v:Value):Array Value:=#[(a.id,()),a.name,a.size,v]
def ag.item (r:ag):NS:=⟨r.id,r.name,r.size,r.runs⟩
variable {a b c x y:NS}
theorem NS.dw (h:a.fits) (hk:(Lit.int .i64 k).wf=true):(a.told k).fits:=⟨hk,h.1,h.2.1,h.2.2⟩
variable {r:ag}
theorem ag.jW (h:r.fits):r.item.fits:=⟨h.2.1,h.2.2.1,h.2.2.2⟩
structure au where
 nextBox:Int
 nextMan:Int
 boxes:List NS
 mans:List NS
 names:List NS
deriving Inhabited,DecidableEq
def iU (a b:List UInt8):Bool:=Op.bytesLess a b
theorem ua (a):iU a []=false:=by unfold iU;cases a<;>rfl
theorem lF (a b:UInt8) (x y):iU (a::x) (b::y)=(decide (a<b)||(a==b&&iU x y)):=rfl
theorem ub:∀a:List UInt8,iU a a=false
 |[]=>rfl
 |a::x=>by rw[lF,ub x];simp[UInt8.lt_irrefl]
theorem uY:∀{a b c:List UInt8},iU a b=true->iU b c=true->iU a c=true
 |a,[],c,h,_=>by grind [ua]
 |a,_::_,[],_,h=>by grind [ua]
 |[],_::_,_::_,_,_=>rfl
 |a::x,b::y,c::z,h1,h2=>by
  rw[lF]at h1 h2 ⊢
  simp only[Bool.or_eq_true,No,decide_eq_true_eq,beq_iff_eq]at h1 h2 ⊢
  rcases h1 with h1|⟨rfl,h1⟩
  .grind
  .rcases h2 with h2|⟨rfl,h2⟩
   .grind
   .exact Or.inr ⟨rfl,uY h1 h2⟩
theorem zu:∀a b:List UInt8,iU a b=true\/a=b\/iU b a=true
 |[],[]=>Or.inr (Or.inl rfl)
 |[],_::_=>Or.inl rfl
 |_::_,[]=>Or.inr (Or.inr rfl)
 |a::x,b::y=>by
  rw[lF,lF]
  simp only[Bool.or_eq_true,No,decide_eq_true_eq,beq_iff_eq,List.cons.injEq]
  by_cases h1:a<b
  .simp_all
  .by_cases h2:b<a
   .simp_all
   .have e:a=b:=UInt8.le_antisymm (UInt8.not_lt.1 h2) (UInt8.not_lt.1 h1)
    subst e
    rcases zu x y with h|h|h
    .simp_all
    .simp_all
    simp_all
def Zx (a b:List UInt8):Int:=if iU a b then -1 else if a=b then 0 else 1
theorem zT:∀a b:List UInt8,Lib.compareBytes a b=Zx a b
 |[],[]=>rfl
 |[],_::_=>rfl
 |_::_,[]=>rfl
 |a::x,b::y=>by
  have ih:=zT x y
  unfold Lib.compareBytes
  unfold Zx at ih ⊢
  rw[lF]
  grind
def bY (a b:NS):Bool:=decide (a.id<b.id)||(a.id==b.id&&iU a.name b.name)
def cO (a b:NS):Bool:=a.id==b.id&&a.name==b.name
theorem mQ:cO a b=true↔a.id=b.id/\a.name=b.name:=by unfold cO;simp
theorem iV:bY a b=true↔a.id<b.id\/(a.id=b.id/\iU a.name b.name=true):=by unfold bY;simp
theorem If (a):bY a a=false:=by unfold bY;simp[ub]
theorem pH {a b c} (h1:bY a b=true) (h2:bY b c=true):bY a c=true:=by
 grind [iV,uY]
theorem Ie (a b):bY a b=true\/cO a b=true\/bY b a=true:=by
 grind [iV,mQ,zu]
theorem Da {a b} (h:bY a b=true):bY b a=false:=by
 grind [pH,If]
theorem Xe {a b} (h:cO a b=true):bY a b=false:=by
 grind [mQ,bY,ub]
theorem jN {a b c} (h:cO b c=true):bY a b=bY a c:=by grind [mQ,bY]
theorem qL {a b c} (h:cO a b=true):bY a c=bY b c:=by grind [mQ,bY]
theorem yP {a b c} (h:cO b c=true):cO a b=cO a c:=by grind [mQ]
def mu (a b:NS):Int:=if bY a b then -1 else if cO a b then 0 else 1
theorem qn {a b}:mu a b<0↔bY a b=true:=by
 grind [mu]
theorem uT {a b}:mu a b=0↔cO a b=true:=by
 grind [mu,Xe]
def cG (l:List NS):Prop:=l.Pairwise (fun a b=>bY a b=true)
theorem pf {l} (h:∀k (hk:k+1<l.length),bY l[k] l[k+1]=true):cG l:=by
 unfold cG
 rw[List.pairwise_iff_getElem]
 intro i j hi hj hij
 obtain⟨m,rfl⟩:∃m,j=i+1+m:=⟨j-i-1,a?⟩
 clear hij
 induction m with
 |zero=>exact h i hj
 |succ m ih=>grind [pH]
variable {l:List NS}
theorem cG.at_ (h:cG l) {i j} (hj:j<l.length) (VM:i<j):bY (l[i]' a?) l[j]=true:=List.pairwise_iff_getElem.1 h i j a? hj VM
def Og (l:List NS) (x:NS):Nat:=(l.takeWhile (fun y=>bY y x)).length
theorem jv (l x):Og l x<=l.length:=by
 unfold Og
 have h:=congrArg List.length (List.takeWhile_append_dropWhile (p:=fun y=>bY y x) (l:=l))
 grind
theorem uO (a l x):Og (a::l) x=if bY a x then Og l x+1 else 0:=by
 grind [Og,List.takeWhile_cons]
theorem TM:∀{l:List NS} {x:NS} {j:Nat} (hj:j<Og l x),bY (l[j]'(MR hj (jv l x))) x=true
 |[],_,j,hj=>absurd hj (by unfold Og;simp)
 |a::l,x,j,hj=>by
  have e:=uO a l x
  cases h:bY a x
  .grind
  .rw[h]at e
   simp at e
   cases j with
   |zero=>exact h
   |succ j=>exact TM (l:=l) a?
theorem tU:∀{l:List NS} {x:NS} (h:Og l x<l.length),bY (l[Og l x]'h) x=false
 |[],_,h=>absurd h b?
 |a::l,x,h=>by
  have e:=uO a l x
  cases g:bY a x
  .simp_all
  .rw[g]at e
   simp at e
   simp only[e,Nt]
   exact tU (l:=l) (by simp_all)
theorem ql {l x k} (hk:k<=l.length) (h1:∀j (hj:j<k),bY (l[j]' a?) x=true) (h2:∀(h:k<l.length),bY l[k] x=false):Og l x=k:=by
 rcases Nat.lt_trichotomy (Og l x) k with h|h|h
 .grind [tU]
 .exact h
 grind [TM,jv]
theorem cG.ge {l} (h:cG l) {x j} (hj:j<l.length) (hp:Og l x<=j):bY l[j] x=false:=by
 have h0:=tU (l:=l) (x:=x) a?
 by_cases e:Og l x=j
 .grind
 .have h1:=h.at_ hj (show Og l x<j by omega)
  grind [pH]
def PJ (l:List NS) (x:NS):Nat:=(l.takeWhile (fun y=> !cO y x)).length
theorem uh (l x):PJ l x<=l.length:=by
 unfold PJ
 have h:=congrArg List.length (List.takeWhile_append_dropWhile (p:=fun y=> !cO y x) (l:=l))
 rw[tN]at h
 omega
theorem vf (a l x):PJ (a::l) x=if cO a x then 0 else PJ l x+1:=by
 unfold PJ
 rw[List.takeWhile_cons]
 cases h:cO a x<;>simp
theorem mw:∀{l:List NS} {x:NS} {j:Nat} (hj:j<PJ l x),cO (l[j]'(MR hj (uh l x))) x=false
 |[],_,j,hj=>absurd hj (by unfold PJ;simp)
 |a::l,x,j,hj=>by
  have e:=vf a l x
  cases h:cO a x
  .rw[h]at e;simp at e
   cases j with
   |zero=>exact h
   |succ j=>exact mw (l:=l) a?
  .rw[h]at e;simp at e;omega
theorem iW:∀{l:List NS} {x:NS} (h:PJ l x<l.length),cO (l[PJ l x]'h) x=true
 |[],_,h=>absurd h b?
 |a::l,x,h=>by
  have e:=vf a l x
  cases g:cO a x
  .rw[g]at e;simp at e
   simp only[e,Nt]
   exact iW (l:=l) (by rw[e]at h;simpa using h)
  .rw[g]at e;simp at e
   simp only[e];exact g
def di (l:List NS) (x:NS):Prop:=PJ l x<l.length
theorem SO:di l x↔∃y∈l,cO y x=true:=by
 constructor
 .intro h;exact⟨_,MJ h,iW h⟩
 .rintro⟨y,hy,he⟩
  obtain⟨j,hj,rfl⟩:=Nr.1 hy
  unfold di
  by_cases h:j<PJ l x
  .rw[mw h]at he;cases he
  .omega
theorem zH {l x k} (hk:k<=l.length) (h1:∀j (hj:j<k),cO (l[j]' a?) x=false) (h2:∀(h:k<l.length),cO l[k] x=true):PJ l x=k:=by
 rcases Nat.lt_trichotomy (PJ l x) k with h|h|h
 .have:=iW (l:=l) (x:=x) a?
  rw[h1 _ h]at this;cases this
 .exact h
 .have:=mw h
  have hl:=uh l x
  rw[h2 a?]at this;cases this
theorem ly (hr:cG l) (h:di l x):Og l x=PJ l x:=
 ql (uh l x) (fun j hj=>by rw[<-jN (iW h)];exact hr.at_ h hj) (fun h'=>Xe (iW h'))
theorem ES (hr:cG l) (h:Og l x<l.length):(cO l[Og l x] x=true↔di l x):=by
 constructor
 .intro he;exact SO.2 ⟨_,MJ h,he⟩
 .intro hk
  have e:=ly hr hk
  have:=iW hk
  simp only[e];exact this
theorem EU (hr:cG l) (h:l.length<=Og l x):¬di l x:=fun hk=>by
 have e:=ly hr hk
 unfold di at hk
 omega
def Qm (l:List NS) (x:NS):List NS:=l.take (Og l x)++x::l.drop (Og l x)
def dI (l:List NS) (i:Nat):List NS:=l.take i++l.drop (i+1)
def gL (l:List NS) (i:Nat) (x:NS):List NS:=l.take i++x::l.drop (i+1)
theorem xE (l x):(Qm l x).length=l.length+1:=by
 have:=jv l x
 unfold Qm;rw[tN,Nj,MO,MQ];omega
theorem nS (h:i<l.length):(dI l i).length+1=l.length:=by
 unfold dI;rw[tN,MO,MQ];omega
theorem wj (h:i<l.length):(gL l i x).length=l.length:=by
 unfold gL;rw[tN,Nj,MO,MQ];omega
theorem M86 (h:A:=by
 rcases Na.1 h with h|h
 .exact Or.inr (NJ h)
 .rcases List.mem_cons.1 h with h|h
  .exact Or.inl h
  .exact Or.inr (NF h)):A:=h
theorem rH (h:y∈Qm l x):y=x\/y∈l:=by
 unfold Qm at h
 exact M86
theorem rI (h:y∈dI l i):y∈l:=by
 unfold dI at h
 rcases Na.1 h with h|h
 .exact NJ h
 .exact NF h
theorem rG (h:y∈gL l i x):y=x\/y∈l:=by
 unfold gL at h
 exact M86
theorem lx {m} (h:cG l) (hs:m.Sublist l):cG m:=List.Pairwise.sublist hs h
theorem Eu (h:cG l) (i):cG (dI l i):=by
 refine lx h ?_
 unfold dI
 conv=>rhs;rw[<-List.take_append_drop i l]
 exact List.Sublist.append (List.Sublist.refl _) (by rw[<-List.drop_drop];exact List.drop_sublist 1 _)
theorem wI {a b} (ha:cG a) (hb:cG b) (hab:∀y∈a,∀z∈b,bY y z=true) (hax:∀y∈a,bY y x=true) (hxb:∀z∈b,bY x z=true):cG (a++x::b):=by
 refine List.pairwise_append.2 ⟨ha,List.pairwise_cons.2 ⟨hxb,hb⟩,fun y hy z hz=>?_⟩
 rcases List.mem_cons.1 hz with rfl|hz
 .exact hax y hy
 .exact hab y hy z hz
theorem sE (h:cG l) (i j) (VM:i<=j):∀y∈l.take i,∀z∈l.drop j,bY y z=true:=by
 intro y hy z hz
 obtain⟨a,ha,rfl⟩:=Nr.1 hy
 obtain⟨b,hb,rfl⟩:=Nr.1 hz
 rw[MO]at ha
 rw[MQ]at hb
 rw[List.getElem_take,List.getElem_drop]
 exact h.at_ a? a?
theorem Et (h:cG l) (hn:¬di l x):cG (Qm l x):=by
 refine wI (lx h (List.take_sublist _ _)) (lx h (List.drop_sublist _ _)) (sE h _ _ (MG _)) (fun y hy=>?_) (fun z hz=>?_)
 .obtain⟨a,ha,rfl⟩:=Nr.1 hy
  rw[MO]at ha
  rw[List.getElem_take]
  exact TM a?
 .obtain⟨b,hb,rfl⟩:=Nr.1 hz
  rw[MQ]at hb
  rw[List.getElem_drop]
  have h1:=h.ge (x:=x) (j:=Og l x+b) a? a?
  rcases Ie (l[Og l x+b]' a?) x with g|g|g
  .rw[g]at h1;cases h1
  .exact absurd (SO.2 ⟨_,MJ a?,g⟩) hn
  .exact g
theorem Es (h:cG l) (hi:i<l.length) (he:cO l[i] x=true):cG (gL l i x):=by
 refine wI (lx h (List.take_sublist _ _)) (lx h (List.drop_sublist _ _)) (sE h _ _ a?) (fun y hy=>?_) (fun z hz=>?_)
 .obtain⟨a,ha,rfl⟩:=Nr.1 hy
  rw[MO]at ha
  rw[List.getElem_take,<-jN he]
  exact h.at_ hi a?
 .obtain⟨b,hb,rfl⟩:=Nr.1 hz
  rw[MQ]at hb
  rw[List.getElem_drop,<-qL he]
  exact h.at_ a? a?
theorem Iq (h:cG l) (hi:i<l.length) (he:cO l[i] x=true):Qm (dI l i) x=gL l i x:=by
 have hd:=nS hi
 have e:Og (dI l i) x=i:=by
  refine ql a? (fun j hj=>?_) (fun h'=>?_)
  .have:(dI l i)[j]' a?=l[j]' a?:=by
    unfold dI
    rw[NM w?,List.getElem_take]
   rw[this,<-jN he]
   exact h.at_ hi hj
  .have h3:i+1<l.length:=a?
   have this:(dI l i)[i]? =l[i+1]? :=by
    unfold dI
    rw[List.getElem?_append_right w?,List.getElem?_drop]
    congr 1
    rw[MO];omega
   rw[MZ h',MZ h3]at this
   injection this with this
   rw[this]
   have h1:=h.at_ (i:=i) (j:=i+1) a? a?
   rw[qL he]at h1
   exact Da h1
 unfold Qm
 rw[e]
 unfold dI gL
 have hl:(l.take i).length=i:=w?
 rw[NC a?,List.take_take,Nat.min_self,List.drop_append_of_le_length a?,List.drop_of_length_le a?]
 rfl
def cE (k:Int) (l:List NS) (most:Nat):Prop:=l.length<=most/\(∀a∈l,az (a.told k)=true)/\cG l
def cZ (next:Int) (l:List NS):Prop:=1<=next/\∀a∈l,a.id<next
structure OL (c:au):Prop where
 boxes:cE 1 c.boxes 2048
 nb:cZ c.nextBox c.boxes
 mans:cE 2 c.mans 2048
 nm:cZ c.nextMan c.mans
 names:cE 3 c.names 256
theorem nH (h:az r=true):r.runs.length<=16:=by
 unfold az gq iD at h
 simp only[No,decide_eq_true_eq]at h
 exact h.2.2.2.2.2.2.1
theorem Fs (hk:k=1\/k=2) (h:az (a.told k)=true):a.name=[]/\a.id≠0/\a.id<=4294967294:=by
 unfold az gq NS.told at h
 rcases hk with rfl|rfl<;>simp[S4,Px,Oj]at h<;>exact⟨h.2.2.1,h.1,h.2.1⟩
theorem mc (h:az (a.told 3)=true):a.id=0/\a.name≠[]:=by
 unfold az gq NS.told at h
 simp[S4,Px,Oj]at h
 exact⟨h.1,h.2.2.1⟩
theorem BI {_:Int} (hr:cG l):cZ next l↔1<=next/\(l.length=0\/∃h:l.length-1<l.length,(l[l.length-1]'h).id<next):=by
 constructor
 .rintro⟨h1,h2⟩
  refine⟨h1,?_⟩
  by_cases h0:l.length=0
  .exact Or.inl h0
  .exact Or.inr ⟨a?,h2 _ (MJ _)⟩
 .rintro⟨h1,h2⟩
  refine⟨h1,fun a ha=>?_⟩
  obtain⟨j,hj,rfl⟩:=Nr.1 ha
  rcases h2 with h0|⟨h,h2⟩
  .omega
  .by_cases e:j=l.length-1
   .subst e;exact h2
   .have:=hr.at_ h (show j<l.length-1 by omega)
    rw[iV]at this
    omega
def jR:au:=⟨0,0,[],[],[]⟩
def cf:au:=⟨1,1,[],[],[]⟩
open Classical in
noncomputable def Oc (l:List NS) (x:NS) (next:Int) (most:Nat) (turns:Bool):List NS×Int:=
 if di l x/\turns=true then(gL l (PJ l x) x,0)else if di l x\/x.id<next then([],252)else if most<=l.length then([],240)else(Qm l x,0)
open Classical in
noncomputable def OU (l:List NS) (x:NS):List NS×Int:=if di l x then(dI l (PJ l x),0)else([],6)
noncomputable def aW (c:au) (r:ag):au×Int:=
 if r.kind=1 then({c with boxes:=(Oc c.boxes r.item c.nextBox 2048 false).1,nextBox:=r.id+1},(Oc c.boxes r.item c.nextBox 2048 false).2)
 else if r.kind=2 then({c with mans:=(Oc c.mans r.item c.nextMan 2048 true).1,nextMan:=max c.nextMan (r.id+1)},(Oc c.mans r.item c.nextMan 2048 true).2)
 else if r.kind=3 then({c with names:=(Oc c.names r.item 0 256 false).1},(Oc c.names r.item 0 256 false).2)
 else if r.kind=4 then({c with boxes:=(OU c.boxes r.item).1},(OU c.boxes r.item).2)
 else if r.kind=5 then({c with mans:=(OU c.mans r.item).1},(OU c.mans r.item).2)
 else({c with names:=(OU c.names r.item).1},(OU c.names r.item).2)
noncomputable def cH (c:au):List ag->au×Int
 |[]=>(c,0)
 |r::l=>if az r=true then if(aW c r).2=0 then cH (aW c r).1 l else(jR,(aW c r).2)else(jR,1)
open Classical in
noncomputable def N8 (c:au) (l:List ag):au×Int:=if OL c then cH c l else(jR,110)
theorem Fx (h:cE k l most) (hx:az (x.told k)=true) (hn:¬di l x) (hl:l.length<most):cE k (Qm l x) most:=
 ⟨by rw[xE];omega,fun a ha=>by rcases rH ha with rfl|ha;exact hx;exact h.2.1 a ha,Et h.2.2 hn⟩
theorem Fv (h:cE k l most) (hx:az (x.told k)=true) (hh:di l x):cE k (gL l (PJ l x) x) most:=
 ⟨by rw[wj hh];exact h.1,fun a ha=>by rcases rG ha with rfl|ha;exact hx;exact h.2.1 a ha,Es h.2.2 hh (iW hh)⟩
theorem Fy (h:cE k l most) (hi:i<l.length):cE k (dI l i) most:=
 ⟨by have:=nS hi;have:=h.1;omega,fun a ha=>h.2.1 a (rI ha),Eu h.2.2 i⟩
theorem pQ {turns} (h:cE k l most) (hx:az (x.told k)=true) (h0:(Oc l x next most turns).2=0):cE k (Oc l x next most turns).1 most/\∀a∈(Oc l x next most turns).1,a=x\/a∈l:=by
 unfold Oc at h0 ⊢
 by_cases h1:di l x/\turns=true
 .rw[if_pos h1];exact⟨Fv h hx h1.1,fun a ha=>rG ha⟩
 .rw[if_neg h1]at h0 ⊢
  by_cases h2:di l x\/x.id<next
  .rw[if_pos h2]at h0;cases h0
  .rw[if_neg h2]at h0 ⊢
   by_cases h3:most<=l.length
   .rw[if_pos h3]at h0;cases h0
   .rw[if_neg h3]
    exact⟨Fx h hx (fun hh=>h2 (Or.inl hh)) a?,fun a ha=>rH ha⟩
theorem rM (h:cE k l most) (h0:(OU l x).2=0):cE k (OU l x).1 most/\∀a∈(OU l x).1,a∈l:=by
 unfold OU at h0 ⊢
 by_cases h1:di l x
 .rw[if_pos h1];exact⟨Fy h h1,fun a ha=>rI ha⟩
 .rw[if_neg h1]at h0;cases h0
theorem tM (h:r.kind=k):r.item.told k=r:=by subst h;rfl
theorem nI (h:az r=true):r.kind=1\/r.kind=2\/r.kind=3\/r.kind=4\/r.kind=5\/r.kind=6:=by
 unfold az gq S4 Px at h
 simp only[No,Bool.or_eq_true,beq_iff_eq]at h
 omega
theorem xw (h:az r=true):r.id<=4294967294:=by
 unfold az gq at h
 simp only[No,decide_eq_true_eq]at h
 exact h.2.2.1
theorem tY {c} (hc:OL c) (hr:az r=true) (hid:0<=r.id) (h0:(aW c r).2=0):OL (aW c r).1:=by
 have⟨b,nb,m,nm,n⟩:=hc
 unfold aW at h0 ⊢
 by_cases k1:r.kind=1
 .rw[if_pos k1]at h0 ⊢
  have hh:(Oc c.boxes r.item c.nextBox 2048 false).2=0:=h0
  have⟨g1,g2⟩:=pQ b (by rw[tM k1];exact hr) hh
  refine⟨g1,⟨by show 1<=r.id+1;omega,fun a ha=>?_⟩,m,nm,n⟩
  rcases g2 a ha with rfl|ha
  .show r.id<r.id+1;omega
  .have h1:=nb.2 a ha
   have h2:¬r.id<c.nextBox:=fun NV=>by
    unfold Oc at hh
    by_cases q1:di c.boxes r.item/\false=true
    .cases q1.2
    .rw[if_neg q1,if_pos (show di c.boxes r.item\/r.item.id<c.nextBox from Or.inr NV)]at hh;cases hh
   show a.id<r.id+1
   omega
 .rw[if_neg k1]at h0 ⊢
  by_cases k2:r.kind=2
  .rw[if_pos k2]at h0 ⊢
   have⟨g1,g2⟩:=pQ m (by rw[tM k2];exact hr) h0
   refine⟨b,nb,g1,⟨by show 1<=max c.nextMan (r.id+1);omega,fun a ha=>?_⟩,n⟩
   rcases g2 a ha with rfl|ha
   .show r.id<max c.nextMan (r.id+1);omega
   .have:=nm.2 a ha
    show a.id<max c.nextMan (r.id+1);omega
  .rw[if_neg k2]at h0 ⊢
   by_cases k3:r.kind=3
   .rw[if_pos k3]at h0 ⊢
    exact⟨b,nb,m,nm,(pQ n (by rw[tM k3];exact hr) h0).1⟩
   .rw[if_neg k3]at h0 ⊢
    by_cases k4:r.kind=4
    .rw[if_pos k4]at h0 ⊢
     have⟨g1,g2⟩:=rM b h0
     exact⟨g1,⟨nb.1,fun a ha=>nb.2 a (g2 a ha)⟩,m,nm,n⟩
    .rw[if_neg k4]at h0 ⊢
     by_cases k5:r.kind=5
     .rw[if_pos k5]at h0 ⊢
      have⟨g1,g2⟩:=rM m h0
      exact⟨b,nb,g1,⟨nm.1,fun a ha=>nm.2 a (g2 a ha)⟩,n⟩
     .rw[if_neg k5]at h0 ⊢
      exact⟨b,nb,m,nm,(rM n h0).1⟩
theorem wL {l}:∀{c:au},OL c->(∀r∈l,0<=r.id)->(cH c l).2=0->OL (cH c l).1:=by
 induction l with
 |nil=>intro c h _ _;exact h
 |cons r l ih=>
  intro c h hid h0
  unfold cH at h0 ⊢
  by_cases h1:az r=true
  .rw[if_pos h1]at h0 ⊢
   by_cases h2:(aW c r).2=0
   .rw[if_pos h2]at h0 ⊢
    exact ih (tY h h1 (hid r MY) h2) (fun q hq=>hid q (Nz _ hq)) h0
   .rw[if_neg h2]at h0;exact absurd h0 h2
  .rw[if_neg h1]at h0;cases h0
def Ov (c:au):List ag:=c.boxes.map (·.told 1)++c.mans.map (·.told 2)++c.names.map (·.told 3)
def OK (c:au):List (Int×Int):=((Ov c).map (·.runs)).flatten
def cJ (cur:List Value) (o:Nat) (vs:List Value):List Value:=cur.take o++(vs++cur.drop (o+vs.length))
theorem gV (h:o+vs.length<=cur.length):(cJ cur o vs).length=cur.length:=by
 unfold cJ;rw[tN,tN,MO,MQ];omega
theorem Ej (cur o):cJ cur o []=cur:=by unfold cJ;simp
theorem B9 {r} (h:o<cur.length):cJ (cur.set o v) (o+1) r=cJ cur o (v::r):=by
 unfold cJ
 have e1:(cur.set o v).take (o+1)=cur.take o++[v]:=by
  rw[MI T?,List.getElem_set_self,List.take_set_of_le (MG _)]
 have e2:(cur.set o v).drop (o+1+r.length)=cur.drop (o+(v::r).length):=by
  rw[List.drop_set_of_lt a?,Nj]
  congr 1;omega
 rw[e1,e2]
 simp
theorem ae.oV {b} {t:TypeId}:∀(vs:List Value) (o:Nat) {w:World} {cur:List Value},ae w b cur.toArray t->o+vs.length<=cur.length->ae (w.setCells b o vs) b (cJ cur o vs).toArray t
 |[],o,w,cur,h,_=>by rw[Ej];exact h
 |v::r,o,w,cur,h,hl=>by
  rw[Nj]at hl
  have h1:=h.set o v
  rw[List.setIfInBounds_toArray]at h1
  have h2:=ae.oV r (o+1) h1 (by rw[List.length_set];omega)
  rw[B9 a?]at h2
  exact h2
theorem fA {S w0 b} (hb:b∈S\/w0.heap.size<=b):∀(vs:List Value) (o:Nat) {w:World},NP S w0 w->NP S w0 (w.setCells b o vs)
 |[],_,_,h=>h
 |v::r,o,w,h=>fA hb r (o+1) (h.setCell (by exact hb) v)
theorem ae.CK {b g} {t:TypeId} {cs} (hg:b≠g):∀(vs:List Value) (o:Nat) {w:World},ae w b cs t->ae (w.setCells g o vs) b cs t
 |[],_,_,h=>h
 |v::r,o,w,h=>ae.CK hg r (o+1) (h.other (by exact hg) v)
theorem oU (h:o+vs.length<=cur.length):(cJ cur o vs).take (o+vs.length)=cur.take o++vs:=by
 unfold cJ
 have hl:(cur.take o).length=o:=w?
 rw[<-MW,NC ab!,Nh ab!]
theorem Ek {k} (h:o<=cur.length) (hk:k<=o):(cJ cur o vs).take k=cur.take k:=by
 unfold cJ
 rw[NC w?,List.take_take,Nat.min_eq_left hk]
def bO (w:World) (v:Value) (n k:Nat) (xs:List Value):Prop:=
 xs.length=n*k/\((n=0/\∃a c,v=.slice a 0 c)\/∃b off c,v=.slice (some ⟨b,off,none⟩) n c/\(∀j u,xs[j]? =some u->w.cell? ⟨b,off+j,none⟩=some u)/\b<w.heap.size/\0<n/\n<=c/\c<=maxLen)
theorem bO.kept0 {w' k} (h:bO w v n k xs) (q:NP [] w w'):bO w' v n k xs:=by
 refine⟨h.1,?_⟩
 rcases h.2 with h2|⟨b,off,c,e,h3,h4,h5⟩
 .exact Or.inl h2
 .exact Or.inr ⟨b,off,c,e,fun j u hj=>(q.cell (by exact h4) b?).trans (h3 j u hj),MR h4 q.size,h5⟩
theorem bO.shape {k} (h:bO w v n k xs):∃p c,v=.slice p n c:=by
 rcases h.2 with⟨rfl,a,c,rfl⟩|⟨b,off,c,rfl,_⟩
 .exact⟨a,c,rfl⟩
 .exact⟨_,c,rfl⟩
theorem bO.bB {base} {e:TypeId} {k} (h:w.ownsRow base e k v n xs):bO w v n k xs:=by
 refine⟨h.1,?_⟩
 rcases h.2 with⟨rfl,rfl⟩|⟨g,c,cur,rfl,g1,g2,g3,g4,g5,g6⟩
 .exact Or.inl ⟨rfl,_,_,rfl⟩
 .by_cases h0:n=0
  .subst h0;exact Or.inl ⟨rfl,_,_,rfl⟩
  .refine Or.inr ⟨g,0,c,rfl,fun j u hj=>?_,NK g2,a?,g3,g4⟩
   have:=h.cells (g:=g) rfl j u hj
   rw[Ni]at this
   exact this
theorem bO.at_ {p:Option Addr} {c k:Nat} (h:bO w (p,n,c) n k xs) (hn:0<n):∃b off,p=some ⟨b,off,none⟩/\(∀j u,xs[j]? =some u->w.cell? ⟨b,off+j,none⟩=some u)/\b<w.heap.size/\n<=c/\c<=maxLen:=by
 rcases h.2 with⟨h0,_⟩|⟨b,off,c',e,h3,h4,h5,h6,h7⟩
 .omega
 .injection e with e1 _ e3
  subst e1 e3
  exact⟨b,off,rfl,h3,h4,h6,h7⟩
theorem bO.sub {b off c k} (h:bO w (.slice (some (aa b off)) n c) n k xs) (i j) (VM:i<=j) (hj:j<=n):bO w (.slice (some (aa b (off+i*k))) (j-i) (c-i)) (j-i) k ((xs.drop (i*k)).take ((j-i)*k)):=by
 have hl:((xs.drop (i*k)).take ((j-i)*k)).length=(j-i)*k:=by
  rw[MO,MQ,h.1]
  have h1:(j-i)*k+i*k<=n*k:=by rw[<-Nat.add_mul];exact Nat.mul_le_mul_right k a?
  omega
 refine⟨hl,?_⟩
 by_cases h0:j-i=0
 .rw[h0];exact Or.inl ⟨rfl,_,_,rfl⟩
 .have⟨b',off',e,h3,h4,h6,h7⟩:=h.at_ a?
  injection e with e
  injection e with e1 e2 _
  subst e1 e2
  refine Or.inr ⟨b,off+i*k,c-i,rfl,fun q u hq=>?_,h4,a?,a?,a?⟩
  have hq':=(Nn.1 hq).1
  rw[hl]at hq'
  rw[List.getElem?_take_of_lt hq',List.getElem?_drop]at hq
  rw[Nat.add_assoc]
  exact h3 _ u hq
theorem kB {P:Program} (w) (dT sT ty elem:TypeId) (k b o XH dCap) (a:Addr) (sLen sCap m cs) (hu:P.underlying dT=some (.slice elem)) (hs:(P.info? elem).map (·.size)=some k) (hm:Nat.min sLen XH=m) (hn:cs.length=m*k) (P4:∀j v,cs[j]? =some v->w.cell? (a.add j)=some v) (hc:∀j,j<cs.length->(w.cell? ⟨b,o+j,none⟩).isSome=true) (hf:∀j,j<cs.length->w.frozen? ⟨b,o+j,none⟩=false) (h1:∀v∈cs,v.oneCell'=true):
  (Builtin.copy_ #[dT,sT] ty #[.slice (some (aa b o)) XH dCap,.slice (some a) sLen sCap]).run P w=.ok (m:Int) (w.setCells b o cs):=by
 have hl:=run_loadCells_list (P:=P) w a cs P4
 have Oo:=run_storeCells_cells (P:=P) b o cs 0 w (by simpa using hc) (by simpa using hf) h1
 cases hq:P.info? elem with
 |none=>simp[hq]at hs
 |some i=>
  simp[hq]at hs
  rw[hn]at hl
  simp[Builtin.copy_,run_underlying hu,Builtin.lenOf,Builtin.firstCells,sizeOf,typeInfo,hq,hs,hm,hl,Oo,goInt]
theorem fg:∃i,prog.info? 113=some i/\i.zero=some (.agg #[.int .u32 0,.string {data:=#[]},(0:Int),()])/\i.size=4/\i.bytes=56:=by
 have hi:(prog.info? 113).map (fun i=>(i.zero,i.size,i.bytes))=some (some (.agg #[.int .u32 0,.string {data:=#[]},(0:Int),()]),4,56):=c?
 exact Yh
def NX (vs:List (NS×Value)):List Value:=(vs.map fun x=>[Value.int .u32 x.1.id,Value.string (bs x.1.name),Value.int .i64 x.1.size,x.2]).flatten
theorem gK (x:NS×Value) (vs):NX (x::vs)=Value.int .u32 x.1.id::Value.string (bs x.1.name)::Value.int .i64 x.1.size::x.2::NX vs:=rfl
theorem fx (a b):NX (a++b)=NX a++NX b:=by unfold NX;rw[M0,Nv]
theorem tb (vs):(NX vs).length=vs.length*4:=by
 induction vs with
 |nil=>rfl
 |cons a l ih=>rw[gK];simp only[Nj,ih];omega
theorem gJ (vs i):(NX vs).take (i*4)=NX (vs.take i):=by
 induction vs generalizing i with
 |nil=>simp[NX]
 |cons a l ih=>
  cases i with
  |zero=>simp[NX]
  |succ i=>
   rw[List.take_succ_cons,gK,gK,show(i+1)*4=i*4+1+1+1+1 by omega]
   simp only[List.take_succ_cons,ih]
theorem fL (vs i):(NX vs).drop (i*4)=NX (vs.drop i):=by
 induction vs generalizing i with
 |nil=>simp[NX]
 |cons a l ih=>
  cases i with
  |zero=>simp[NX]
  |succ i=>
   rw[List.drop_succ_cons,gK,show(i+1)*4=i*4+1+1+1+1 by omega]
   simp only[List.drop_succ_cons,ih]
theorem tc (l i) (h:i<l.length):(NX l)[i*4]? =some (.int .u32 l[i].1.id)/\(NX l)[i*4+1]? =some (.string (bs l[i].1.name))/\(NX l)[i*4+2]? =some (.int .i64 l[i].1.size)/\(NX l)[i*4+3]? =some l[i].2:=by
 have e:=fL l i
 rw[List.drop_eq_getElem_cons h,gK]at e
 have g:∀j,(NX l)[i*4+j]? =((NX l).drop (i*4))[j]? :=fun j=>by rw[List.getElem?_drop]
 have g0:=g 0
 rw[Nat.add_zero]at g0
 rw[g0,g 1,g 2,g 3,e]
 exact⟨rfl,rfl,rfl,rfl⟩
def fP (v:Value):Prop:=∃p n c,v=.slice p n c
theorem fB {vs} (h:∀x∈vs,fP x.2):∀u∈NX vs,u.oneCell'=true:=by
 induction vs with
 |nil=>intro u hu;simp[NX]at hu
 |cons a l ih=>
  intro u hu
  rw[gK]at hu
  simp only[List.mem_cons]at hu
  rcases hu with rfl|rfl|rfl|rfl|hu
  .rfl
  .rfl
  .rfl
  .have⟨p,n,c,e⟩:=h a MY
   rw[e];rfl
  .exact ih (fun x hx=>h x (Nz _ hx)) u hu
theorem sd (v n xs w) (h:bO w v n 4 xs) (h1:∀u∈xs,u.oneCell'=true) (hn:n<=1000000):
  am! 127 #[v] w fun e w'=>∃v',e=.returned v'/\w'.ownsRow w 113 4 v' n xs/\NP [] w w':=by
 have⟨i0,hi0,Rh,Qc,Qx⟩:=fg
 have q22:=fun w a n c n' c'=>Lib.run_eql_slice_nil w _ _ a n c n' c' underlying50
 obtain⟨p,c,rfl⟩:=h.shape
 cases p with
 |none=>
  have Wx:n=0:=by
   rcases h.2 with⟨h,_⟩|⟨b,off,c',e,_⟩
   .exact h
   .simp at e
  subst Wx
  have hx:xs=[]:=Nc (by rw[h.1])
  subst hx
  clear h h1
  go_enter func127,ntmps127
  go_wp2_with fail
  go_ret
  exact⟨_,rfl,Nf _ _ _ _,NP.refl _ _⟩
 |some ad=>
  have Ou:∀j u,xs[j]? =some u->w.cell? (ad.add j)=some u:=by
   rcases h.2 with⟨h0,_⟩|⟨b,off,c',e,h2,_⟩
   .intro j u hj
    have hx:xs=[]:=Nc (by rw[h.1];omega)
    subst hx;simp at hj
   .injection e with e1 _ e3
    injection e1 with e1
    subst e1
    intro j u hj
    rw[Ni]
    exact h2 j u hj
  have⟨A,VP,HR2⟩:=gg! Ou h.1 h1
  clear Ou h h1
  go_enter func127,ntmps127
  go_wp2_with (at_builtin;refine wpList_append_own _ rfl _ _ 50 rfl w 113 i0 _ 4 56 underlying50 hi0 Rh Qc Qx rfl d? _ _ _ rfl (World.ownsRow_made w #[] 0 (MG _) (Nb _) b?) ad n c xs rfl ?qc1 ?qc2 ?qc3 ?qc4 ?qc5 ?qc6 ?_)
  case qc1=>exact VP.out
  case qc2=>intro j u hj;exact Lib.cell?_alloc_some _ (A.out j u hj)
  case qc3=>exact HR2.out
  case qc4=>unfold maxLen;omega
  case qc5=>omega
  case qc6=>simp
  intro v' w1 Ot Pi Qw
  have P0:w1.ownsRow w 113 4 v' n xs:=by simpa using Ot
  exact M67
def XI (x y:Int):Int:=if x<y then -1 else if x=y then 0 else 1
theorem M41 (h:A:=by
 go_enter func267,ntmps267
 go_wp2_with fail
 refine(hn _ _).mono ?_;rintro e w1 ⟨rfl,rfl⟩
 go_wp2_with fail
 refine(hn _ _).mono ?_;rintro e w1 ⟨rfl,rfl⟩
 go_wp2_with fail
 go_ret
 exact⟨rfl,rfl⟩):A:=h
theorem Kp (x y w):am! 267 #[(x,()),(y,())] w fun e w'=>e=(XI x y:Int)/\w=w':=by
 have hn:∀(x:Int) W,am! 290 #[(x,())] W fun e w'=>e=false/\W=w':=fun x W=>by
  go_enter func290,ntmps290
  go_wp2_with fail
  go_ret
  exact⟨rfl,rfl⟩
 unfold XI
 rcases Int.lt_trichotomy x y with h|h|h
 .rw[if_pos h]
  exact M41
 .subst h
  rw[if_neg a?,if_pos rfl]
  exact M41
 .have h1:¬x<y:=a?
  have h2:¬x=y:=a?
  rw[if_neg h1,if_neg h2]
  exact M41
theorem adq (h:A:=by
 rw[rounds_succ]
 go_wp2_with fail
 rw[rounds_succ]
 go_wp2_with fail
 go_ret
 exact⟨rfl,rfl⟩):A:=h
theorem MA (x y:Int) (b:Nat) (w:World) (h0:w.cell? b=x) (h1:w.cell? (aa b 1)=y):
  am! 266 #[.slice (some b) 2 2] w fun e w'=>e=(if x=0 then y else x:Int)/\w=w':=by
 by_cases hx:x=0
 .subst hx
  rw[if_pos rfl]
  by_cases hy:y=0
  .subst hy
   go_enter func266,ntmps266
   go_wp2_with fail
   refine wp_loop_rounds 3 ?_
   rw[rounds_succ]
   go_wp2_with fail
   exact adq
  .go_enter func266,ntmps266
   go_wp2_with fail
   refine wp_loop_rounds 3 ?_
   exact adq
 .rw[if_neg hx]
  go_enter func266,ntmps266
  go_wp2_with fail
  refine wp_loop_rounds 3 ?_
  rw[rounds_succ]
  go_wp2_with fail
  go_ret
  exact⟨rfl,rfl⟩
theorem Hz (a b):(if XI a.id b.id=0 then Zx a.name b.name else XI a.id b.id)=mu a b:=by
 unfold XI Zx mu bY cO
 rcases Int.lt_trichotomy a.id b.id with h|h|h
 .rw[if_pos h];simp[h]
 .rw[h]
  simp
 .have h1:¬a.id<b.id:=a?
  have h2:¬a.id=b.id:=a?
  simp[h1,h2]
theorem BL (a b va vb w):am! 233 #[.agg (a.cells va),.agg (b.cells vb)] w fun e w'=>e=(mu a b:Int)/\NP [] w w':=by
 rw[<-Hz]
 have hc:=fun W=>Kp a.id b.id W
 have hs:=fun W=>strings_Compare (bs a.name) (bs b.name) W
 simp only[cC,zT]at hs
 unfold NS.cells
 have k0:=((NP.refl [] w).alloc (.cells #[(a.id,()),a.name,a.size,va] 113)).alloc (.cells #[(b.id,()),b.name,b.size,vb] 113)
 have⟨oA,oB⟩:=ch w #[(a.id,()),a.name,a.size,va] #[(b.id,()),b.name,b.size,vb] 113 113
 have⟨a0,a1,a2,a3⟩:=oA.c4
 have⟨b0,b1,b2,b3⟩:=oB.c4
 clear oA oB
 generalize XI a.id b.id=C at*
 generalize Zx a.name b.name=D at*
 have ho:=fun b W h0 h1=>MA C D b W h0 h1
 obtain⟨R,hR⟩:∃R,(if C=0 then D else C)=R:=⟨_,rfl⟩
 simp only[hR]at ho ⊢
 clear hR
 generalize bs a.name=NA at*
 generalize bs b.name=NB at*
 go_enter func233,ntmps233
 go_wp2_with fail
 refine MK (S:=(fun W=>W.cell? w=(a.id,())/\W.cell? (aa w 1)=some (.string NA)/\W.cell? (aa (w+1) 0)=(b.id,())/\W.cell? (aa (w+1) 1)=some (.string NB))) c? (by go_keep) (fun hHeld=>?_)
 refine tS ?_
 refine rD 4 (fun K hK=>?_)
 go_simp
 ((with_reducible refine(hc _).mono ?_));rintro e w' ⟨rfl,rfl⟩
 go_wp2_with fail
 refine hK.out _ _ ?_ (fun hHeld=>nM ?_)
 .go_keep
 clear hK K
 refine rD 9 (fun K hK=>?_)
 go_simp
 ((with_reducible refine(hs _).mono ?_));rintro e w' ⟨rfl,rfl⟩
 go_wp2_with fail
 refine hK.out _ _ ?_ (fun hHeld=>nM ?_)
 .go_keep
 clear hK K
 refine rD 10 (fun K hK=>?_)
 go_simp
 refine hK.out _ _ ?_ (fun hHeld=>nM ?_)
 .go_keep
 clear hK K
 refine rD 11 (fun K hK=>?_)
 go_simp
 ((with_reducible refine(ho _ _ ?_ ?_).mono ?_))
 .go_simp
 .go_simp
 rintro e w' ⟨rfl,rfl⟩
 go_wp2_with fail
 refine hK.out _ _ ?_ (fun hHeld=>nM ?_)
 .go_keep
 clear hK K
 refine tS ?_
 refine Ng c? ?_ _
 go_wp2_with fail
 go_ret
 exact⟨rfl,(k0.drew.alloc _)⟩
end
end Go.Proofs.YtdkimcnlhmhpgaaGreat
