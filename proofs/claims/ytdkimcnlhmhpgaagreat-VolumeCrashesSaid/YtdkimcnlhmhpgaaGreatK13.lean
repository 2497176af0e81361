/- -/
import Derived.Test.YtdkimcnlhmhpgaaGreatK10
set_option maxHeartbeats 16000000
set_option maxRecDepth 100000
set_option linter.unusedVariables false
namespace Go.Proofs.YtdkimcnlhmhpgaaGreat
open Go.RowKit Go.Shelf
attribute [local go_sem] Oper.semAt_some
def tc (d:DK) (l:List (Int×Int)) (size:Int) (w:World) (e:Ending) (w':World):Prop:=e=.returned (.tuple #[.string (bs (Ov d l size)),.int .i64 (Nr d l size)])/\aa [] w w'
theorem F9:∃i,Tryz.prog.info? 5=some i/\i.zero=some (.int .u8 0)/\i.size=1/\i.bytes=1:=by
 have hi:(Tryz.prog.info? 5).map (fun i=>(i.zero,i.size,i.bytes))=some (some (.int .u8 0),1,1):=by kernel_rfl
 exact VQ
theorem M93 {A:Prop}(h:A:=by
 simp only[MK]at this
 exact(k1.trans (((aa.refl [] w1).alloc _).trans k2)).own this (by simp)):A:=h
theorem L2 {Inv:DK->World->Prop} {b:Nat} (O:s9 Inv b) (d:DK) (v:Value) (l:List (Int×Int)) (size:Int) (lo hi:Nat) (w:World) (hI:Inv d w) (h:af w v l lo hi) (hl:l.length<=1000000) (Ox:∀a∈l,aU a)
  (O4:(Lit.int .i64 size).wf=true):
  Calls Tryz.prog 60 #[.pointer (some ⟨b,0,none⟩),v,.int .i64 size] w (tc d l size w):=by
 have HC:∀W,aa [] w W->Calls Tryz.prog 104 #[.pointer (some ⟨b,0,none⟩),v,.int .i64 size] W fun e w'=>e=.returned (.int .i64 (Nr d l size))/\aa [] W w':=fun W k=>Ep O d v l size lo hi W (O.keep hI k) (h.kept0 k) hl Ox O4
 have HE:∀W,aa [] w W->Calls Tryz.prog 105 #[v] W fun e w'=>∃f,e=.returned f/\aa [] W w'/\uB 5 w.heap.size l f w':=fun W k=>Er 5 (by omega) w.heap.size v l 0 w.heap.size W (h.wide.kept0 k) hl Ox (Md _) k.size
 have HR:∀W,aa [] w W->∀i:Nat,Calls Tryz.prog 62 #[.pointer (some ⟨b,0,none⟩),.int .i64 ((i:Nat):Int)] W fun e w'=>e=.returned (.tuple #[.string (bs (Og d i)),.int .i64 (N7 d i)])/\W=w':=fun W k i=>O.readC _ (O.keep hI k)
 have N4:=O.fit hI
 have hlen:=O.len hI
 clear h Ox hI
 have k3:=(((aa.refl [] w).alloc (.cells #[.pointer (some ⟨b,0,none⟩)] 23)).alloc (.cells #[.string ⟨#[]⟩] 9)).alloc (.cells #[.int .i64 0] 24)
 by_cases hG:Nr d l size=0
 .have hX:dA l d.stand.length size/\¬d.down=true:=by
   unfold Nr at hG
   by_cases hf:dA l d.stand.length size
   .rw[if_pos hf]at hG
    by_cases hd:d.down=true
    .rw[if_pos hd]at hG;omega
    .exact⟨hf,hd⟩
   .rw[if_neg hf]at hG;omega
  have hGX:Ov d l size=(fH d (Nu l)).take size.toNat:=by unfold Ov;rw[if_pos hG]
  have UD:=hX.1.Bf
  have hsE:jq l=Nu l:=vq hX.1
  have hal:(Nu l).length<=8192:=by rw[<-hsE];exact nS l
  have R9:0<=size:=hX.1.1
  have acp:∀x∈Nu l,N7 d (x:Int)=0:=fun x hx=>by
   have:=(hX.1.lt hx).1
   unfold N7
   rw[if_neg hX.2,if_neg (by omega)]
  unfold tc
  obtain⟨sz,rfl⟩:=Mr R9
  rw[ML]at hGX
  obtain⟨GL,hGL⟩:∃GL,fH d (Nu l)=GL:=⟨_,rfl⟩
  rw[hGL]at hGX
  rw[hG,hGX]
  rw[hG]at HC
  have Xv:(fH d (Nu l)).length=128*(Nu l).length:=sO N4 (fun y hy=>by obtain⟨_,h1,h2⟩:=fW (acp y hy);omega)
  have hle:sz<=GL.length:=by
   rw[<-hGL,Xv]
   have:=UD
   unfold Nv at this
   split at this<;>omega
  have aef:GL.length<=1048576:=by rw[<-hGL,Xv];omega
  have HGL:=Mb hGL
  clear hGX hG R9 Xv hGL hX UD O4
  refine(callsIn_wide (n:=6)).1 ?_
  refine callsIn_of_wp_marks Tryz.func60 rfl trivial ?_ rfl
  simp only[Tryz.ntmps60,List.size_toArray,Mz,List.length_nil,Nat.reduceAdd,Nat.reduceSub,Array.replicate_succ,Array.replicate_zero,List.push_toArray,List.append_toArray,Nd,List.cons_append]
  refine wpIn_wide.2 ?_
  go_wp2_with fail
  refine(HC _ k3).mono ?_;rintro e w1 ⟨rfl,k1⟩
  have k31:=k3.trans k1
  have abZ:=k31.alloc (.cells #[.slice none 0 0] 61)
  go_wp2_with fail
  refine(HE _ abZ).mono ?_;rintro e w2 ⟨f,rfl,k2,B1,B2,rfl,hT⟩
  go_wp2_with fail
  have Tj:=abZ.trans k2
  have o3:ae w2 w.heap.size #[.pointer (some ⟨b,0,none⟩)] 23:=(k1.trans (((aa.refl [] w1).alloc _).trans k2)).own (((ae.new w #[.pointer (some ⟨b,0,none⟩)] 23).alloc _).alloc _) (by simp)
  have o6:ae w2 (w.heap.size+1) #[.string ⟨#[]⟩] 9:=by
   have:=(ae.new (w.alloc (.cells #[.pointer (some ⟨b,0,none⟩)] 23)) #[.string ⟨#[]⟩] 9).alloc (.cells #[.int .i64 0] 24)
   exact M93
  have o7:ae w2 (w.heap.size+1+1) #[.int .i64 0] 24:=by
   have:=ae.new ((w.alloc (.cells #[.pointer (some ⟨b,0,none⟩)] 23)).alloc (.cells #[.string ⟨#[]⟩] 9)) #[.int .i64 0] 24
   exact M93
  have o9:ae w2 w1.heap.size #[.slice none 0 0] 61:=k2.own (ae.new w1 _ _) (by simp)
  have Q6:w.heap.size+3<=w1.heap.size:=by have:=k1.size;simpa using this
  have Qt:w1.heap.size+1<=w2.heap.size:=by have:=k2.size;simpa using this
  obtain⟨i0,q0,q1,q2,q3⟩:=F9
  have hN8:=nS l
  refine(wpIn_wide (n:=6)).1 ?_
  refine wpIn_rangeFunc_ownG rfl (by omega) (gf:=179) (lb:=#[.pointer (some ⟨B1,0,none⟩),.pointer (some ⟨B2,0,none⟩)]) rfl trivial (enters_of Tryz.func179 (by kernel_rfl) rfl)
   hT (fun h k=>mD.trans h k) (mD.JK (w:=w2) (by omega)) (Below.refl _ w2) (fun _=>rfl)
   (fun(pre:List Nat) W=>(∃v,Boxed W w1.heap.size 61 v/\W.ownsRow w1.heap.size 5 1 v (fH d pre).length (Lib.strCells (bs (fH d pre)))/\∀x∈pre,N7 d (x:Int)=0)/\Below w1.heap.size w2 W)
   (fun c (pre:List Nat) W=>∃x∈pre,¬N7 d (x:Int)=0)
   (OwnFrom.and (Go.Own.from (holdsRow_own w1.heap.size w1.heap.size 61 5 1 (fun pre:List Nat=>(fH d pre).length) (fun pre:List Nat=>Lib.strCells (bs (fH d pre))) (fun(pre:List Nat) v=>∀x∈pre,N7 d (x:Int)=0)) _) (ownFrom_below (by omega) (by omega)))
   (fun c=>ownFrom_pure _ (fun pre:List Nat=>∃x∈pre,¬N7 d (x:Int)=0))
   ⟨⟨_,o9,MG _ _ _ _,fun x hx=>by cases hx⟩,Below.refl _ w2⟩
   (fun x=>{tmps:=#[.pointer (some ⟨b,0,none⟩),v,.int .i64 sz,.pointer (some ⟨w.heap.size,0,none⟩),undef,undef,.pointer (some ⟨w.heap.size+1,0,none⟩),.pointer (some ⟨w.heap.size+1+1,0,none⟩),.int .i64 0,.pointer (some ⟨w1.heap.size,0,none⟩),.int .i64 ((x:Nat):Int),undef,undef,.pointer (some ⟨b,0,none⟩),v,.int .i64 sz,.int .i64 0,.int .i64 0,.bool false,undef,v,.func (.func 179) #[] #[.pointer (some ⟨B1,0,none⟩),.pointer (some ⟨B2,0,none⟩)],.int .i64 ((x:Nat):Int),undef,undef,undef,undef,undef,undef,undef,undef,undef,undef,undef,undef,undef,undef,undef,undef],defers:=[]}) ?assign ?body ?done ?stop
  case assign=>
   intro l x W K hK
   gi_wp2
   exact hK
  case body=>
   rintro lp pre x W ⟨⟨u,hv,Nt,Q2⟩,hB⟩ Ns
   have kW:=oG Tj hB (by omega)
   have hc:=hv.cell
   have VJ:W.cell? ⟨w.heap.size,0,none⟩=some (.pointer (some ⟨b,0,none⟩)):=(hB.cell (p:=⟨w.heap.size,0,none⟩) (by show w.heap.size<w1.heap.size;omega)).trans (o3.cell 0 (by simp))
   have hRx:=HR W kW x
   have adb:=hB.size
   by_cases hz:N7 d (x:Int)=0
   .have e1:Og d (x:Int)=seen d x:=by unfold Og;rw[if_pos hz];rfl
    rw[e1,hz]at hRx
    obtain⟨_,hx1,Vz⟩:=fW hz
    have Px:=hZ N4 (show x<d.stand.length by omega)
    have Xv:(fH d pre).length=128*pre.length:=sO N4 (fun y hy=>by obtain⟨_,h1,h2⟩:=fW (Q2 y hy);omega)
    have hss:(bs (seen d x)).size=128:=by rw[Nj,Px]
    have abr:fH d (pre++[x])=fH d pre++seen d x:=by unfold fH;simp
    have XS:∀y∈pre++[x],N7 d (y:Int)=0:=fun y hy=>by
     rcases Mj.1 hy with hy|hy
     .exact Q2 y hy
     .have:y=x:=by simpa using hy
      subst this;exact hz
    obtain⟨nl,hnl⟩:∃nl,(fH d pre).length=nl:=⟨_,rfl⟩
    rw[hnl]at Nt Xv
    have TG:nl+(bs (seen d x)).size<=140737488355328:=by omega
    have Qo:nl+(bs (seen d x)).size<=maxLen:=by unfold maxLen;omega
    have HNL:=Mb hnl
    clear hnl Xv hx1 Vz
    obtain⟨pu,cu,rfl⟩:=ai Nt
    gi_wp2_with (first
     |(refine⟨trivial,?_⟩;gi_at_call 62;refine(CallsIn.inRound lp (callsIn_wide.2 hRx)).mono ?_;rintro e w3 ⟨rfl,rfl⟩)
     |(gi_at_builtin;refine ko _ rfl (.tmp 32) (.tmp 33) 61 9 rfl w1.heap.size 5 i0 Tryz.underlying61 Tryz.underlying9 q0 q1 q2 q3 _ _ _ rfl Nt (bs (seen d x)) rfl Qo TG (by omega) ?_;intro v' w4 P4 Om _;rw[hss]at P4;obtain⟨g',cap',rfl⟩:=xp P4 (by omega);obtain⟨SV,Yt,QU,P9,Zx⟩:=Boxed.Es hv (by decide) Nt (by omega) (Md _) P4 Om;have Rt:=SV.cell;have hf1:=SV.frozen))
    refine⟨P9.from _,zt hv (by decide) Nt (by decide) Om (Zx.mono (show w.heap.size<=w1.heap.size by omega)),⟨_,Yt,?_,XS⟩,hB.trans Zx⟩
    rw[abr,tq,Mc,HNL.out,Px]
    exact QU
   .have e1:Og d (x:Int)=[]:=by unfold Og;rw[if_neg hz]
    rw[e1]at hRx
    obtain⟨G,hGq⟩:∃G,N7 d (x:Int)=G:=⟨_,rfl⟩
    rw[hGq]at hRx
    have PS:¬G=0:=hGq▸hz
    have e2:(G != 0)=true:=by simp[PS]
    have HZ:=Mb hz
    clear hz hGq
    have c6:=(hB.cell (p:=⟨w.heap.size+1,0,none⟩) (by show w.heap.size+1<w1.heap.size;omega)).trans (o6.cell 0 (by simp))
    have z6:=(hB.frozen (p:=⟨w.heap.size+1,0,none⟩) (by show w.heap.size+1<w1.heap.size;omega)).trans (o6.free 0)
    have c7:=(hB.cell (p:=⟨w.heap.size+1+1,0,none⟩) (by show w.heap.size+1+1<w1.heap.size;omega)).trans (o7.cell 0 (by simp))
    have z7:=(hB.frozen (p:=⟨w.heap.size+1+1,0,none⟩) (by show w.heap.size+1+1<w1.heap.size;omega)).trans (o7.free 0)
    gi_wp2_with (refine⟨trivial,?_⟩;gi_at_call 62;refine(CallsIn.inRound lp (callsIn_wide.2 hRx)).mono ?_;rintro e w3 ⟨rfl,rfl⟩)
    exact⟨((KeepsOthers.setCell _ _ _).trans (KeepsOthers.setCell _ _ _)).from _,x,by simp,HZ.out⟩
  case done=>
   rintro D xs W hD rfl ⟨⟨u,hv,Nt,Q2⟩,hB⟩ hK
   have kW:=oG Tj hB (by omega)
   have hc:=hv.cell
   rw[hsE]at Nt
   have o6:ae W (w.heap.size+1) #[.string ⟨#[]⟩] 9:=(hB.block (w.heap.size+1) (by omega)).trans o6
   have o7:ae W (w.heap.size+1+1) #[.int .i64 0] 24:=(hB.block (w.heap.size+1+1) (by omega)).trans o7
   rw[HGL.out]at Nt
   have c6:=o6.cell 0 (by simp)
   have z6:=o6.free 0
   have c7:=o7.cell 0 (by simp)
   have z7:=o7.free 0
   have N6:∀S:ByteArray,Hid (((W.setCell ⟨w.heap.size+1,0,none⟩ (.string S)).setCell ⟨w.heap.size+1+1,0,none⟩ (.int .i64 0)).heap[D]? =some (.deferred (some []))/\
     ((((W.setCell ⟨w.heap.size+1,0,none⟩ (.string S)).setCell ⟨w.heap.size+1+1,0,none⟩ (.int .i64 0)).putObj D (.deferred none)).cell? ⟨w.heap.size+1,0,none⟩=some (.string S)/\
     (((W.setCell ⟨w.heap.size+1,0,none⟩ (.string S)).setCell ⟨w.heap.size+1+1,0,none⟩ (.int .i64 0)).putObj D (.deferred none)).cell? ⟨w.heap.size+1+1,0,none⟩=some (.int .i64 0))/\
     aa [] w (((W.setCell ⟨w.heap.size+1,0,none⟩ (.string S)).setCell ⟨w.heap.size+1+1,0,none⟩ (.int .i64 0)).putObj D (.deferred none))):=fun S=>by
    have a6:=(o6.set 0 (.string S)).other (p:=⟨w.heap.size+1+1,0,none⟩) (by show w.heap.size+1≠w.heap.size+1+1;omega) (.int .i64 0)
    have a7:=(o7.other (p:=⟨w.heap.size+1,0,none⟩) (by show w.heap.size+1+1≠w.heap.size+1;omega) (.string S)).set 0 (.int .i64 0)
    have kD:=iS ((W.setCell ⟨w.heap.size+1,0,none⟩ (.string S)).setCell ⟨w.heap.size+1+1,0,none⟩ (.int .i64 0)) D (.deferred none)
    have b6:=kD.own a6 (by simp;omega)
    have b7:=kD.own a7 (by simp;omega)
    exact⟨(Below.heap_setCell _ _ _ D (by show D≠w.heap.size+1+1;omega)).trans ((Below.heap_setCell _ _ _ D (by show D≠w.heap.size+1;omega)).trans hK),⟨b6.cell 0 (by simp),b7.cell 0 (by simp)⟩,((kW.setCell (Or.inr (by show w.heap.size<=w.heap.size+1;omega)) _).setCell (Or.inr (by show w.heap.size<=w.heap.size+1+1;omega)) _).call kD (fun y hy=>Or.inr (by rw[show y=D by simpa using hy];omega))⟩
   rcases Nt.2 with⟨rfl,hz0⟩|⟨g,cap,cur,rfl,T4,Xr,hg3,hg4,hg5,hg6⟩
   .have:sz=0:=by omega
    subst this
    have Tm:∀W:World,(convert 61 9 (.slice none 0 0)).run Tryz.prog W=.ok (.string ⟨#[]⟩) W:=fun W=>by kernel_rfl
    have hf:=N6 ⟨#[]⟩
    clear N6 hK Nt o6 o7
    go_wp2_with fail
    refine tz hf.out.1 ?_ ⟨rfl,hf.out.2.2⟩
    have c6:=hf.out.2.1.1
    have c7:=hf.out.2.1.2
    simp[results,Tryz.f60,go_sem,c6,c7]
    rfl
   .have Qb:Lib.Bytes W g 0 (bs (GL.take sz)):=by
     intro i hi
     rw[Nj,Mp]at hi
     have hi':i<GL.length:=by omega
     have:=Nt.cells (g:=g) rfl i (.int .u8 ((GL[i]'hi').toNat:Int)) (by simp[Lib.strCells,bs,hi'])
     rw[s6]at this
     rw[Nat.zero_add,this]
     show some (Value.int .u8 ((GL[i]).toNat:Int))=some (Value.int .u8 (((GL.take sz)[i]'(by rw[Mp];omega)).toNat:Int))
     rw[List.getElem_take]
    have Tm:=Lib.run_convert_whole (P:=Tryz.prog) W 61 5 9 Tryz.underlying61 Tryz.underlying5 Tryz.underlying9 _ _ _ Qb cap
    have hl:(bs (GL.take sz)).size=sz:=by rw[Nj,Mp];omega
    rw[hl]at Tm
    obtain⟨S,hS⟩:∃S,bs (GL.take sz)=S:=⟨_,rfl⟩
    rw[hS]at Tm
    have hf:=N6 S
    have HS:=Mb hS
    clear hS
    generalize GL.length=gl at*
    have h1:(sz:Int)<=gl:=by omega
    have h2:(gl:Int)<=cap:=by omega
    have h3:(sz:Int)<=cap:=by omega
    clear N6 hK Nt o6 o7 Qb Xr hg5 hg6 hl T4
    go_wp2_with fail
    refine tz hf.out.1 ?_ ⟨rfl,hf.out.2.2⟩
    have c6:=hf.out.2.1.1
    have c7:=hf.out.2.1.2
    simp[results,Tryz.f60,go_sem,c6,c7]
    exact HS.out.symm
  case stop=>
   rintro D c pre W hD Z6 ⟨x,hx,Ot⟩ hK
   exfalso
   rw[hsE]at Z6
   exact Ot (acp x (Z6.subset hx))
 .have hGX:Ov d l size=[]:=by unfold Ov;rw[if_neg hG]
  unfold tc
  rw[hGX]
  generalize Nr d l size=G at*
  refine(callsIn_wide (n:=6)).1 ?_
  refine callsIn_of_wp_marks Tryz.func60 rfl trivial ?_ rfl
  simp only[Tryz.ntmps60,List.size_toArray,Mz,List.length_nil,Nat.reduceAdd,Nat.reduceSub,Array.replicate_succ,Array.replicate_zero,List.push_toArray,List.append_toArray,Nd,List.cons_append]
  refine wpIn_wide.2 ?_
  have o6:ae (((w.alloc (.cells #[.pointer (some ⟨b,0,none⟩)] 23)).alloc (.cells #[.string ⟨#[]⟩] 9)).alloc (.cells #[.int .i64 0] 24)) (w.heap.size+1) #[.string ⟨#[]⟩] 9:=by
   have:=(ae.new (w.alloc (.cells #[.pointer (some ⟨b,0,none⟩)] 23)) #[.string ⟨#[]⟩] 9).alloc (.cells #[.int .i64 0] 24)
   simpa using this
  have o7:ae (((w.alloc (.cells #[.pointer (some ⟨b,0,none⟩)] 23)).alloc (.cells #[.string ⟨#[]⟩] 9)).alloc (.cells #[.int .i64 0] 24)) (w.heap.size+1+1) #[.int .i64 0] 24:=by
   have:=ae.new ((w.alloc (.cells #[.pointer (some ⟨b,0,none⟩)] 23)).alloc (.cells #[.string ⟨#[]⟩] 9)) #[.int .i64 0] 24
   simpa using this
  go_wp2_with fail
  refine(HC _ k3).mono ?_;rintro e w1 ⟨rfl,k1⟩
  have k31:=k3.trans k1
  have o6:=k1.own o6 (by simp)
  have o7:=k1.own o7 (by simp)
  have c6:=o6.cell 0 (by simp)
  have z6:=o6.free 0
  have c7:=o7.cell 0 (by simp)
  have z7:=o7.free 0
  have e1:(G != 0)=true:=by simp[hG]
  go_wp2_with fail
  have a6:=(o6.set 0 (.string ⟨#[]⟩)).other (p:=⟨w.heap.size+1+1,0,none⟩) (by show w.heap.size+1≠w.heap.size+1+1;omega) (.int .i64 G)
  have a7:=(o7.other (p:=⟨w.heap.size+1,0,none⟩) (by show w.heap.size+1+1≠w.heap.size+1;omega) (.string ⟨#[]⟩)).set 0 (.int .i64 G)
  have b6:=a6.cell 0 (by simp)
  have b7:=a7.cell 0 (by simp)
  refine LR ?_ ⟨rfl,(k31.setCell (Or.inr (by show w.heap.size<=w.heap.size+1;omega)) _).setCell (Or.inr (by show w.heap.size<=w.heap.size+1+1;omega)) _⟩
  simp only[List.setIfInBounds_toArray,List.set_cons_zero]at b6 b7
  simp[results,Tryz.f60,go_sem,b6,b7,Ko]
end Go.Proofs.YtdkimcnlhmhpgaaGreat
namespace Go.Proofs.YtdkimcnlhmhpgaaGreat
open Go.RowKit
variable {l m:List (Int×Int)} {A:Prop} {n j u:Int} {w w':World} {d:DK}
theorem yS (h:l.length≠m.length):(l==m)=false:=by
 rw[ME];intro e;rw[e]at h;exact h rfl
theorem Bi (k:Nat) (h1:k<l.length) (h2:k<m.length) (h:l[k]≠m[k]):(l==m)=false:=by
 rw[ME];intro e;subst e;exact h rfl
theorem Ii (hl:l.length=m.length) (h:l.take l.length=m.take l.length):(l==m)=true:=by
 rw[beq_iff_eq];rw[MC]at h;rw[h,hl,MC]
theorem M85 (h:A:=by
 go_wp2_with fail
 go_region
 all_goals go_wp2_with fail
 all_goals go_ret
 all_goals exact⟨by rw[HN.out];rfl,hK.drew⟩):A:=h
theorem Db (va vb:Value) (l m:List (Int×Int)) (lo hi lo' hi':Nat) (w:World) (h:af w va l lo hi) (h':af w vb m lo' hi') (hl:l.length<=1000000) (hm:m.length<=1000000):
  Calls Tryz.prog 68 #[va,vb] w fun e w'=>e=.returned (.bool (l==m))/\aa [] w w':=by
 obtain⟨p,c,rfl⟩:=h.shape
 obtain⟨p',c',rfl⟩:=h'.shape
 by_cases Ot:l.length=m.length
 .have hq:((l.length:Int)==(m.length:Int))=true:=by simp;omega
  have HQ:=Mb Ot
  clear Ot
  go_enter Tryz.func68,Tryz.ntmps68
  go_wp2_with fail
  go_loopw [5] (fun i wr=>∃k:Nat,k<=l.length/\i=.int .i64 k/\Aside (l.take k=m.take k)/\aa [] w wr) (fun i _=>l.length-(intOf i).toNat)
  case atStart=>exact⟨0,by omega,rfl,by simp[Aside],aa.refl _ _⟩
  case round=>
   obtain⟨k,hk,rfl,hA,hK⟩:=hrel
   by_cases Ns:k<l.length
   .have Sx:k<m.length:=by have:=HQ.out;omega
    obtain⟨b,off,rfl,c0,c1,hb,Py,Pb⟩:=(h.kept0 hK).at_ k Ns
    obtain⟨b',off',rfl,c0',c1',UW,hlc',hcm'⟩:=(h'.kept0 hK).at_ k Sx
    have i1:(k:Int)<l.length:=by omega
    have i2:(k:Int)<m.length:=by omega
    have OF:l[k]≠m[k]->(l==m)=false:=Bi k Ns Sx
    have N8:l[k]=m[k]->Aside (l.take (k+1)=m.take (k+1)):=fun e=>by
     show _=_
     rw[Mf Ns,Mf Sx,hA.out,e]
    generalize l[k]=a at*
    generalize m[k]=a' at*
    by_cases e1:a.1=a'.1
    .by_cases e2:a.2=a'.2
     .have e3:a=a':=Prod.ext e1 e2
      have HT:=N8 e3
      subst e3
      clear OF N8 e1 e2 hA
      go_wp2_with fail
      go_region
      all_goals go_wp2_with fail
      all_goals go_roundw
      case rel=>exact⟨k+1,by omega,by go_num,HT,hK.drew⟩
      case measure=>simp[intOf];omega
     .have HN:Hid ((l==m)=false):=OF (fun e=>e2 (by rw[e]))
      clear OF N8 hA
      rw[<-e1]at c0'
      clear e1
      exact M85
    .have HN:Hid ((l==m)=false):=OF (fun e=>e1 (by rw[e]))
     clear OF N8 hA
     exact M85
   .obtain rfl:k=l.length:=by omega
    have HY:Hid ((l==m)=true):=Ii HQ.out hA.out
    clear hA
    go_wp2_with fail
    go_ret
    exact⟨by rw[HY.out];rfl,hK⟩
 .have hq:((l.length:Int)==(m.length:Int))=false:=by simp;omega
  have HN:Hid ((l==m)=false):=yS Ot
  clear Ot
  go_enter Tryz.func68,Tryz.ntmps68
  go_wp2_with fail
  go_ret
  exact⟨by rw[HN.out];rfl,aa.refl _ _⟩
structure ag where
 kind:Int
 id:Int
 name:List UInt8
 size:Int
 runs:List (Int×Int)
 deriving Inhabited
def ag.cells (r:ag) (v:Value):Array Value:=#[.int .i64 r.kind,.int .u32 r.id,.string (bs r.name),.int .i64 r.size,v]
def Qa (k:Int):Bool:=k==1||k==2||k==4||k==5
def Ob (k:Int):Bool:=k==3||k==6
def NH (k:Int):Bool:=k==1||k==2||k==3
theorem BP (k:Int):k=1\/k=2\/k=3\/k=4\/k=5\/k=6\/((k==1)=false/\(k==2)=false/\(k==3)=false/\(k==4)=false/\(k==5)=false/\(k==6)=false):=by
 by_cases h1:k=1
 .exact Or.inl h1
 by_cases h2:k=2
 .exact Or.inr (Or.inl h2)
 by_cases h3:k=3
 .exact Or.inr (Or.inr (Or.inl h3))
 by_cases h4:k=4
 .exact Or.inr (Or.inr (Or.inr (Or.inl h4)))
 by_cases h5:k=5
 .exact Or.inr (Or.inr (Or.inr (Or.inr (Or.inl h5))))
 by_cases h6:k=6
 .exact Or.inr (Or.inr (Or.inr (Or.inr (Or.inr (Or.inl h6)))))
 simp[h1,h2,h3,h4,h5,h6]
theorem fx (k:Int) (w:World):Calls Tryz.prog 169 #[.int .i64 k] w fun e w'=>e=.returned (.tuple #[.bool (Qa k),.bool (Ob k),.bool (NH k)])/\w=w':=by
 rcases BP k with rfl|rfl|rfl|rfl|rfl|rfl|⟨h1,h2,h3,h4,h5,h6⟩
 iterate 6
  .go_enter Tryz.func169,Tryz.ntmps169
   go_wp2_with fail
   go_ret3
   exact⟨rfl,rfl⟩
 .have e1:Qa k=false:=by unfold Qa;rw[h1,h2,h4,h5];rfl
  have e2:Ob k=false:=by unfold Ob;rw[h3,h6];rfl
  have e3:NH k=false:=by unfold NH;rw[h1,h2,h3];rfl
  rw[e1,e2,e3]
  clear e1 e2 e3
  go_enter Tryz.func169,Tryz.ntmps169
  go_wp2_with fail
  go_ret3
  exact⟨rfl,rfl⟩
def eX (l:List (Int×Int)) (n:Int):Bool:=decide (l.length<=16)&&(decide (0<=n)&&(decide (n<=1048576)&&(lies 0 8192 l&&(Nw l==Nv n))))
def cZ (l:List (Int×Int)) (n:Int) (w:World) (e:Ending) (w':World):Prop:=e=.returned (.bool (eX l n))/\aa [] w w'
theorem vH (h:lies 0 8192 l=false) (hk:aa [] w w'):cZ l n w (.returned (.bool false)) w':=by
 refine⟨?_,hk⟩
 unfold eX
 rw[h];simp
theorem Bv (h0:l.length<=16) (h1:0<=n) (h2:n<=1048576) (h:lies 0 8192 l=true) (hk:aa [] w w'):cZ l n w (.returned (.bool (Nw l==Nv n))) w':=by
 refine⟨?_,hk⟩
 unfold eX
 rw[h,MQ h0,MQ h1,MQ h2];simp
theorem M68 (h:A:=by
 go_enter Tryz.func170,Tryz.ntmps170
 go_wp2_with fail
 go_ret
 exact⟨rfl,aa.refl _ _⟩):A:=h
theorem dO (v:Value) (l:List (Int×Int)) (n:Int) (lo hi:Nat) (w:World) (h:af w v l lo hi) (hl:l.length<=1000000) (hn:(Lit.int .i64 n).wf=true):
  Calls Tryz.prog 170 #[v,.int .i64 n] w (cZ l n w):=by
 obtain⟨p,c,rfl⟩:=h.shape
 have RH:=fA hn
 rcases(by omega:16<l.length\/(l.length<=16/\n<0)\/(l.length<=16/\0<=n/\1048576<n)\/(l.length<=16/\0<=n/\n<=1048576))with b1|⟨b1,b2⟩|⟨b1,b2,b3⟩|⟨b1,b2,b3⟩
 .have e:eX l n=false:=by unfold eX;rw[MN (by omega)];rfl
  unfold cZ
  rw[e]
  have b1':(16:Int)<l.length:=by omega
  exact M68
 .have e:eX l n=false:=by unfold eX;rw[MN (by omega:¬0<=n)];simp
  unfold cZ
  rw[e]
  have b1':(l.length:Int)<=16:=by omega
  exact M68
 .have e:eX l n=false:=by unfold eX;rw[MN (by omega:¬n<=1048576)];simp
  unfold cZ
  rw[e]
  have b1':(l.length:Int)<=16:=by omega
  exact M68
 have b1':(l.length:Int)<=16:=by omega
 have ZA:=Mb (nY n)
 have HN':=Mb hn
 clear hn
 go_enter Tryz.func170,Tryz.ntmps170
 go_wp2_with fail
 go_loopw [5,23] (fun a i wr=>∃k:Nat,k<=l.length/\i=.int .i64 k/\a=.int .i64 (Nw (l.take k))/\Aside (fT 0 8192 l k=true)/\aa [] w wr) (fun _ i _=>l.length-(intOf i).toNat)
 case atStart=>exact⟨0,by omega,rfl,by simp[Nw],rfl,aa.refl _ _⟩
 case round=>
  obtain⟨k,hk,rfl,rfl,hL,hK⟩:=hrel
  by_cases Ns:k<l.length
  .obtain⟨b,off,rfl,c0,c1,hb,Py,Pb⟩:=(h.kept0 hK).at_ k Ns
   unfold maxLen at Pb
   have OF:=Ay 0 8192 l k Ns
   have OL:Aside (∀m,(l.take m).all (apart l[k])=true->m=k->jx 0 8192 l[k]=true->fT 0 8192 l (k+1)=true):=fun m h1 h2 h3=>by
    subst h2;rw[iy 0 8192 l m Ns,hL.out,h3,h1];rfl
   have PU:Hid (Nw (l.take (k+1))=Nw (l.take k)+l[k].2):=iM l k Ns
   have Rr:=vi (Nat.le_of_lt Ns) hL.out (by omega) (by omega)
   have hks:(8192:Int)*k<=8192000000:=by omega
   have RV:=rZ l[k] l
   rcases @rM 0 8192 l[k]with⟨h0,hbad⟩|⟨h0,g1,g2,g3,g4⟩
   .have HN:Hid (lies 0 8192 l=false):=OF (by rw[h0];rfl)
    clear OF OL PU h0 RV
    generalize l[k]=a at*
    generalize Nw (l.take k)=sm at*
    rcases hbad with g1|⟨g1,g2⟩|⟨g1,g2,g3⟩|⟨g1,g2,g3,g4⟩
    all_goals
     go_wp2_with fail
     go_ret
     exact vH HN.out (hK.alloc _)
   .have aan:Hid ((l.take k).all (apart l[k])=false->lies 0 8192 l=false):=fun hh=>OF (by rw[hh,Bool.and_false])
    have H0:=Mb h0
    have HA:=Mb RV
    have NQ:=fun m hm=>pC l[k] l m hm
    have OM:=Mb NQ
    have Wl:=ie (Nat.le_of_lt Ns) hL.out
    have Ql:=Mb Wl
    clear OF h0 RV NQ Wl
    generalize l[k]=a at*
    generalize Nw (l.take k)=sm at*
    go_wp2_with fail
    obtain⟨wo,rfl⟩:∃wo:World,wo=wr:=⟨_,rfl⟩
    go_loopw [53] (fun i wr=>∃m:Nat,m<=k/\i=.int .i64 m/\Aside ((l.take m).all (apart a)=true)/\aa [] w wr/\ae wr wo.heap.size #[.int .i64 a.1,.int .i64 a.2] 128) (fun i _=>k-(intOf i).toNat)
    case atStart=>exact⟨0,by omega,rfl,rfl,hK.alloc _,ae.new _ _ _⟩
    case round=>
     obtain⟨m,hm,rfl,hAP,hK2,ho⟩:=hrel
     obtain⟨d0,d1⟩:=ho.c2
     have adG:=ho.lt
     by_cases UC:m<k
     .obtain⟨b',off',Xq,e0,e1,Qo,-,-⟩:=(h.kept0 hK2).at_ m (by omega)
      injection Xq with Xq
      injection Xq with hbe1 hbe2 _
      subst hbe1 hbe2
      have hob:=eM.1 (Ql.out m UC)
      have S3:=OM.out m (by omega)
      have WJ:=HA.out m k (by omega) UC
      have WK:=Mb S3
      have aa7:=Mb WJ
      have hc:= @rY a l[m]
      clear S3 WJ
      generalize l[m]=bb at*
      obtain⟨q1,q2,q3,q4⟩:=hob
      rcases hc with⟨r0,r1,r2⟩|⟨r0,r1⟩
      .have HN:Hid (lies 0 8192 l=false):=aan.out (aa7.out r0)
       clear r0 c0 c1
       go_wp2_with fail
       go_ret
       exact vH HN.out (hK2.alloc _)
      .have R0:=Mb r0
       exact M48
     .have Yp:m=k:=by omega
      have HL:Aside (fT 0 8192 l (k+1)=true):=OL.out m hAP.out Yp H0.out
      exact M55
  .obtain rfl:k=l.length:=by omega
   have HY:Hid (lies 0 8192 l=true):=hL.out
   have N6:=fun wx (hk:aa [] w wx)=>Bv (n:=n) (w:=w) (w':=wx) b1 b2 b3 HY.out hk
   have Ux:=Mb N6
   rw[MC]
   clear N6 hL
   generalize Nw l=sm at*
   have ac1:=Mb (ZA.out wr HN'.out)
   clear ZA
   generalize Nv n=nd at*
   go_wp2_with fail
   refine ac1.out.mono ?_;rintro e w5 ⟨rfl,rfl⟩
   go_wp2_with fail
   go_ret
   exact Ux.out _ hK
def aN (n:Nat) (j u:Int):Int:=if j<1\/(n:Int)-2<j\/u<0\/128*j<u then 1 else 0
def ch (d:DK) (k:Nat):List UInt8:=((List.range k).map fun i=>seen d (2+i)).flatten
theorem gQ (d:DK) (k:Nat):ch d (k+1)=ch d k++seen d (2+k):=by
 unfold ch;rw[List.range_succ,Ms,MR];simp
theorem kE (hf:bg d) (k:Nat) (hk:2+k<=d.stand.length):(ch d k).length=128*k:=by
 induction k with
 |zero=>rfl
 |succ k ih=>rw[gQ,Mc,ih (by omega),hZ hf (by omega)];omega
def NC (d:DK) (j u:Int):Int:=if aN d.stand.length j u≠0 then 1 else if d.down=true then 90 else 0
def Oh (d:DK) (j u:Int):List UInt8:=if NC d j u=0 then(ch d (Nv u).toNat).take u.toNat else[]
theorem gN {n:Nat} (h:aN n j u=0):1<=j/\j<=(n:Int)-2/\0<=u/\u<=128*j:=by
 unfold aN at h
 split at h
 .omega
 .omega
theorem D5 {n:Nat} (h:aN n j u≠0):aN n j u=1:=by
 unfold aN at h ⊢
 by_cases hc:j<1\/(n:Int)-2<j\/u<0\/128*j<u
 .rw[if_pos hc]
 .rw[if_neg hc]at h;exact absurd rfl h
def lY:Nat->DK->Nat->List UInt8->DK×Int
 |0,d,_,_=>(d,0)
 |f+1,d,a,s=>if s=[]then(d,0)else if NV d a (av s)=0 then lY f (NG d a (av s)) (a+1) (s.drop 128)else(NG d a (av s),NV d a (av s))
theorem Ev (f g:Nat) (d:DK) (a:Nat) (s:List UInt8) (hf:s.length<=f) (hg:s.length<=g):lY f d a s=lY g d a s:=by
 induction f generalizing g d a s with
 |zero=>
  have:s=[]:=Mt (by omega)
  subst this
  cases g with
  |zero=>rfl
  |succ g=>rw[lY,lY,if_pos rfl]
 |succ f ih=>
  cases g with
  |zero=>
   have:s=[]:=Mt (by omega)
   subst this
   rw[lY,lY,if_pos rfl]
  |succ g=>
   rw[lY,lY]
   by_cases hs:s=[]
   .rw[if_pos hs,if_pos hs]
   .have hl:0<s.length:=MH.2 hs
    rw[if_neg hs,if_neg hs,ih g _ _ _ (by rw[Mq];omega) (by rw[Mq];omega)]
def dL (d:DK) (a:Nat) (s:List UInt8):DK×Int:=lY s.length d a s
theorem Cs (d:DK) (a:Nat):dL d a []=(d,0):=rfl
theorem dq {a:Nat} {s:List UInt8} (hs:s≠[]):dL d a s=if NV d a (av s)=0 then dL (NG d a (av s)) (a+1) (s.drop 128)else(NG d a (av s),NV d a (av s)):=by
 have hl:0<s.length:=MH.2 hs
 obtain⟨f,hf⟩:∃f,s.length=f+1:=⟨s.length-1,by omega⟩
 unfold dL
 rw[hf,lY,if_neg hs,Ev f (s.drop 128).length _ _ _ (by rw[Mq];omega) (Md _)]
def aA (I N B:Bool) (id:Int) (name:List UInt8) (size:Int) (runs:List (Int×Int)):Bool:=
 (I||N)&&((I==decide (id≠0))&&(decide (id<=4294967294)&&((N== !name.isEmpty)&&(decide (name.length<=48)&&((B||(decide (size=0)&&runs.isEmpty))&&eX runs size)))))
def az (r:ag):Bool:=aA (Qa r.kind) (Ob r.kind) (NH r.kind) r.id r.name r.size r.runs
def ag.fits (r:ag):Prop:=(Lit.int .i64 r.kind).wf=true/\(Lit.int .u32 r.id).wf=true/\r.name.length<=maxLen/\(Lit.int .i64 r.size).wf=true
def db (m:Bool) (w:World) (e:Ending) (w':World):Prop:=e=.returned (.int .i64 (if m then 0 else 1))/\aa [] w w'
theorem aD {m:Bool} (h:m=false) (k:aa [] w w'):db m w (.returned (.int .i64 1)) w':=⟨by rw[h];rfl,k⟩
theorem iz {m:Bool} (h:m=true) (k:aa [] w w'):db m w (.returned (.int .i64 0)) w':=⟨by rw[h];rfl,k⟩
theorem bP (h:(Lit.int .u32 n).wf=true):0<=n/\n<=4294967295:=by
 simp only[Lit.wf,MJ,decide_eq_true_eq]at h
 exact⟨by have:=h.1;exact this,by have:=h.2;exact this⟩
theorem sy:eX [] 0=true:=by decide
theorem bN (l:List UInt8):(l=[]/\(bs l).toList.isEmpty=true/\(bs l).toList=[]/\l.length=0)\/(l.isEmpty=false/\(bs l).toList.isEmpty=false/\1<=l.length):=by
 cases l with
 |nil=>exact Or.inl ⟨rfl,by rw[dh];rfl,by rw[dh],rfl⟩
 |cons a t=>exact Or.inr ⟨rfl,by rw[dh];rfl,by simp⟩
end Go.Proofs.YtdkimcnlhmhpgaaGreat
