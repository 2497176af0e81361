/- -/
import Derived.Test.YtdkimcnlhmhpgaaGreatH04
import Derived.Test.YtdkimcnlhmhpgaaGreatH05
import Derived.Test.YtdkimcnlhmhpgaaGreatH09
import Derived.Test.YtdkimcnlhmhpgaaGreatH10
import Derived.Test.YtdkimcnlhmhpgaaGreatH11
import Derived.Test.YtdkimcnlhmhpgaaGreatH12
import Derived.Deep.RegionWith
import Derived.BigRegion
import Derived.Laws.StructEq
import Derived.Deep.QuietTactic
import Derived.BigQuiet
set_option linter.unusedVariables false
set_option linter.unusedSimpArgs false
namespace Go.Proofs.YtdkimcnlhmhpgaaGreat
open Go.RowKit Go.Shelf
attribute [local go_sem] Oper.semAt_some
def BGetSays (d : DK) (l : List (Int × Int)) (size : Int) (w : World) (e : Ending) (w' : World) : Prop := e = .returned (.tuple #[.string (bs (getX d l size)), .int .i64 (getCode d l size)]) ∧ Kept [] w w'
theorem infoByte : ∃ i, Tryz.prog.info? 5 = some i ∧ i.zero = some (.int .u8 0) ∧ i.size = 1 ∧ i.bytes = 1 := by
 have hi : (Tryz.prog.info? 5).map (fun i => (i.zero, i.size, i.bytes)) = some (some (.int .u8 0), 1, 1) := by kernel_rfl
 obtain ⟨i0, hi0, hz0, hz1, hz2⟩ := info_parts hi
 exact ⟨i0, hi0, hz0, hz1, hz2⟩
set_option maxRecDepth 100000 in
set_option maxHeartbeats 4000000 in
theorem bget {Inv : DK → World → Prop} {b : Nat} (O : DOps Inv b) (d : DK) (v : Value) (l : List (Int × Int)) (size : Int) (lo hi : Nat) (w : World) (hI : Inv d w) (h : RunsIn w v l lo hi) (hl : l.length ≤ 1000000) (hwf : ∀ a ∈ l, WfRun a)
  (hsz : (Lit.int .i64 size).wf = true) :
  Calls Tryz.prog 60 #[.pointer (some ⟨b, 0, none⟩), v, .int .i64 size] w (BGetSays d l size w) := by
 have HC : ∀ W, Kept [] w W → Calls Tryz.prog 104 #[.pointer (some ⟨b, 0, none⟩), v, .int .i64 size] W fun e w' => e = .returned (.int .i64 (getCode d l size)) ∧ Kept [] W w' := fun W k => bcheck O d v l size lo hi W (O.keep hI k) (h.kept0 k) hl hwf hsz
 have HE : ∀ W, Kept [] w W → Calls Tryz.prog 105 #[v] W fun e w' => ∃ f, e = .returned f ∧ Kept [] W w' ∧ TellsR 5 w.heap.size l f w' := fun W k => bEach0 5 (by omega) w.heap.size v l 0 w.heap.size W (h.wide.kept0 k) hl hwf (Nat.le_refl _) k.size
 have HR : ∀ W, Kept [] w W → ∀ i : Nat, Calls Tryz.prog 62 #[.pointer (some ⟨b, 0, none⟩), .int .i64 ((i : Nat) : Int)] W fun e w' => e = .returned (.tuple #[.string (bs (rVal d i)), .int .i64 (atOf d i)]) ∧ W = w' := fun W k i => O.readC _ (O.keep hI k)
 have hfit := O.fit hI
 have hlen := O.len hI
 clear h hwf hI
 have k3 := (((Kept.refl [] w).alloc (.cells #[.pointer (some ⟨b, 0, none⟩)] 23)).alloc (.cells #[.string ⟨#[]⟩] 9)).alloc (.cells #[.int .i64 0] 24)
 by_cases hG : getCode d l size = 0
 ·have hX : FitX l d.stand.length size ∧ ¬ d.down = true := by
   unfold getCode at hG
   by_cases hf : FitX l d.stand.length size
   ·rw [if_pos hf] at hG
    by_cases hd : d.down = true
    ·rw [if_pos hd] at hG; omega
    ·exact ⟨hf, hd⟩
   ·rw [if_neg hf] at hG; omega
  have hGX : getX d l size = (getL d (secsL l)).take size.toNat := by unfold getX; rw [if_pos hG]
  have hsecs := hX.1.secs
  have hsE : secsE l = secsL l := secsE_fit hX.1
  have hal : (secsL l).length ≤ 8192 := by rw [← hsE]; exact secsE_le l
  have hnn : 0 ≤ size := hX.1.1
  have hat0 : ∀ x ∈ secsL l, atOf d (x : Int) = 0 := fun x hx => by
   have := (hX.1.lt hx).1
   unfold atOf
   rw [if_neg hX.2, if_neg (by omega)]
  unfold BGetSays
  obtain ⟨sz, rfl⟩ := Int.eq_ofNat_of_zero_le hnn
  rw [Int.toNat_natCast] at hGX
  obtain ⟨GL, hGL⟩ : ∃ GL, getL d (secsL l) = GL := ⟨_, rfl⟩
  rw [hGL] at hGX
  rw [hG, hGX]
  rw [hG] at HC
  have hgl : (getL d (secsL l)).length = 128 * (secsL l).length := getL_len hfit (fun y hy => by obtain ⟨_, h1, h2⟩ := atOf_zero (hat0 y hy); omega)
  have hle : sz ≤ GL.length := by
   rw [← hGL, hgl]
   have := hsecs
   unfold need at this
   split at this <;> omega
  have hle2 : GL.length ≤ 1048576 := by rw [← hGL, hgl]; omega
  have HGL := Lib.hid hGL
  clear hGX hG hnn hgl hGL hX hsecs hsz
  refine (callsIn_wide (n := 6)).1 ?_
  refine callsIn_of_wp_marks Tryz.func60 rfl trivial ?_ rfl
  simp only [Tryz.ntmps60, List.size_toArray, List.length_cons, List.length_nil, Nat.reduceAdd, Nat.reduceSub, Array.replicate_succ, Array.replicate_zero, List.push_toArray, List.append_toArray, List.nil_append, List.cons_append]
  refine wpIn_wide.2 ?_
  go_wp2_with fail
  refine (HC _ k3).mono ?_; rintro e w1 ⟨rfl, k1⟩
  have k31 := k3.trans k1
  have k31b := k31.alloc (.cells #[.slice none 0 0] 61)
  go_wp2_with fail
  refine (HE _ k31b).mono ?_; rintro e w2 ⟨f, rfl, k2, B1, B2, rfl, hT⟩
  go_wp2_with fail
  have k12 := k31b.trans k2
  have o3 : Own w2 w.heap.size #[.pointer (some ⟨b, 0, none⟩)] 23 := (k1.trans (((Kept.refl [] w1).alloc _).trans k2)).own (((Own.new w #[.pointer (some ⟨b, 0, none⟩)] 23).alloc _).alloc _) (by simp)
  have o6 : Own w2 (w.heap.size + 1) #[.string ⟨#[]⟩] 9 := by
   have := (Own.new (w.alloc (.cells #[.pointer (some ⟨b, 0, none⟩)] 23)) #[.string ⟨#[]⟩] 9).alloc (.cells #[.int .i64 0] 24)
   simp only [World.size_alloc] at this
   exact (k1.trans (((Kept.refl [] w1).alloc _).trans k2)).own this (by simp)
  have o7 : Own w2 (w.heap.size + 1 + 1) #[.int .i64 0] 24 := by
   have := Own.new ((w.alloc (.cells #[.pointer (some ⟨b, 0, none⟩)] 23)).alloc (.cells #[.string ⟨#[]⟩] 9)) #[.int .i64 0] 24
   simp only [World.size_alloc] at this
   exact (k1.trans (((Kept.refl [] w1).alloc _).trans k2)).own this (by simp)
  have o9 : Own w2 w1.heap.size #[.slice none 0 0] 61 := k2.own (Own.new w1 _ _) (by simp)
  have hs1 : w.heap.size + 3 ≤ w1.heap.size := by have := k1.size; simpa using this
  have hs2 : w1.heap.size + 1 ≤ w2.heap.size := by have := k2.size; simpa using this
  obtain ⟨i0, q0, q1, q2, q3⟩ := infoByte
  have hN8 := secsE_le l
  refine (wpIn_wide (n := 6)).1 ?_
  refine wpIn_rangeFunc_ownG rfl (by omega) (gf := 179) (lb := #[.pointer (some ⟨B1, 0, none⟩), .pointer (some ⟨B2, 0, none⟩)]) rfl trivial (enters_of Tryz.func179 (by kernel_rfl) rfl)
   hT (fun h k => KpR.trans h k) (KpR.turn (w := w2) (by omega)) (Below.refl _ w2) (fun _ => rfl)
   (fun (pre : List Nat) W => (∃ v, Boxed W w1.heap.size 61 v ∧ W.ownsRow w1.heap.size 5 1 v (getL d pre).length (Lib.strCells (bs (getL d pre))) ∧ ∀ x ∈ pre, atOf d (x : Int) = 0) ∧ Below w1.heap.size w2 W)
   (fun c (pre : List Nat) W => ∃ x ∈ pre, ¬ atOf d (x : Int) = 0)
   (OwnFrom.and (Go.Own.from (holdsRow_own w1.heap.size w1.heap.size 61 5 1 (fun pre : List Nat => (getL d pre).length) (fun pre : List Nat => Lib.strCells (bs (getL d pre))) (fun (pre : List Nat) v => ∀ x ∈ pre, atOf d (x : Int) = 0)) _) (ownFrom_below (by omega) (by omega)))
   (fun c => ownFrom_pure _ (fun pre : List Nat => ∃ x ∈ pre, ¬ atOf d (x : Int) = 0))
   ⟨⟨_, o9, World.ownsRow_nil _ _ _ _, fun x hx => by cases hx⟩, Below.refl _ w2⟩
   (fun x => { tmps := #[.pointer (some ⟨b, 0, none⟩), v, .int .i64 sz, .pointer (some ⟨w.heap.size, 0, none⟩), undef, undef, .pointer (some ⟨w.heap.size + 1, 0, none⟩), .pointer (some ⟨w.heap.size + 1 + 1, 0, none⟩), .int .i64 0, .pointer (some ⟨w1.heap.size, 0, none⟩), .int .i64 ((x : Nat) : Int), undef, undef, .pointer (some ⟨b, 0, none⟩), v, .int .i64 sz, .int .i64 0, .int .i64 0, .bool false, undef, v, .func (.func 179) #[] #[.pointer (some ⟨B1, 0, none⟩), .pointer (some ⟨B2, 0, none⟩)], .int .i64 ((x : Nat) : Int), undef, undef, undef, undef, undef, undef, undef, undef, undef, undef, undef, undef, undef, undef, undef, undef], defers := [] }) ?assign ?body ?done ?stop
  case assign =>
   intro l x W K hK
   gi_wp2
   exact hK
  case body =>
   rintro lp pre x W ⟨⟨u, hv, hrow, hat⟩, hB⟩ hlt
   have kW := kept_below k12 hB (by omega)
   have hc := hv.cell
   have hc3 : W.cell? ⟨w.heap.size, 0, none⟩ = some (.pointer (some ⟨b, 0, none⟩)) := (hB.cell (p := ⟨w.heap.size, 0, none⟩) (by show w.heap.size < w1.heap.size; omega)).trans (o3.cell 0 (by simp))
   have hRx := HR W kW x
   have hszB := hB.size
   by_cases hz : atOf d (x : Int) = 0
   ·have e1 : rVal d (x : Int) = seen d x := by unfold rVal; rw [if_pos hz]; rfl
    rw [e1, hz] at hRx
    obtain ⟨_, hx1, hx2⟩ := atOf_zero hz
    have hsl := seen_len hfit (show x < d.stand.length by omega)
    have hgl : (getL d pre).length = 128 * pre.length := getL_len hfit (fun y hy => by obtain ⟨_, h1, h2⟩ := atOf_zero (hat y hy); omega)
    have hss : (bs (seen d x)).size = 128 := by rw [bs_size, hsl]
    have hsnoc : getL d (pre ++ [x]) = getL d pre ++ seen d x := by unfold getL; simp
    have hat' : ∀ y ∈ pre ++ [x], atOf d (y : Int) = 0 := fun y hy => by
     rcases List.mem_append.1 hy with hy | hy
     ·exact hat y hy
     ·have : y = x := by simpa using hy
      subst this; exact hz
    obtain ⟨nl, hnl⟩ : ∃ nl, (getL d pre).length = nl := ⟨_, rfl⟩
    rw [hnl] at hrow hgl
    have hb1 : nl + (bs (seen d x)).size ≤ 140737488355328 := by omega
    have hb2 : nl + (bs (seen d x)).size ≤ maxLen := by unfold maxLen; omega
    have HNL := Lib.hid hnl
    clear hnl hgl hx1 hx2
    obtain ⟨pu, cu, rfl⟩ := own_shape hrow
    gi_wp2_with (first
     | (refine ⟨trivial, ?_⟩; gi_at_call 62; refine (CallsIn.inRound lp (callsIn_wide.2 hRx)).mono ?_; rintro e w3 ⟨rfl, rfl⟩)
     | (gi_at_builtin; refine wpListIn_append_own_string _ rfl (.tmp 32) (.tmp 33) 61 9 rfl w1.heap.size 5 i0 Tryz.underlying61 Tryz.underlying9 q0 q1 q2 q3 _ _ _ rfl hrow (bs (seen d x)) rfl hb2 hb1 (by omega) ?_; intro v' w4 hown' hgrow _; rw [hss] at hown'; obtain ⟨g', cap', rfl⟩ := rowpos_shape hown' (by omega); obtain ⟨hv1, hv2, hr2, hk2, hb3⟩ := Boxed.appended0 hv (by decide) hrow (by omega) (Nat.le_refl _) hown' hgrow; have hc1 := hv1.cell; have hf1 := hv1.frozen))
    refine ⟨hk2.from _, kpr_append0 hv (by decide) hrow (by decide) hgrow (hb3.mono (show w.heap.size ≤ w1.heap.size by omega)), ⟨_, hv2, ?_, hat'⟩, hB.trans hb3⟩
    rw [hsnoc, strCells_append, List.length_append, HNL.out, hsl]
    exact hr2
   ·have e1 : rVal d (x : Int) = [] := by unfold rVal; rw [if_neg hz]
    rw [e1] at hRx
    obtain ⟨G, hGq⟩ : ∃ G, atOf d (x : Int) = G := ⟨_, rfl⟩
    rw [hGq] at hRx
    have hz1 : ¬ G = 0 := hGq ▸ hz
    have e2 : (G != 0) = true := by simp [hz1]
    have HZ := Lib.hid hz
    clear hz hGq
    have c6 := (hB.cell (p := ⟨w.heap.size + 1, 0, none⟩) (by show w.heap.size + 1 < w1.heap.size; omega)).trans (o6.cell 0 (by simp))
    have z6 := (hB.frozen (p := ⟨w.heap.size + 1, 0, none⟩) (by show w.heap.size + 1 < w1.heap.size; omega)).trans (o6.free 0)
    have c7 := (hB.cell (p := ⟨w.heap.size + 1 + 1, 0, none⟩) (by show w.heap.size + 1 + 1 < w1.heap.size; omega)).trans (o7.cell 0 (by simp))
    have z7 := (hB.frozen (p := ⟨w.heap.size + 1 + 1, 0, none⟩) (by show w.heap.size + 1 + 1 < w1.heap.size; omega)).trans (o7.free 0)
    gi_wp2_with (refine ⟨trivial, ?_⟩; gi_at_call 62; refine (CallsIn.inRound lp (callsIn_wide.2 hRx)).mono ?_; rintro e w3 ⟨rfl, rfl⟩)
    exact ⟨((KeepsOthers.setCell _ _ _).trans (KeepsOthers.setCell _ _ _)).from _, x, by simp, HZ.out⟩
  case done =>
   rintro D xs W hD rfl ⟨⟨u, hv, hrow, hat⟩, hB⟩ hK
   have kW := kept_below k12 hB (by omega)
   have hc := hv.cell
   rw [hsE] at hrow
   have o6 : Own W (w.heap.size + 1) #[.string ⟨#[]⟩] 9 := (hB.block (w.heap.size + 1) (by omega)).trans o6
   have o7 : Own W (w.heap.size + 1 + 1) #[.int .i64 0] 24 := (hB.block (w.heap.size + 1 + 1) (by omega)).trans o7
   rw [HGL.out] at hrow
   have c6 := o6.cell 0 (by simp)
   have z6 := o6.free 0
   have c7 := o7.cell 0 (by simp)
   have z7 := o7.free 0
   have hfin : ∀ S : ByteArray, Hid (((W.setCell ⟨w.heap.size + 1, 0, none⟩ (.string S)).setCell ⟨w.heap.size + 1 + 1, 0, none⟩ (.int .i64 0)).heap[D]? = some (.deferred (some [])) ∧
     ((((W.setCell ⟨w.heap.size + 1, 0, none⟩ (.string S)).setCell ⟨w.heap.size + 1 + 1, 0, none⟩ (.int .i64 0)).putObj D (.deferred none)).cell? ⟨w.heap.size + 1, 0, none⟩ = some (.string S) ∧
     (((W.setCell ⟨w.heap.size + 1, 0, none⟩ (.string S)).setCell ⟨w.heap.size + 1 + 1, 0, none⟩ (.int .i64 0)).putObj D (.deferred none)).cell? ⟨w.heap.size + 1 + 1, 0, none⟩ = some (.int .i64 0)) ∧
     Kept [] w (((W.setCell ⟨w.heap.size + 1, 0, none⟩ (.string S)).setCell ⟨w.heap.size + 1 + 1, 0, none⟩ (.int .i64 0)).putObj D (.deferred none))) := fun S => by
    have a6 := (o6.set 0 (.string S)).other (p := ⟨w.heap.size + 1 + 1, 0, none⟩) (by show w.heap.size + 1 ≠ w.heap.size + 1 + 1; omega) (.int .i64 0)
    have a7 := (o7.other (p := ⟨w.heap.size + 1, 0, none⟩) (by show w.heap.size + 1 + 1 ≠ w.heap.size + 1; omega) (.string S)).set 0 (.int .i64 0)
    have kD := kept_putObj ((W.setCell ⟨w.heap.size + 1, 0, none⟩ (.string S)).setCell ⟨w.heap.size + 1 + 1, 0, none⟩ (.int .i64 0)) D (.deferred none)
    have b6 := kD.own a6 (by simp; omega)
    have b7 := kD.own a7 (by simp; omega)
    exact ⟨(Below.heap_setCell _ _ _ D (by show D ≠ w.heap.size + 1 + 1; omega)).trans ((Below.heap_setCell _ _ _ D (by show D ≠ w.heap.size + 1; omega)).trans hK), ⟨b6.cell 0 (by simp), b7.cell 0 (by simp)⟩, ((kW.setCell (Or.inr (by show w.heap.size ≤ w.heap.size + 1; omega)) _).setCell (Or.inr (by show w.heap.size ≤ w.heap.size + 1 + 1; omega)) _).call kD (fun y hy => Or.inr (by rw [show y = D by simpa using hy]; omega))⟩
   rcases hrow.2 with ⟨rfl, hz0⟩ | ⟨g, cap, cur, rfl, hg1, hg2, hg3, hg4, hg5, hg6⟩
   ·have : sz = 0 := by omega
    subst this
    have hconv : ∀ W : World, (convert 61 9 (.slice none 0 0)).run Tryz.prog W = .ok (.string ⟨#[]⟩) W := fun W => by kernel_rfl
    have hf := hfin ⟨#[]⟩
    clear hfin hK hrow o6 o7
    go_wp2_with fail
    refine retMD hf.out.1 ?_ ⟨rfl, hf.out.2.2⟩
    have c6 := hf.out.2.1.1
    have c7 := hf.out.2.1.2
    simp [results, Tryz.f60, go_sem, c6, c7]
    rfl
   ·have hbytes : Lib.Bytes W g 0 (bs (GL.take sz)) := by
     intro i hi
     rw [bs_size, List.length_take] at hi
     have hi' : i < GL.length := by omega
     have := hrow.cells (g := g) rfl i (.int .u8 ((GL[i]'hi').toNat : Int)) (by simp [Lib.strCells, bs, hi'])
     rw [addr_add] at this
     rw [Nat.zero_add, this]
     show some (Value.int .u8 ((GL[i]).toNat : Int)) = some (Value.int .u8 (((GL.take sz)[i]'(by rw [List.length_take]; omega)).toNat : Int))
     rw [List.getElem_take]
    have hconv := Lib.run_convert_whole (P := Tryz.prog) W 61 5 9 Tryz.underlying61 Tryz.underlying5 Tryz.underlying9 _ _ _ hbytes cap
    have hl : (bs (GL.take sz)).size = sz := by rw [bs_size, List.length_take]; omega
    rw [hl] at hconv
    obtain ⟨S, hS⟩ : ∃ S, bs (GL.take sz) = S := ⟨_, rfl⟩
    rw [hS] at hconv
    have hf := hfin S
    have HS := Lib.hid hS
    clear hS
    generalize GL.length = gl at *
    have h1 : (sz : Int) ≤ gl := by omega
    have h2 : (gl : Int) ≤ cap := by omega
    have h3 : (sz : Int) ≤ cap := by omega
    clear hfin hK hrow o6 o7 hbytes hg2 hg5 hg6 hl hg1
    go_wp2_with fail
    refine retMD hf.out.1 ?_ ⟨rfl, hf.out.2.2⟩
    have c6 := hf.out.2.1.1
    have c7 := hf.out.2.1.2
    simp [results, Tryz.f60, go_sem, c6, c7]
    exact HS.out.symm
  case stop =>
   rintro D c pre W hD hpre ⟨x, hx, hne⟩ hK
   exfalso
   rw [hsE] at hpre
   exact hne (hat0 x (hpre.subset hx))
 ·have hGX : getX d l size = [] := by unfold getX; rw [if_neg hG]
  unfold BGetSays
  rw [hGX]
  generalize getCode d l size = G at *
  refine (callsIn_wide (n := 6)).1 ?_
  refine callsIn_of_wp_marks Tryz.func60 rfl trivial ?_ rfl
  simp only [Tryz.ntmps60, List.size_toArray, List.length_cons, List.length_nil, Nat.reduceAdd, Nat.reduceSub, Array.replicate_succ, Array.replicate_zero, List.push_toArray, List.append_toArray, List.nil_append, List.cons_append]
  refine wpIn_wide.2 ?_
  have o6 : Own (((w.alloc (.cells #[.pointer (some ⟨b, 0, none⟩)] 23)).alloc (.cells #[.string ⟨#[]⟩] 9)).alloc (.cells #[.int .i64 0] 24)) (w.heap.size + 1) #[.string ⟨#[]⟩] 9 := by
   have := (Own.new (w.alloc (.cells #[.pointer (some ⟨b, 0, none⟩)] 23)) #[.string ⟨#[]⟩] 9).alloc (.cells #[.int .i64 0] 24)
   simpa using this
  have o7 : Own (((w.alloc (.cells #[.pointer (some ⟨b, 0, none⟩)] 23)).alloc (.cells #[.string ⟨#[]⟩] 9)).alloc (.cells #[.int .i64 0] 24)) (w.heap.size + 1 + 1) #[.int .i64 0] 24 := by
   have := Own.new ((w.alloc (.cells #[.pointer (some ⟨b, 0, none⟩)] 23)).alloc (.cells #[.string ⟨#[]⟩] 9)) #[.int .i64 0] 24
   simpa using this
  go_wp2_with fail
  refine (HC _ k3).mono ?_; rintro e w1 ⟨rfl, k1⟩
  have k31 := k3.trans k1
  have o6 := k1.own o6 (by simp)
  have o7 := k1.own o7 (by simp)
  have c6 := o6.cell 0 (by simp)
  have z6 := o6.free 0
  have c7 := o7.cell 0 (by simp)
  have z7 := o7.free 0
  have e1 : (G != 0) = true := by simp [hG]
  go_wp2_with fail
  have a6 := (o6.set 0 (.string ⟨#[]⟩)).other (p := ⟨w.heap.size + 1 + 1, 0, none⟩) (by show w.heap.size + 1 ≠ w.heap.size + 1 + 1; omega) (.int .i64 G)
  have a7 := (o7.other (p := ⟨w.heap.size + 1, 0, none⟩) (by show w.heap.size + 1 + 1 ≠ w.heap.size + 1; omega) (.string ⟨#[]⟩)).set 0 (.int .i64 G)
  have b6 := a6.cell 0 (by simp)
  have b7 := a7.cell 0 (by simp)
  refine retM ?_ ⟨rfl, (k31.setCell (Or.inr (by show w.heap.size ≤ w.heap.size + 1; omega)) _).setCell (Or.inr (by show w.heap.size ≤ w.heap.size + 1 + 1; omega)) _⟩
  simp only [List.setIfInBounds_toArray, List.set_cons_zero] at b6 b7
  simp [results, Tryz.f60, go_sem, b6, b7, bs_nil]
end Go.Proofs.YtdkimcnlhmhpgaaGreat

/- -/
namespace Go.Proofs.YtdkimcnlhmhpgaaGreat
open Go.RowKit
structure JRec where
 kind : Int
 id : Int
 name : List UInt8
 size : Int
 runs : List (Int × Int)
deriving Inhabited
def JRec.cells (r : JRec) (v : Value) : Array Value := #[.int .i64 r.kind, .int .u32 r.id, .string (bs r.name), .int .i64 r.size, v]
def kId (k : Int) : Bool := k == 1 || k == 2 || k == 4 || k == 5
def kName (k : Int) : Bool := k == 3 || k == 6
def kBlob (k : Int) : Bool := k == 1 || k == 2 || k == 3
theorem kind_cases (k : Int) : k = 1 ∨ k = 2 ∨ k = 3 ∨ k = 4 ∨ k = 5 ∨ k = 6 ∨ ((k == 1) = false ∧ (k == 2) = false ∧ (k == 3) = false ∧ (k == 4) = false ∧ (k == 5) = false ∧ (k == 6) = false) := by
 by_cases h1 : k = 1
 ·exact Or.inl h1
 by_cases h2 : k = 2
 ·exact Or.inr (Or.inl h2)
 by_cases h3 : k = 3
 ·exact Or.inr (Or.inr (Or.inl h3))
 by_cases h4 : k = 4
 ·exact Or.inr (Or.inr (Or.inr (Or.inl h4)))
 by_cases h5 : k = 5
 ·exact Or.inr (Or.inr (Or.inr (Or.inr (Or.inl h5))))
 by_cases h6 : k = 6
 ·exact Or.inr (Or.inr (Or.inr (Or.inr (Or.inr (Or.inl h6)))))
 simp [h1, h2, h3, h4, h5, h6]
set_option maxRecDepth 100000 in
set_option maxHeartbeats 1000000 in
theorem jhas (k : Int) (w : World) : Calls Tryz.prog 169 #[.int .i64 k] w fun e w' => e = .returned (.tuple #[.bool (kId k), .bool (kName k), .bool (kBlob k)]) ∧ w = w' := by
 rcases kind_cases k with rfl | rfl | rfl | rfl | rfl | rfl | ⟨h1, h2, h3, h4, h5, h6⟩
 iterate 6
  ·go_enter Tryz.func169, Tryz.ntmps169
   go_wp2_with fail
   go_ret3
   exact ⟨rfl, rfl⟩
 ·have e1 : kId k = false := by unfold kId; rw [h1, h2, h4, h5]; rfl
  have e2 : kName k = false := by unfold kName; rw [h3, h6]; rfl
  have e3 : kBlob k = false := by unfold kBlob; rw [h1, h2, h3]; rfl
  rw [e1, e2, e3]
  clear e1 e2 e3
  go_enter Tryz.func169, Tryz.ntmps169
  go_wp2_with fail
  go_ret3
  exact ⟨rfl, rfl⟩
def plB (l : List (Int × Int)) (n : Int) : Bool := decide (l.length ≤ 16) && (decide (0 ≤ n) && (decide (n ≤ 1048576) && (lies 0 8192 l && (sumLen l == need n))))
def PlSays (l : List (Int × Int)) (n : Int) (w : World) (e : Ending) (w' : World) : Prop := e = .returned (.bool (plB l n)) ∧ Kept [] w w'
theorem plSays_no {l : List (Int × Int)} {n : Int} {w w' : World} (h : lies 0 8192 l = false) (hk : Kept [] w w') : PlSays l n w (.returned (.bool false)) w' := by
 refine ⟨?_, hk⟩
 unfold plB
 rw [h]; simp
theorem plSays_yes {l : List (Int × Int)} {n : Int} {w w' : World} (h0 : l.length ≤ 16) (h1 : 0 ≤ n) (h2 : n ≤ 1048576) (h : lies 0 8192 l = true) (hk : Kept [] w w') : PlSays l n w (.returned (.bool (sumLen l == need n))) w' := by
 refine ⟨?_, hk⟩
 unfold plB
 rw [h, decide_eq_true h0, decide_eq_true h1, decide_eq_true h2]; simp
set_option maxRecDepth 100000 in
set_option maxHeartbeats 2000000 in
theorem jplaced (v : Value) (l : List (Int × Int)) (n : Int) (lo hi : Nat) (w : World) (h : RunsIn w v l lo hi) (hl : l.length ≤ 1000000) (hn : (Lit.int .i64 n).wf = true) :
  Calls Tryz.prog 170 #[v, .int .i64 n] w (PlSays l n w) := by
 obtain ⟨p, c, rfl⟩ := h.shape
 have hnb := bd64 hn
 rcases (by omega : 16 < l.length ∨ (l.length ≤ 16 ∧ n < 0) ∨ (l.length ≤ 16 ∧ 0 ≤ n ∧ 1048576 < n) ∨ (l.length ≤ 16 ∧ 0 ≤ n ∧ n ≤ 1048576)) with b1 | ⟨b1, b2⟩ | ⟨b1, b2, b3⟩ | ⟨b1, b2, b3⟩
 ·have e : plB l n = false := by unfold plB; rw [decide_eq_false (by omega)]; rfl
  unfold PlSays
  rw [e]
  have b1' : (16 : Int) < l.length := by omega
  go_enter Tryz.func170, Tryz.ntmps170
  go_wp2_with fail
  go_ret
  exact ⟨rfl, Kept.refl _ _⟩
 ·have e : plB l n = false := by unfold plB; rw [decide_eq_false (by omega : ¬ 0 ≤ n)]; simp
  unfold PlSays
  rw [e]
  have b1' : (l.length : Int) ≤ 16 := by omega
  go_enter Tryz.func170, Tryz.ntmps170
  go_wp2_with fail
  go_ret
  exact ⟨rfl, Kept.refl _ _⟩
 ·have e : plB l n = false := by unfold plB; rw [decide_eq_false (by omega : ¬ n ≤ 1048576)]; simp
  unfold PlSays
  rw [e]
  have b1' : (l.length : Int) ≤ 16 := by omega
  go_enter Tryz.func170, Tryz.ntmps170
  go_wp2_with fail
  go_ret
  exact ⟨rfl, Kept.refl _ _⟩
 have b1' : (l.length : Int) ≤ 16 := by omega
 have HPN := Lib.hid (pneed n)
 have HN' := Lib.hid hn
 clear hn
 go_enter Tryz.func170, Tryz.ntmps170
 go_wp2_with fail
 go_loopw [5, 23] (fun a i wr => ∃ k : Nat, k ≤ l.length ∧ i = .int .i64 k ∧ a = .int .i64 (sumLen (l.take k)) ∧ Aside (lieTo 0 8192 l k = true) ∧ Kept [] w wr) (fun _ i _ => l.length - (intOf i).toNat)
 case atStart => exact ⟨0, by omega, rfl, by simp [sumLen], rfl, Kept.refl _ _⟩
 case round =>
  obtain ⟨k, hk, rfl, rfl, hL, hK⟩ := hrel
  by_cases hlt : k < l.length
  ·obtain ⟨b, off, rfl, c0, c1, hb, hlc, hcm⟩ := (h.kept0 hK).at_ k hlt
   unfold maxLen at hcm
   have hno := lies_no 0 8192 l k hlt
   have hall : Aside (∀ m, (l.take m).all (apart l[k]) = true → m = k → okRun 0 8192 l[k] = true → lieTo 0 8192 l (k + 1) = true) := fun m h1 h2 h3 => by
    subst h2; rw [lieTo_succ 0 8192 l m hlt, hL.out, h3, h1]; rfl
   have hsum : Hid (sumLen (l.take (k + 1)) = sumLen (l.take k) + l[k].2) := sumLen_take l k hlt
   have hbd := sumLen_bd (Nat.le_of_lt hlt) hL.out (by omega) (by omega)
   have hks : (8192 : Int) * k ≤ 8192000000 := by omega
   have hnoap := all_take_no l[k] l
   rcases @okRun_cases 0 8192 l[k] with ⟨h0, hbad⟩ | ⟨h0, g1, g2, g3, g4⟩
   ·have HN : Hid (lies 0 8192 l = false) := hno (by rw [h0]; rfl)
    clear hno hall hsum h0 hnoap
    generalize l[k] = a at *
    generalize sumLen (l.take k) = sm at *
    rcases hbad with g1 | ⟨g1, g2⟩ | ⟨g1, g2, g3⟩ | ⟨g1, g2, g3, g4⟩
    all_goals
     go_wp2_with fail
     go_ret
     exact plSays_no HN.out (hK.alloc _)
   ·have hno2 : Hid ((l.take k).all (apart l[k]) = false → lies 0 8192 l = false) := fun hh => hno (by rw [hh, Bool.and_false])
    have H0 := Lib.hid h0
    have HA := Lib.hid hnoap
    have hstep := fun m hm => all_take_succ l[k] l m hm
    have HST := Lib.hid hstep
    have hokl := lieTo_ok (Nat.le_of_lt hlt) hL.out
    have HOK := Lib.hid hokl
    clear hno h0 hnoap hstep hokl
    generalize l[k] = a at *
    generalize sumLen (l.take k) = sm at *
    go_wp2_with fail
    obtain ⟨wo, rfl⟩ : ∃ wo : World, wo = wr := ⟨_, rfl⟩
    go_loopw [53] (fun i wr => ∃ m : Nat, m ≤ k ∧ i = .int .i64 m ∧ Aside ((l.take m).all (apart a) = true) ∧ Kept [] w wr ∧ Own wr wo.heap.size #[.int .i64 a.1, .int .i64 a.2] 128) (fun i _ => k - (intOf i).toNat)
    case atStart => exact ⟨0, by omega, rfl, rfl, hK.alloc _, Own.new _ _ _⟩
    case round =>
     obtain ⟨m, hm, rfl, hAP, hK2, ho⟩ := hrel
     obtain ⟨d0, d1⟩ := ho.c2
     have hlt3 := ho.lt
     by_cases hmk : m < k
     ·obtain ⟨b', off', hbe, e0, e1, hb2, -, -⟩ := (h.kept0 hK2).at_ m (by omega)
      injection hbe with hbe
      injection hbe with hbe1 hbe2 _
      subst hbe1 hbe2
      have hob := okRun_iff.1 (HOK.out m hmk)
      have hst2 := HST.out m (by omega)
      have hap2 := HA.out m k (by omega) hmk
      have HST2 := Lib.hid hst2
      have HAP2 := Lib.hid hap2
      have hc := @apart_cases a l[m]
      clear hst2 hap2
      generalize l[m] = bb at *
      obtain ⟨q1, q2, q3, q4⟩ := hob
      rcases hc with ⟨r0, r1, r2⟩ | ⟨r0, r1⟩
      ·have HN : Hid (lies 0 8192 l = false) := hno2.out (HAP2.out r0)
       clear r0 c0 c1
       go_wp2_with fail
       go_ret
       exact plSays_no HN.out (hK2.alloc _)
      ·have R0 := Lib.hid r0
       clear r0 c0 c1
       rcases r1 with r1 | ⟨r1, r2⟩
       all_goals
        go_wp2_with fail
        go_roundw
        case rel => exact ⟨m + 1, by omega, by go_num, by rw [HST2.out, hAP.out, R0.out]; rfl, hK2.alloc _, ho.alloc _⟩
        case measure => simp [intOf]; omega
     ·have hmk2 : m = k := by omega
      have HL : Aside (lieTo 0 8192 l (k + 1) = true) := hall.out m hAP.out hmk2 H0.out
      clear hAP c0 c1
      have hge : (k : Int) ≤ m := by omega
      clear hmk2 hmk
      go_wp2_with fail
      go_roundw
      case rel => exact ⟨k + 1, by omega, by go_num, by rw [hsum.out], HL, hK2⟩
      case measure => simp [intOf]; omega
  ·obtain rfl : k = l.length := by omega
   have HY : Hid (lies 0 8192 l = true) := hL.out
   have hfin := fun wx (hk : Kept [] w wx) => plSays_yes (n := n) (w := w) (w' := wx) b1 b2 b3 HY.out hk
   have HFIN := Lib.hid hfin
   rw [List.take_length]
   clear hfin hL
   generalize sumLen l = sm at *
   have HPN2 := Lib.hid (HPN.out wr HN'.out)
   clear HPN
   generalize need n = nd at *
   go_wp2_with fail
   refine HPN2.out.mono ?_; rintro e w5 ⟨rfl, rfl⟩
   go_wp2_with fail
   go_ret
   exact HFIN.out _ hK
def fitCode (n : Nat) (j u : Int) : Int := if j < 1 ∨ (n : Int) - 2 < j ∨ u < 0 ∨ 128 * j < u then 1 else 0
theorem fit_ok {n : Nat} {j u : Int} (h : fitCode n j u = 0) : 1 ≤ j ∧ j ≤ (n : Int) - 2 ∧ 0 ≤ u ∧ u ≤ 128 * j := by
 unfold fitCode at h
 split at h
 ·omega
 ·omega
theorem fit_no {n : Nat} {j u : Int} (h : fitCode n j u ≠ 0) : fitCode n j u = 1 := by
 unfold fitCode at h ⊢
 by_cases hc : j < 1 ∨ (n : Int) - 2 < j ∨ u < 0 ∨ 128 * j < u
 ·rw [if_pos hc]
 ·rw [if_neg hc] at h; exact absurd rfl h
def appD : Nat → DK → Nat → List UInt8 → DK × Int
 | 0, d, _, _ => (d, 0)
 | f + 1, d, a, s => if s = [] then (d, 0) else if wCode d a (chunk s) = 0 then appD f (wNext d a (chunk s)) (a + 1) (s.drop 128) else (wNext d a (chunk s), wCode d a (chunk s))
theorem appD_fuel (f g : Nat) (d : DK) (a : Nat) (s : List UInt8) (hf : s.length ≤ f) (hg : s.length ≤ g) : appD f d a s = appD g d a s := by
 induction f generalizing g d a s with
 | zero =>
  have : s = [] := List.eq_nil_of_length_eq_zero (by omega)
  subst this
  cases g with
  | zero => rfl
  | succ g => rw [appD, appD, if_pos rfl]
 | succ f ih =>
  cases g with
  | zero =>
   have : s = [] := List.eq_nil_of_length_eq_zero (by omega)
   subst this
   rw [appD, appD, if_pos rfl]
  | succ g =>
   rw [appD, appD]
   by_cases hs : s = []
   ·rw [if_pos hs, if_pos hs]
   ·have hl : 0 < s.length := List.length_pos_iff.2 hs
    rw [if_neg hs, if_neg hs, ih g _ _ _ (by rw [List.length_drop]; omega) (by rw [List.length_drop]; omega)]
def appAll (d : DK) (a : Nat) (s : List UInt8) : DK × Int := appD s.length d a s
theorem appAll_nil (d : DK) (a : Nat) : appAll d a [] = (d, 0) := rfl
theorem appAll_step {d : DK} {a : Nat} {s : List UInt8} (hs : s ≠ []) : appAll d a s = if wCode d a (chunk s) = 0 then appAll (wNext d a (chunk s)) (a + 1) (s.drop 128) else (wNext d a (chunk s), wCode d a (chunk s)) := by
 have hl : 0 < s.length := List.length_pos_iff.2 hs
 obtain ⟨f, hf⟩ : ∃ f, s.length = f + 1 := ⟨s.length - 1, by omega⟩
 unfold appAll
 rw [hf, appD, if_neg hs, appD_fuel f (s.drop 128).length _ _ _ (by rw [List.length_drop]; omega) (Nat.le_refl _)]
def mayG (I N B : Bool) (id : Int) (name : List UInt8) (size : Int) (runs : List (Int × Int)) : Bool :=
 (I || N) && ((I == decide (id ≠ 0)) && (decide (id ≤ 4294967294) && ((N == !name.isEmpty) && (decide (name.length ≤ 48) && ((B || (decide (size = 0) && runs.isEmpty)) && plB runs size)))))
def mayR (r : JRec) : Bool := mayG (kId r.kind) (kName r.kind) (kBlob r.kind) r.id r.name r.size r.runs
def JRec.fits (r : JRec) : Prop := (Lit.int .i64 r.kind).wf = true ∧ (Lit.int .u32 r.id).wf = true ∧ r.name.length ≤ maxLen ∧ (Lit.int .i64 r.size).wf = true
def JCheck (m : Bool) (w : World) (e : Ending) (w' : World) : Prop := e = .returned (.int .i64 (if m then 0 else 1)) ∧ Kept [] w w'
theorem jcheck_no {m : Bool} {w w' : World} (h : m = false) (k : Kept [] w w') : JCheck m w (.returned (.int .i64 1)) w' := ⟨by rw [h]; rfl, k⟩
theorem jcheck_yes {m : Bool} {w w' : World} (h : m = true) (k : Kept [] w w') : JCheck m w (.returned (.int .i64 0)) w' := ⟨by rw [h]; rfl, k⟩
theorem bd32 {n : Int} (h : (Lit.int .u32 n).wf = true) : 0 ≤ n ∧ n ≤ 4294967295 := by
 simp only [Lit.wf, Bool.and_eq_true, decide_eq_true_eq] at h
 exact ⟨by have := h.1; exact this, by have := h.2; exact this⟩
theorem plB_zero : plB [] 0 = true := by decide
theorem name_cases (l : List UInt8) : (l = [] ∧ (bs l).toList.isEmpty = true ∧ (bs l).toList = [] ∧ l.length = 0) ∨ (l.isEmpty = false ∧ (bs l).toList.isEmpty = false ∧ 1 ≤ l.length) := by
 cases l with
 | nil => exact Or.inl ⟨rfl, by rw [bs_toList]; rfl, by rw [bs_toList], rfl⟩
 | cons a t => exact Or.inr ⟨rfl, by rw [bs_toList]; rfl, by simp⟩
end Go.Proofs.YtdkimcnlhmhpgaaGreat
