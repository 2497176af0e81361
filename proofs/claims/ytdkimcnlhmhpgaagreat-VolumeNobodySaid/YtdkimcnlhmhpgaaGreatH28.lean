/- -/
import Derived.Test.YtdkimcnlhmhpgaaGreatH04
import Derived.Test.YtdkimcnlhmhpgaaGreatH09
import Derived.Test.YtdkimcnlhmhpgaaGreatH27
set_option linter.unusedVariables false
set_option linter.unusedSimpArgs false
namespace Go.Proofs.YtdkimcnlhmhpgaaGreat
open Go.RowKit
theorem LayAt.grown {w w' : World} {lo : Nat} {v : Value} {y : Ly} {base : Nat} {rv : Value} {n : Nat} {xs : List Value} (h : LayAt w lo v y) (hown : w.ownsRow base 70 1 rv n xs) (hg : w.grownBy w' rv.ownBlock) : LayAt w' lo v y := by
 have key : ∀ g cs t, Own w g cs t → 70 ≠ t → Own w' g cs t := fun g cs t o hne => by
  refine Eq.trans (hg.block g o.lt ?_) o
  rcases hown.2 with ⟨rfl, _⟩ | ⟨g', cap, cur, rfl, _, hh, _⟩
  ·simp [Value.ownBlock]
  ·intro he
   have e : g = g' := by simpa [Value.ownBlock] using he
   subst e
   have o' : w.heap[g]? = some (.cells cs t (0, 0)) := o
   rw [o'] at hh
   injection hh with hh
   injection hh with _ ht
   exact hne ht.symm
 cases y with
 | hd s u => obtain ⟨g, h1, h2, h3, h4⟩ := h; exact ⟨g, h1, h2, key g _ _ h3 (by decide), h4⟩
 | wd n => obtain ⟨g, h1, h2, h3, h4⟩ := h; exact ⟨g, h1, h2, key g _ _ h3 (by decide), h4⟩
 | hf n => obtain ⟨g, h1, h2, h3, h4⟩ := h; exact ⟨g, h1, h2, key g _ _ h3 (by decide), h4⟩
theorem own_S5 {w : World} {b : Nat} {x0 x1 x2 x3 x4 x5 : Value} {t : TypeId} (h : Own w b #[x0, x1, x2, x3, x4, x5] t) : w.cell? ⟨b, 1, none⟩ = some x1 ∧ w.cell? ⟨b, 2, none⟩ = some x2 ∧ w.cell? ⟨b, 3, none⟩ = some x3 ∧ w.cell? ⟨b, 4, none⟩ = some x4 ∧ w.cell? ⟨b, 5, none⟩ = some x5 := h.c6.2
theorem own_S2 {w : World} {b : Nat} {x0 x1 : Value} {t : TypeId} (h : Own w b #[x0, x1] t) : w.cell? ⟨b, 0, none⟩ = some x0 ∧ w.cell? ⟨b, 1, none⟩ = some x1 := h.c2
theorem own_row {w : World} {g n base : Nat} {cs : Array Value} {e : TypeId} (h : Own w g cs e) (hn : cs.size = n) (hb : base ≤ g) (hm : n ≤ maxLen) : w.ownsRow base e 1 (.slice (some ⟨g, 0, none⟩) n n) n cs.toList :=
 ⟨by simp [hn], Or.inr ⟨g, n, cs, rfl, hb, h, Nat.le_refl _, hm, by simp [hn], by rw [List.take_of_length_le (by simp [hn])]⟩⟩
def SB.lys (s : SB) (v : Value) (k : Nat) : List Ly :=
 [.hd s v, .wd s.sectors.toNat, .wd s.journal.toNat, .wd s.used.toNat, .wd s.size.toNat, .hf s.runs.length, .hf 0] ++ ((s.runs.take k).map fun r => [Ly.hf r.1.toNat, Ly.hf r.2.toNat]).flatten
theorem SB.lys_succ (s : SB) (v : Value) (k : Nat) (h : k < s.runs.length) : s.lys v (k + 1) = s.lys v k ++ [.hf s.runs[k].1.toNat, .hf s.runs[k].2.toNat] := by
 unfold SB.lys
 rw [List.take_succ_eq_append_getElem h, List.map_append, List.flatten_append, ← List.append_assoc]
 rfl
def LaysAt (w : World) (lo : Nat) (v : Value) (zs : List (Value × Ly)) : Prop :=
 w.ownsRow lo 70 1 v zs.length (zs.map (·.1)) ∧ ∀ z ∈ zs, LayAt w lo z.1 z.2
theorem infoFunc : ∃ i, Tryz.prog.info? 70 = some i ∧ i.zero = some .nilFunc ∧ i.size = 1 ∧ i.bytes = 8 := by
 have hi : (Tryz.prog.info? 70).map (fun i => (i.zero, i.size, i.bytes)) = some (some .nilFunc, 1, 8) := by kernel_rfl
 obtain ⟨i0, hi0, hz0, hz1, hz2⟩ := info_parts hi
 exact ⟨i0, hi0, hz0, hz1, hz2⟩
def Lays0 (w wx : World) (v : Value) (s : SB) (u : Value) : Prop :=
 ∃ zs, LaysAt wx w.heap.size v zs ∧ zs.map (·.2) = s.lys u 0 ∧ Own wx w.heap.size (s.cells u) 58 ∧ Kept [] w wx
theorem lays0 (w : World) (sq a b u z n : Nat) (l : List (Int × Int)) (v : Value) (hn : l.length = n) (hsq : sq < 18446744073709551616) (ha : a < 4294967296) (hb : b < 4294967296) (hu : u < 4294967296) (hz : z < 4294967296) (hn2 : n < 65536) :
  Lays0 w ((((((((w.alloc (.cells #[.int .u64 (sq : Int), .int .i64 (a : Int), .int .i64 (b : Int), .int .i64 (u : Int), .int .i64 (z : Int), v] 58)).alloc (.cells #[.int .i64 (a : Int)] 3)).alloc (.cells #[.int .i64 (b : Int)] 3)).alloc (.cells #[.int .i64 (u : Int)] 3)).alloc (.cells #[.int .i64 (z : Int)] 3)).alloc (.cells #[.int .i64 (n : Int)] 3)).alloc (.cells #[.int .i64 0] 3)).alloc (.cells #[.func (.func 228) #[] #[.pointer (some ⟨w.heap.size, 0, none⟩)], .func (.func 225) #[] #[.pointer (some ⟨w.heap.size + 1, 0, none⟩)], .func (.func 225) #[] #[.pointer (some ⟨w.heap.size + 1 + 1, 0, none⟩)], .func (.func 225) #[] #[.pointer (some ⟨w.heap.size + 1 + 1 + 1, 0, none⟩)], .func (.func 225) #[] #[.pointer (some ⟨w.heap.size + 1 + 1 + 1 + 1, 0, none⟩)], .func (.func 227) #[] #[.pointer (some ⟨w.heap.size + 1 + 1 + 1 + 1 + 1, 0, none⟩)], .func (.func 227) #[] #[.pointer (some ⟨w.heap.size + 1 + 1 + 1 + 1 + 1 + 1, 0, none⟩)]] 70)).drew (.slice (some ⟨w.heap.size + 1 + 1 + 1 + 1 + 1 + 1 + 1, 0, none⟩) 7 7) ⟨sq, a, b, u, z, l⟩ v := by
 obtain ⟨o0, o1, o2, o3, o4, o5, o6, o7⟩ := own_eight w #[.int .u64 (sq : Int), .int .i64 (a : Int), .int .i64 (b : Int), .int .i64 (u : Int), .int .i64 (z : Int), v] #[.int .i64 (a : Int)] #[.int .i64 (b : Int)] #[.int .i64 (u : Int)] #[.int .i64 (z : Int)] #[.int .i64 (n : Int)] #[.int .i64 0] #[.func (.func 228) #[] #[.pointer (some ⟨w.heap.size, 0, none⟩)], .func (.func 225) #[] #[.pointer (some ⟨w.heap.size + 1, 0, none⟩)], .func (.func 225) #[] #[.pointer (some ⟨w.heap.size + 1 + 1, 0, none⟩)], .func (.func 225) #[] #[.pointer (some ⟨w.heap.size + 1 + 1 + 1, 0, none⟩)], .func (.func 225) #[] #[.pointer (some ⟨w.heap.size + 1 + 1 + 1 + 1, 0, none⟩)], .func (.func 227) #[] #[.pointer (some ⟨w.heap.size + 1 + 1 + 1 + 1 + 1, 0, none⟩)], .func (.func 227) #[] #[.pointer (some ⟨w.heap.size + 1 + 1 + 1 + 1 + 1 + 1, 0, none⟩)]] 58 3 3 3 3 3 3 70
 have hr := own_row (base := w.heap.size) o7 (n := 7) rfl (by omega) (by unfold maxLen; omega)
 refine ⟨[(.func (.func 228) #[] #[.pointer (some ⟨w.heap.size, 0, none⟩)], .hd ⟨sq, a, b, u, z, l⟩ v), (.func (.func 225) #[] #[.pointer (some ⟨w.heap.size + 1, 0, none⟩)], .wd a), (.func (.func 225) #[] #[.pointer (some ⟨w.heap.size + 1 + 1, 0, none⟩)], .wd b), (.func (.func 225) #[] #[.pointer (some ⟨w.heap.size + 1 + 1 + 1, 0, none⟩)], .wd u), (.func (.func 225) #[] #[.pointer (some ⟨w.heap.size + 1 + 1 + 1 + 1, 0, none⟩)], .wd z), (.func (.func 227) #[] #[.pointer (some ⟨w.heap.size + 1 + 1 + 1 + 1 + 1, 0, none⟩)], .hf n), (.func (.func 227) #[] #[.pointer (some ⟨w.heap.size + 1 + 1 + 1 + 1 + 1 + 1, 0, none⟩)], .hf 0)], ⟨hr, ?_⟩, ?_, o0, ?_⟩
 ·intro y hy
  simp only [List.mem_cons, List.not_mem_nil, or_false] at hy
  rcases hy with rfl | rfl | rfl | rfl | rfl | rfl | rfl
  ·exact ⟨_, Nat.le_refl _, rfl, o0, hsq⟩
  ·exact ⟨_, by omega, rfl, o1, ha⟩
  ·exact ⟨_, by omega, rfl, o2, hb⟩
  ·exact ⟨_, by omega, rfl, o3, hu⟩
  ·exact ⟨_, by omega, rfl, o4, hz⟩
  ·exact ⟨_, by omega, rfl, o5, hn2⟩
  ·exact ⟨_, by omega, rfl, o6, by omega⟩
 ·subst hn
  simp [SB.lys]
 ·exact ((((((((((Kept.refl _ _).alloc _).alloc _).alloc _).alloc _).alloc _).alloc _).alloc _).alloc _).drew)
theorem lays_step {w wr w5 : World} {v : Value} {zs : List (Value × Ly)} {n1 n2 g cap : Nat} (h : LaysAt wr w.heap.size v zs) (hw : w.heap.size ≤ wr.heap.size) (h1 : n1 < 65536) (h2 : n2 < 65536)
  (o3 : w5.ownsRow w.heap.size 70 1 (.slice (some ⟨g, 0, none⟩) (zs.length + 2) cap) (zs.length + 2) (zs.map (·.1) ++ [.func (.func 227) #[] #[.pointer (some ⟨wr.heap.size + 1, 0, none⟩)], .func (.func 227) #[] #[.pointer (some ⟨wr.heap.size + 1 + 1, 0, none⟩)]]))
  (gr : World.grownBy ((((wr.alloc (.cells #[.int .i64 (n1 : Int), .int .i64 (n2 : Int)] 128)).alloc (.cells #[.int .i64 (n1 : Int)] 3)).alloc (.cells #[.int .i64 (n2 : Int)] 3)).alloc (.cells #[.func (.func 227) #[] #[.pointer (some ⟨wr.heap.size + 1, 0, none⟩)], .func (.func 227) #[] #[.pointer (some ⟨wr.heap.size + 1 + 1, 0, none⟩)]] 70)).drew w5 v.ownBlock) :
  LaysAt w5 w.heap.size (.slice (some ⟨g, 0, none⟩) (zs.length + 2) cap) (zs ++ [(.func (.func 227) #[] #[.pointer (some ⟨wr.heap.size + 1, 0, none⟩)], .hf n1), (.func (.func 227) #[] #[.pointer (some ⟨wr.heap.size + 1 + 1, 0, none⟩)], .hf n2)]) := by
 obtain ⟨hown, hlay⟩ := h
 have own4 := World.ownsRow.drew (World.ownsRow.alloc (World.ownsRow.alloc (World.ownsRow.alloc (World.ownsRow.alloc hown (.cells #[.int .i64 (n1 : Int), .int .i64 (n2 : Int)] 128)) (.cells #[.int .i64 (n1 : Int)] 3)) (.cells #[.int .i64 (n2 : Int)] 3)) (.cells #[.func (.func 227) #[] #[.pointer (some ⟨wr.heap.size + 1, 0, none⟩)], .func (.func 227) #[] #[.pointer (some ⟨wr.heap.size + 1 + 1, 0, none⟩)]] 70))
 have k4 : Kept [] wr ((((wr.alloc (.cells #[.int .i64 (n1 : Int), .int .i64 (n2 : Int)] 128)).alloc (.cells #[.int .i64 (n1 : Int)] 3)).alloc (.cells #[.int .i64 (n2 : Int)] 3)).alloc (.cells #[.func (.func 227) #[] #[.pointer (some ⟨wr.heap.size + 1, 0, none⟩)], .func (.func 227) #[] #[.pointer (some ⟨wr.heap.size + 1 + 1, 0, none⟩)]] 70)).drew := ((((((Kept.refl _ _).alloc _).alloc _).alloc _).alloc _).drew)
 obtain ⟨_, q1, q2, _⟩ := own_four wr #[.int .i64 (n1 : Int), .int .i64 (n2 : Int)] #[.int .i64 (n1 : Int)] #[.int .i64 (n2 : Int)] #[.func (.func 227) #[] #[.pointer (some ⟨wr.heap.size + 1, 0, none⟩)], .func (.func 227) #[] #[.pointer (some ⟨wr.heap.size + 1 + 1, 0, none⟩)]] 128 3 3 70
 refine ⟨by simpa using o3, fun y hy => ?_⟩
 rw [List.mem_append] at hy
 rcases hy with hy | hy
 ·exact ((hlay y hy).kept k4 (by simp)).grown own4 gr
 ·simp only [List.mem_cons, List.not_mem_nil, or_false] at hy
  rcases hy with rfl | rfl
  ·exact LayAt.grown (y := .hf n1) ⟨_, by omega, rfl, q1.drew, h1⟩ own4 gr
  ·exact LayAt.grown (y := .hf n2) ⟨_, by omega, rfl, q2.drew, h2⟩ own4 gr
set_option maxRecDepth 100000 in
set_option maxHeartbeats 4000000 in
theorem pfields' (sq a b u z : Nat) (l : List (Int × Int)) (v : Value) (lo hi : Nat) (w : World) (h : RunsIn w v l lo hi) (hq : sq < 18446744073709551616) (ha : a ≤ 8192) (hb : b ≤ 8192) (hu : u ≤ 1048576) (hz : z ≤ 1048576) (hl : l.length ≤ 16)
  (hok : ∀ k (hk : k < l.length), 0 ≤ l[k].1 ∧ l[k].1 ≤ 8192 ∧ 0 ≤ l[k].2 ∧ l[k].2 ≤ 8192) :
  Calls Tryz.prog 165 #[.agg #[.int .u64 (sq : Int), .int .i64 (a : Int), .int .i64 (b : Int), .int .i64 (u : Int), .int .i64 (z : Int), v]] w fun e w' => (∃ r zs, e = .returned r ∧ LaysAt w' w.heap.size r zs ∧ zs.map (·.2) = (SB.mk sq a b u z l).lys v l.length) ∧ Kept [] w w' := by
 obtain ⟨i0, hi0, hz0, hz1, hz2⟩ := infoFunc
 obtain ⟨p, c, rfl⟩ := h.shape
 have HLO := Lib.hid hok
 clear hok
 have hL0 := lays0 w sq a b u z l.length l (.slice p l.length c) rfl hq (by omega) (by omega) (by omega) (by omega) (by omega)
 have HL0 := Lib.hid hL0
 clear hL0
 have o := Own.new w #[.int .u64 (sq : Int), .int .i64 (a : Int), .int .i64 (b : Int), .int .i64 (u : Int), .int .i64 (z : Int), .slice p l.length c] 58
 obtain ⟨d0, d1, d2, d3, d4, d5⟩ := o.c6
 go_enter Tryz.func165, Tryz.ntmps165
 go_upto_region 3 with fail
 go_cut [5] (fun v5 wx => Lays0 w wx v5 ⟨sq, a, b, u, z, l⟩ (.slice p l.length c))
 case first =>
  go_region_held3 (fun w' => w'.cell? ⟨w.heap.size, 1, none⟩ = some (.int .i64 (a : Int)) ∧ w'.cell? ⟨w.heap.size, 2, none⟩ = some (.int .i64 (b : Int)) ∧ w'.cell? ⟨w.heap.size, 3, none⟩ = some (.int .i64 (u : Int)) ∧ w'.cell? ⟨w.heap.size, 4, none⟩ = some (.int .i64 (z : Int)) ∧ w'.cell? ⟨w.heap.size, 5, none⟩ = some (.slice p l.length c)) ((refine own_S5 (x0 := .int .u64 (sq : Int)) (t := 58) ?_; (repeat' first | exact o | refine Own.drew ?_ | refine Own.alloc ?_ _)))
   (first
    | (go_at_call 224; ((with_reducible refine (fword _ _).mono ?_)); rintro e w' ⟨rfl, rfl⟩)
    | (go_at_call 226; ((with_reducible refine (fhalf _ _).mono ?_)); rintro e w' ⟨rfl, rfl⟩))
  all_goals go_wp2_with fail
  all_goals go_meet
  all_goals exact HL0.out
 case rest =>
  obtain ⟨zs, hlays, hzs, ho, hkc⟩ := hcut
  unfold SB.cells at ho
  obtain ⟨d0, d1, d2, d3, d4, d5⟩ := ho.c6
  have HZ := Lib.hid hzs
  clear hzs
  go_wp2_with fail
  go_loopw [5, 36] (fun v i wr => ∃ (k : Nat) (zs : List (Value × Ly)), k ≤ l.length ∧ i = .int .i64 k ∧ LaysAt wr w.heap.size v zs ∧ Aside (zs.map (·.2) = (SB.mk sq a b u z l).lys (.slice p l.length c) k ∧ zs.length = 7 + 2 * k) ∧ Kept [] w wr) (fun _ i _ => l.length - (intOf i).toNat)
  case atStart => exact ⟨0, zs, by omega, rfl, hlays, ⟨HZ.out, by have := congrArg List.length HZ.out; rw [List.length_map] at this; rw [this]; rfl⟩, hkc⟩
  case round =>
   obtain ⟨k, zs, hk, rfl, hlays, hA, hK⟩ := hrel
   by_cases hlt : k < l.length
   ·obtain ⟨b', off, rfl, c0, c1, hb', hlc, hcm⟩ := (h.kept0 hK).at_ k hlt
    obtain ⟨p', cap', rfl⟩ := own_shape hlays.1
    have hown := hlays.1
    have hbd := HLO.out k hlt
    have hsucc := SB.lys_succ (SB.mk sq a b u z l) (.slice (some ⟨b', off, none⟩) l.length c) k hlt
    simp only at hsucc
    obtain ⟨n1, hn1⟩ := Int.eq_ofNat_of_zero_le hbd.1
    obtain ⟨n2, hn2⟩ := Int.eq_ofNat_of_zero_le hbd.2.2.1
    rw [hn1] at c0 hsucc hbd
    rw [hn2] at c1 hsucc hbd
    rw [Int.toNat_natCast, Int.toNat_natCast] at hsucc
    have HSU := Lib.hid hsucc
    have hzl : zs.length ≤ 100 := by have := hA.2; omega
    have hws := hK.size
    have hb1 : n1 < 65536 := by omega
    have hb2 : n2 < 65536 := by omega
    have hne : some wr.heap.size ≠ (Value.slice p' zs.length cap').ownBlock := fun e => by have := (World.ownsRow.lt hown _ e.symm).2; omega
    have hstep := fun w5 g cap => @lays_step w wr w5 (.slice p' zs.length cap') zs n1 n2 g cap hlays hws hb1 hb2
    have HSTEP := Lib.hid hstep
    have HNE := Lib.hid hne
    have HK := Lib.hid hK
    have HOW := Lib.hid hown
    have o1 := Own.new wr #[.int .i64 (n1 : Int), .int .i64 (n2 : Int)] 128
    clear hsucc hn1 hn2 hbd hlays hstep hne hK
    go_wp2_with fail
    go_region_held3 (fun w' => w'.cell? ⟨wr.heap.size, 0, none⟩ = some (.int .i64 (n1 : Int)) ∧ w'.cell? ⟨wr.heap.size, 1, none⟩ = some (.int .i64 (n2 : Int))) (first | go_keep | ((refine own_S2 (t := 128) ?_; (repeat' first | exact o1 | refine Own.drew ?_ | refine Own.alloc ?_ _))))
     (first
      | (go_at_call 226; ((with_reducible refine (fhalf _ _).mono ?_)); rintro e w' ⟨rfl, rfl⟩)
      | (refine step_append_lies _ (by rfl) (.tmp 40) (.tmp 49) 226 (by rfl) w.heap.size 70 i0 .nilFunc 1 8 Tryz.underlying226 hi0 hz0 hz1 hz2 rfl (by decide) _ _ _ (by rfl) (World.ownsRow.drew (World.ownsRow.alloc (World.ownsRow.alloc (World.ownsRow.alloc (World.ownsRow.alloc HOW.out _) _) _) _)) ⟨wr.heap.size + 1 + 1 + 1, 0, none⟩ 2 2 [.func (.func 227) #[] #[.pointer (some ⟨wr.heap.size + 1, 0, none⟩)], .func (.func 227) #[] #[.pointer (some ⟨wr.heap.size + 1 + 1, 0, none⟩)]] (by rfl) rfl (World.news_of_block (own_four wr _ _ _ _ _ _ _ _).2.2.2) (by intro u hu; simp at hu; rcases hu with rfl | rfl <;> rfl) (by decide) (by unfold maxLen; omega) (by omega) (by simp; omega) (wr.heap.size + 1 + 1 + 1 + 1) (by simp) ?_; intro g3 cap3 w5 o3 gr3 at3 lt3; have y0 : w5.cell? ⟨wr.heap.size, 0, none⟩ = some (.int .i64 (n1 : Int)) := (by rw [gr3.cell_far ⟨wr.heap.size, 0, none⟩ (by simp; omega) HNE.out]; exact (own_S2 (t := 128) (by (repeat' first | exact o1 | refine Own.drew ?_ | refine Own.alloc ?_ _))).1); have y1 : w5.cell? ⟨wr.heap.size, 1, none⟩ = some (.int .i64 (n2 : Int)) := (by rw [gr3.cell_far ⟨wr.heap.size, 1, none⟩ (by simp; omega) HNE.out]; exact (own_S2 (t := 128) (by (repeat' first | exact o1 | refine Own.drew ?_ | refine Own.alloc ?_ _))).2)))
    have hL5 := HSTEP.out w5 g3 cap3 o3 gr3
    have hk5 : Kept [] w w5 := (((((HK.out.alloc _).alloc _).alloc _).alloc _).drew).grown gr3 (fun g hg => Or.inr (World.ownsRow.lt HOW.out g hg).1)
    clear gr3 o3 at3 y0 y1
    go_wp2_with fail
    go_roundw
    case rel => exact ⟨k + 1, _, by omega, by go_num, hL5, ⟨by rw [List.map_append, hA.1, HSU.out]; rfl, by have := hA.2; simp; omega⟩, hk5⟩
    case measure => simp [intOf]; omega
   ·obtain rfl : k = l.length := by omega
    have hA1 := Lib.hid hA.1
    clear hA
    go_wp2_with fail
    go_ret
    exact ⟨⟨_, zs, rfl, hlays, hA1.out⟩, hK⟩
def runsL (l : List (Int × Int)) : List UInt8 := (l.map fun r => numL r.1.toNat 2 ++ numL r.2.toNat 2).flatten
def SB.body (s : SB) : List UInt8 :=
 magicL ++ numL s.seq 8 ++ numL s.sectors.toNat 4 ++ numL s.journal.toNat 4 ++ numL s.used.toNat 4 ++ numL s.size.toNat 4 ++ numL s.runs.length 2 ++ numL 0 2 ++ runsL s.runs
def SB.sector (s : SB) : List UInt8 := sealL (fillL s.body 124)
theorem lys_runs (l : List (Int × Int)) : (((l.map fun r => [Ly.hf r.1.toNat, Ly.hf r.2.toNat]).flatten).map Ly.txt).flatten = runsL l := by
 induction l with
 | nil => rfl
 | cons a l ih =>
  simp only [List.map_cons, List.flatten_cons, List.map_append, List.flatten_append, runsL]
  rw [ih]
  simp [Ly.txt, runsL]
theorem lys_body (s : SB) (v : Value) : ((s.lys v s.runs.length).map Ly.txt).flatten = s.body := by
 unfold SB.lys
 rw [List.take_length, List.map_append, List.flatten_append, lys_runs]
 simp [Ly.txt, SB.body]
theorem runsL_len (l : List (Int × Int)) : (runsL l).length = 4 * l.length := by
 induction l with
 | nil => rfl
 | cons a l ih => simp only [runsL, List.map_cons, List.flatten_cons, List.length_append, numL_len, List.length_cons] at *; omega
theorem body_len (s : SB) : s.body.length = 36 + 4 * s.runs.length := by
 simp only [SB.body, List.length_append, numL_len, runsL_len, magicL, List.length_cons, List.length_nil]
theorem fill_len (l : List UInt8) (h : l.length ≤ 124) : (fillL l 124).length = 124 := by
 unfold fillL; rw [List.length_append, List.length_replicate]; omega
theorem sector_len (s : SB) (h : s.runs.length ≤ 16) : s.sector.length = 128 := by
 unfold SB.sector sealL
 rw [List.length_append, numL_len, fill_len _ (by rw [body_len]; omega)]
theorem pfields (s : SB) (v : Value) (lo hi : Nat) (w : World) (h : RunsIn w v s.runs lo hi) (hm : s.may) (hq : s.seq < 18446744073709551616) :
  Calls Tryz.prog 165 #[.agg (s.cells v)] w fun e w' => (∃ r zs, e = .returned r ∧ LaysAt w' w.heap.size r zs ∧ zs.map (·.2) = s.lys v s.runs.length) ∧ Kept [] w w' := by
 obtain ⟨⟨g1, g2, g3, g4, g5, g6, g7, g8, g9, g10⟩, hL, _⟩ := hm
 have hLO := lieTo_ok (Nat.le_refl _) hL
 obtain ⟨sq, a, b, u, z, l⟩ := s
 simp only at *
 obtain ⟨a, rfl⟩ := Int.eq_ofNat_of_zero_le (show 0 ≤ a by omega)
 obtain ⟨b, rfl⟩ := Int.eq_ofNat_of_zero_le (show 0 ≤ b by omega)
 obtain ⟨u, rfl⟩ := Int.eq_ofNat_of_zero_le (show 0 ≤ u by omega)
 obtain ⟨z, rfl⟩ := Int.eq_ofNat_of_zero_le (show 0 ≤ z by omega)
 exact pfields' sq a b u z l v lo hi w h hq (by omega) (by omega) (by omega) (by omega) g10 (fun k hk => by
  have := okRun_iff.1 (hLO k hk)
  omega)
set_option maxRecDepth 100000 in
set_option maxHeartbeats 2000000 in
theorem pput (s : SB) (v : Value) (lo hi : Nat) (w : World) (h : RunsIn w v s.runs lo hi) (hm : s.may) (hq : s.seq < 18446744073709551616) :
  Calls Tryz.prog 93 #[.agg (s.cells v)] w fun e w' => e = .returned (.tuple #[.string (bs s.sector), .int .i64 0]) ∧ Kept [] w w' := by
 have hl16 : s.runs.length ≤ 16 := hm.1.2.2.2.2.2.2.2.2.2
 have hC := fun w' (hk : Kept [] w w') => (pcheck s v lo hi w' (h.kept0 hk) (by omega)).mono fun e w'' hh => (show e = .returned (.int .i64 0) ∧ Kept [] w' w'' from ⟨by
  rcases hh.1 with ⟨_, e1⟩ | ⟨e1, _⟩
  ·exact e1
  ·exact absurd hm e1, hh.2⟩)
 have hF := fun w' (hk : Kept [] w w') => pfields s v lo hi w' (h.kept0 hk) hm hq
 have o := Own.new w (s.cells v) 58
 have hb := body_len s
 have hbody := lys_body s v
 have HB := Lib.hid hbody
 have hfill := fun w => packFill (bs s.body) 124 w (by rw [bs_size]; omega) (by omega)
 rw [bs_data] at hfill
 have hseal := fun w => cseal (fillL s.body 124) w (by rw [fill_len _ (by omega)]; omega)
 have hsec : sealL (fillL s.body 124) = s.sector := rfl
 rw [hsec] at hseal
 have HC := Lib.hid hC
 have HF := Lib.hid hF
 clear hC hF h hm hbody hsec
 generalize fillL s.body 124 = FL at *
 generalize s.sector = SL at *
 unfold SB.cells at *
 go_enter Tryz.func93, Tryz.ntmps93
 obtain ⟨d0, d1, d2, d3, d4, d5⟩ := o.c6
 go_wp2_with fail
 refine (HC.out _ ((Kept.refl _ _).alloc _)).mono ?_; rintro e w1 ⟨rfl, hk1⟩
 have o1 := hk1.own o (by simp)
 obtain ⟨d0, d1, d2, d3, d4, d5⟩ := o1.c6
 go_wp2_with fail
 refine (HF.out _ (((Kept.refl _ _).alloc _).trans hk1)).mono ?_; rintro e w2 ⟨⟨r, zs, rfl, ⟨hown, hlay⟩, hzs⟩, hk2⟩
 have hzl : zs.length = (s.lys v s.runs.length).length := by rw [← hzs, List.length_map]
 have hzl2 : zs.length = 7 + 2 * s.runs.length := by
  rw [hzl]; unfold SB.lys; rw [List.take_length, List.length_append]
  have : ∀ l : List (Int × Int), ((l.map fun r => [Ly.hf r.1.toNat, Ly.hf r.2.toNat]).flatten).length = 2 * l.length := fun l => by
   induction l with
   | nil => rfl
   | cons a l ih => simp only [List.map_cons, List.flatten_cons, List.length_append, List.length_cons, ih, List.length_nil]; omega
  rw [this]; rfl
 have htx : (zs.map fun z => z.2.txt).flatten = s.body := by
  rw [← HB.out, ← hzs, List.map_map]; rfl
 have HT := Lib.hid htx
 have hkk : Kept [] w w2 := (((Kept.refl _ _).alloc _).trans hk1).trans hk2
 have hw12 : w.heap.size ≤ w1.heap.size := by have := hk1.size; simp at this; omega
 clear hzl hzs htx HF HC HB
 obtain ⟨g, cap, rfl, hg⟩ : ∃ g cap, r = .slice (some ⟨g, 0, none⟩) zs.length cap ∧ (Value.slice (some ⟨g, 0, none⟩) zs.length cap).ownBlock = some g := by
  rcases hown.2 with ⟨_, hx⟩ | ⟨g, cap, cur, rfl, _⟩
  ·omega
  ·exact ⟨g, cap, rfl, rfl⟩
 have hzb : zs.length ≤ 100 := by omega
 have H2 := Lib.hid hzl2
 clear hzl2
 go_wp2_with fail
 go_loopw [5, 16] (fun t i wr => ∃ k : Nat, k ≤ zs.length ∧ i = .int .i64 k ∧ t = .string (bs ((zs.take k).map fun z => z.2.txt).flatten) ∧ Kept [] w2 wr) (fun _ i _ => zs.length - (intOf i).toNat)
 case atStart => exact ⟨0, by omega, rfl, rfl, Kept.refl _ _⟩
 case round =>
  obtain ⟨k, hk, rfl, rfl, hK⟩ := hrel
  by_cases hlt : k < zs.length
  ·have hown3 := ownsRow_kept hown hK (by simp)
   have hla := (hlay zs[k] (List.getElem_mem _)).kept hK (by simp)
   have hcell := World.ownsRow.cells hown3 hg k zs[k].1 (by simp [hlt])
   rw [Go.WideShapes.add_plain, Nat.zero_add] at hcell
   have hbig : ((zs.take (k + 1)).map fun z => z.2.txt).flatten = ((zs.take k).map fun z => z.2.txt).flatten ++ zs[k].2.txt := by
    rw [List.take_succ_eq_append_getElem hlt, List.map_append, List.flatten_append]
    congr 1; simp
   have hsz : (((zs.take k).map fun z => z.2.txt).flatten).length ≤ 1000 := by
    have e1 : (zs.map fun z => z.2.txt).flatten = ((zs.take k).map fun z => z.2.txt).flatten ++ ((zs.drop k).map fun z => z.2.txt).flatten := by
     rw [← List.flatten_append, ← List.map_append, List.take_append_drop]
    have e2 := congrArg List.length (e1.symm.trans HT.out)
    rw [List.length_append] at e2; omega
   have hsz0 : (bs ((zs.take k).map fun z => z.2.txt).flatten).size ≤ 1000 := by rw [bs_size]; exact hsz
   have hfin : Hid (bs ((zs.take k).map fun z => z.2.txt).flatten ++ bs zs[k].2.txt = bs ((zs.take (k + 1)).map fun z => z.2.txt).flatten) := by
    show bs _ ++ bs _ = _; rw [bs_append, hbig]
   have HLT := Lib.hid hlt
   clear hbig hsz hown3
   generalize ((zs.take k).map fun z => z.2.txt).flatten = T at *
   generalize hT2 : ((zs.take (k + 1)).map fun z => z.2.txt).flatten = T2 at *
   have HT2 := Lib.hid hT2
   clear hT2
   generalize zs[k].1 = f at *
   generalize zs[k].2 = y at *
   cases y with
   | hd s' u =>
    obtain ⟨g', _, rfl, ho, hs⟩ := hla
    have hz2 : (bs (Ly.hd s' u).txt).size ≤ 100 := by rw [bs_size]; simp [Ly.txt, numL_len, magicL]
    have hc := fun w h => cl_hd g' s' u w h hs
    rw [show magicL ++ numL s'.seq 8 = (Ly.hd s' u).txt from rfl] at hc
    generalize (Ly.hd s' u).txt = tx at *
    go_wp2_with fail
    refine (hc _ ho).mono ?_; rintro e w3 ⟨rfl, hk3⟩
    go_wp2_with fail
    go_roundw
    case rel => exact ⟨k + 1, HLT.out, by go_num, by rw [HT2.out, ← hfin.out], hK.trans hk3⟩
    case measure => (have hh := HLT.out; simp [intOf]; omega)
   | wd n =>
    obtain ⟨g', _, rfl, ho, hs⟩ := hla
    have hz2 : (bs (Ly.wd n).txt).size ≤ 100 := by rw [bs_size]; simp [Ly.txt, numL_len]
    have hc := fun w h => cl_wd g' n w h hs
    rw [show numL n 4 = (Ly.wd n).txt from rfl] at hc
    generalize (Ly.wd n).txt = tx at *
    go_wp2_with fail
    refine (hc _ ho).mono ?_; rintro e w3 ⟨rfl, hk3⟩
    go_wp2_with fail
    go_roundw
    case rel => exact ⟨k + 1, HLT.out, by go_num, by rw [HT2.out, ← hfin.out], hK.trans hk3⟩
    case measure => (have hh := HLT.out; simp [intOf]; omega)
   | hf n =>
    obtain ⟨g', _, rfl, ho, hs⟩ := hla
    have hz2 : (bs (Ly.hf n).txt).size ≤ 100 := by rw [bs_size]; simp [Ly.txt, numL_len]
    have hc := fun w h => cl_hf g' n w h hs
    rw [show numL n 2 = (Ly.hf n).txt from rfl] at hc
    generalize (Ly.hf n).txt = tx at *
    go_wp2_with fail
    refine (hc _ ho).mono ?_; rintro e w3 ⟨rfl, hk3⟩
    go_wp2_with fail
    go_roundw
    case rel => exact ⟨k + 1, HLT.out, by go_num, by rw [HT2.out, ← hfin.out], hK.trans hk3⟩
    case measure => (have hh := HLT.out; simp [intOf]; omega)
  ·obtain rfl : k = zs.length := by omega
   have e1 : ((zs.take zs.length).map fun z => z.2.txt).flatten = s.body := by rw [List.take_length]; exact HT.out
   rw [e1] at *
   clear e1
   generalize s.body = B at *
   go_wp2_with fail
   refine (hfill _).mono ?_; rintro e w3 ⟨rfl, hk3⟩
   go_wp2_with fail
   refine (hseal _).mono ?_; rintro e w4 ⟨rfl, hk4⟩
   go_wp2_with fail
   go_ret2
   exact ⟨rfl, ((hkk.trans hK).trans hk3).trans hk4⟩
end Go.Proofs.YtdkimcnlhmhpgaaGreat
