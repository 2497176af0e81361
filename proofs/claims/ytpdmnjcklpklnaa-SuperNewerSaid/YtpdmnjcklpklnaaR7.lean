/- Walks of layer 11 (super): the functions that lay a superblock's numbers, as a list. -/
import Derived.Test.YtpdmnjcklpklnaaR6
import Derived.Test.YtpdmnjcklpklnaaMem3
namespace Go.Proofs.Ytpdmnjcklpklnaa
open Go.RowKit
set_option linter.unusedVariables false
set_option linter.unusedSimpArgs false

theorem LayAt.grown {w w' : World} {lo : Nat} {v : Value} {y : Ly} {base : Nat} {rv : Value} {n : Nat} {xs : List Value} (h : LayAt w lo v y) (hown : w.ownsRow base 51 1 rv n xs) (hg : w.grownBy w' rv.ownBlock) : LayAt w' lo v y := by
  have key : ∀ g cs t, Own w g cs t → 51 ≠ t → Own w' g cs t := fun g cs t o hne => by
    refine Eq.trans (hg.block g o.lt ?_) o
    rcases hown.2 with ⟨rfl, _⟩ | ⟨g', cap, cur, rfl, _, hh, _⟩
    · simp [Value.ownBlock]
    · intro he
      have e : g = g' := by simpa [Value.ownBlock] using he
      subst e
      have o' : w.heap[g]? = some (.cells cs t (0, 0)) := o
      rw [o'] at hh
      injection hh with hh
      injection hh with _ ht
      exact hne ht.symm
  cases y with
  | hd s u => obtain ⟨g, h1, h2, h3, h4⟩ := h; exact ⟨g, h1, h2, key g _ _ h3 (by decide), h4⟩
  | wd n => obtain ⟨g, h1, h2, h3, h4⟩ := h; exact ⟨g, h1, h2, key g _ _ h3 (by decide), h4⟩
  | hf n => obtain ⟨g, h1, h2, h3, h4⟩ := h; exact ⟨g, h1, h2, key g _ _ h3 (by decide), h4⟩

theorem own_S5 {w : World} {b : Nat} {x0 x1 x2 x3 x4 x5 : Value} {t : TypeId} (h : Own w b #[x0, x1, x2, x3, x4, x5] t) : w.cell? ⟨b, 1, none⟩ = some x1 ∧ w.cell? ⟨b, 2, none⟩ = some x2 ∧ w.cell? ⟨b, 3, none⟩ = some x3 ∧ w.cell? ⟨b, 4, none⟩ = some x4 ∧ w.cell? ⟨b, 5, none⟩ = some x5 := h.c6.2
theorem own_S2 {w : World} {b : Nat} {x0 x1 : Value} {t : TypeId} (h : Own w b #[x0, x1] t) : w.cell? ⟨b, 0, none⟩ = some x0 ∧ w.cell? ⟨b, 1, none⟩ = some x1 := h.c2
/-- a row of the call's own, just made. -/
theorem own_row {w : World} {g n base : Nat} {cs : Array Value} {e : TypeId} (h : Own w g cs e) (hn : cs.size = n) (hb : base ≤ g) (hm : n ≤ maxLen) : w.ownsRow base e 1 (.slice (some ⟨g, 0, none⟩) n n) n cs.toList :=
  ⟨by simp [hn], Or.inr ⟨g, n, cs, rfl, hb, h, Nat.le_refl _, hm, by simp [hn], by rw [List.take_of_length_le (by simp [hn])]⟩⟩
/-- what the first functions lay, and those of k runs. -/
def SB.lys (s : SB) (v : Value) (k : Nat) : List Ly :=
  [.hd s v, .wd s.sectors.toNat, .wd s.journal.toNat, .wd s.used.toNat, .wd s.size.toNat, .hf s.runs.length, .hf 0] ++ ((s.runs.take k).map fun r => [Ly.hf r.1.toNat, Ly.hf r.2.toNat]).flatten
theorem SB.lys_succ (s : SB) (v : Value) (k : Nat) (h : k < s.runs.length) : s.lys v (k + 1) = s.lys v k ++ [.hf s.runs[k].1.toNat, .hf s.runs[k].2.toNat] := by
  unfold SB.lys
  rw [List.take_succ_eq_append_getElem h, List.map_append, List.flatten_append, ← List.append_assoc]
  rfl
/-- a row of functions, with what they lay. -/
def LaysAt (w : World) (lo : Nat) (v : Value) (zs : List (Value × Ly)) : Prop :=
  w.ownsRow lo 51 1 v zs.length (zs.map (·.1)) ∧ ∀ z ∈ zs, LayAt w lo z.1 z.2
theorem infoFunc : ∃ i, Try.prog.info? 51 = some i ∧ i.zero = some .nilFunc ∧ i.size = 1 ∧ i.bytes = 8 := by
  have hi : (Try.prog.info? 51).map (fun i => (i.zero, i.size, i.bytes)) = some (some .nilFunc, 1, 8) := by kernel_rfl
  obtain ⟨i0, hi0, hz0, hz1, hz2⟩ := info_parts hi
  exact ⟨i0, hi0, hz0, hz1, hz2⟩

/-- what stands behind the first functions. -/
def Lays0 (w wx : World) (v : Value) (s : SB) (u : Value) : Prop :=
  ∃ zs, LaysAt wx w.heap.size v zs ∧ zs.map (·.2) = s.lys u 0 ∧ Own wx w.heap.size (s.cells u) 25 ∧ Kept [] w wx
theorem lays0 (w : World) (sq a b u z n : Nat) (l : List (Int × Int)) (v : Value) (hn : l.length = n) (hsq : sq < 18446744073709551616) (ha : a < 4294967296) (hb : b < 4294967296) (hu : u < 4294967296) (hz : z < 4294967296) (hn2 : n < 65536) :
    Lays0 w ((((((((w.alloc (.cells #[.int .u64 (sq : Int), .int .i64 (a : Int), .int .i64 (b : Int), .int .i64 (u : Int), .int .i64 (z : Int), v] 25)).alloc (.cells #[.int .i64 (a : Int)] 3)).alloc (.cells #[.int .i64 (b : Int)] 3)).alloc (.cells #[.int .i64 (u : Int)] 3)).alloc (.cells #[.int .i64 (z : Int)] 3)).alloc (.cells #[.int .i64 (n : Int)] 3)).alloc (.cells #[.int .i64 0] 3)).alloc (.cells #[.func (.func 49) #[] #[.pointer (some ⟨w.heap.size, 0, none⟩)], .func (.func 44) #[] #[.pointer (some ⟨w.heap.size + 1, 0, none⟩)], .func (.func 44) #[] #[.pointer (some ⟨w.heap.size + 1 + 1, 0, none⟩)], .func (.func 44) #[] #[.pointer (some ⟨w.heap.size + 1 + 1 + 1, 0, none⟩)], .func (.func 44) #[] #[.pointer (some ⟨w.heap.size + 1 + 1 + 1 + 1, 0, none⟩)], .func (.func 47) #[] #[.pointer (some ⟨w.heap.size + 1 + 1 + 1 + 1 + 1, 0, none⟩)], .func (.func 47) #[] #[.pointer (some ⟨w.heap.size + 1 + 1 + 1 + 1 + 1 + 1, 0, none⟩)]] 51)).drew (.slice (some ⟨w.heap.size + 1 + 1 + 1 + 1 + 1 + 1 + 1, 0, none⟩) 7 7) ⟨sq, a, b, u, z, l⟩ v := by
  obtain ⟨o0, o1, o2, o3, o4, o5, o6, o7⟩ := own_eight w #[.int .u64 (sq : Int), .int .i64 (a : Int), .int .i64 (b : Int), .int .i64 (u : Int), .int .i64 (z : Int), v] #[.int .i64 (a : Int)] #[.int .i64 (b : Int)] #[.int .i64 (u : Int)] #[.int .i64 (z : Int)] #[.int .i64 (n : Int)] #[.int .i64 0] #[.func (.func 49) #[] #[.pointer (some ⟨w.heap.size, 0, none⟩)], .func (.func 44) #[] #[.pointer (some ⟨w.heap.size + 1, 0, none⟩)], .func (.func 44) #[] #[.pointer (some ⟨w.heap.size + 1 + 1, 0, none⟩)], .func (.func 44) #[] #[.pointer (some ⟨w.heap.size + 1 + 1 + 1, 0, none⟩)], .func (.func 44) #[] #[.pointer (some ⟨w.heap.size + 1 + 1 + 1 + 1, 0, none⟩)], .func (.func 47) #[] #[.pointer (some ⟨w.heap.size + 1 + 1 + 1 + 1 + 1, 0, none⟩)], .func (.func 47) #[] #[.pointer (some ⟨w.heap.size + 1 + 1 + 1 + 1 + 1 + 1, 0, none⟩)]] 25 3 3 3 3 3 3 51
  have hr := own_row (base := w.heap.size) o7 (n := 7) rfl (by omega) (by unfold maxLen; omega)
  refine ⟨[(.func (.func 49) #[] #[.pointer (some ⟨w.heap.size, 0, none⟩)], .hd ⟨sq, a, b, u, z, l⟩ v), (.func (.func 44) #[] #[.pointer (some ⟨w.heap.size + 1, 0, none⟩)], .wd a), (.func (.func 44) #[] #[.pointer (some ⟨w.heap.size + 1 + 1, 0, none⟩)], .wd b), (.func (.func 44) #[] #[.pointer (some ⟨w.heap.size + 1 + 1 + 1, 0, none⟩)], .wd u), (.func (.func 44) #[] #[.pointer (some ⟨w.heap.size + 1 + 1 + 1 + 1, 0, none⟩)], .wd z), (.func (.func 47) #[] #[.pointer (some ⟨w.heap.size + 1 + 1 + 1 + 1 + 1, 0, none⟩)], .hf n), (.func (.func 47) #[] #[.pointer (some ⟨w.heap.size + 1 + 1 + 1 + 1 + 1 + 1, 0, none⟩)], .hf 0)], ⟨hr, ?_⟩, ?_, o0, ?_⟩
  · intro y hy
    simp only [List.mem_cons, List.not_mem_nil, or_false] at hy
    rcases hy with rfl | rfl | rfl | rfl | rfl | rfl | rfl
    · exact ⟨_, Nat.le_refl _, rfl, o0, hsq⟩
    · exact ⟨_, by omega, rfl, o1, ha⟩
    · exact ⟨_, by omega, rfl, o2, hb⟩
    · exact ⟨_, by omega, rfl, o3, hu⟩
    · exact ⟨_, by omega, rfl, o4, hz⟩
    · exact ⟨_, by omega, rfl, o5, hn2⟩
    · exact ⟨_, by omega, rfl, o6, by omega⟩
  · subst hn
    simp [SB.lys]
  · exact ((((((((((Kept.refl _ _).alloc _).alloc _).alloc _).alloc _).alloc _).alloc _).alloc _).alloc _).drew)

theorem lays_step {w wr w5 : World} {v : Value} {zs : List (Value × Ly)} {n1 n2 g cap : Nat} (h : LaysAt wr w.heap.size v zs) (hw : w.heap.size ≤ wr.heap.size) (h1 : n1 < 65536) (h2 : n2 < 65536)
    (o3 : w5.ownsRow w.heap.size 51 1 (.slice (some ⟨g, 0, none⟩) (zs.length + 2) cap) (zs.length + 2) (zs.map (·.1) ++ [.func (.func 47) #[] #[.pointer (some ⟨wr.heap.size + 1, 0, none⟩)], .func (.func 47) #[] #[.pointer (some ⟨wr.heap.size + 1 + 1, 0, none⟩)]]))
    (gr : World.grownBy ((((wr.alloc (.cells #[.int .i64 (n1 : Int), .int .i64 (n2 : Int)] 48)).alloc (.cells #[.int .i64 (n1 : Int)] 3)).alloc (.cells #[.int .i64 (n2 : Int)] 3)).alloc (.cells #[.func (.func 47) #[] #[.pointer (some ⟨wr.heap.size + 1, 0, none⟩)], .func (.func 47) #[] #[.pointer (some ⟨wr.heap.size + 1 + 1, 0, none⟩)]] 51)).drew w5 v.ownBlock) :
    LaysAt w5 w.heap.size (.slice (some ⟨g, 0, none⟩) (zs.length + 2) cap) (zs ++ [(.func (.func 47) #[] #[.pointer (some ⟨wr.heap.size + 1, 0, none⟩)], .hf n1), (.func (.func 47) #[] #[.pointer (some ⟨wr.heap.size + 1 + 1, 0, none⟩)], .hf n2)]) := by
  obtain ⟨hown, hlay⟩ := h
  have own4 := World.ownsRow.drew (World.ownsRow.alloc (World.ownsRow.alloc (World.ownsRow.alloc (World.ownsRow.alloc hown (.cells #[.int .i64 (n1 : Int), .int .i64 (n2 : Int)] 48)) (.cells #[.int .i64 (n1 : Int)] 3)) (.cells #[.int .i64 (n2 : Int)] 3)) (.cells #[.func (.func 47) #[] #[.pointer (some ⟨wr.heap.size + 1, 0, none⟩)], .func (.func 47) #[] #[.pointer (some ⟨wr.heap.size + 1 + 1, 0, none⟩)]] 51))
  have k4 : Kept [] wr ((((wr.alloc (.cells #[.int .i64 (n1 : Int), .int .i64 (n2 : Int)] 48)).alloc (.cells #[.int .i64 (n1 : Int)] 3)).alloc (.cells #[.int .i64 (n2 : Int)] 3)).alloc (.cells #[.func (.func 47) #[] #[.pointer (some ⟨wr.heap.size + 1, 0, none⟩)], .func (.func 47) #[] #[.pointer (some ⟨wr.heap.size + 1 + 1, 0, none⟩)]] 51)).drew := ((((((Kept.refl _ _).alloc _).alloc _).alloc _).alloc _).drew)
  obtain ⟨_, q1, q2, _⟩ := own_four wr #[.int .i64 (n1 : Int), .int .i64 (n2 : Int)] #[.int .i64 (n1 : Int)] #[.int .i64 (n2 : Int)] #[.func (.func 47) #[] #[.pointer (some ⟨wr.heap.size + 1, 0, none⟩)], .func (.func 47) #[] #[.pointer (some ⟨wr.heap.size + 1 + 1, 0, none⟩)]] 48 3 3 51
  refine ⟨by simpa using o3, fun y hy => ?_⟩
  rw [List.mem_append] at hy
  rcases hy with hy | hy
  · exact ((hlay y hy).kept k4 (by simp)).grown own4 gr
  · simp only [List.mem_cons, List.not_mem_nil, or_false] at hy
    rcases hy with rfl | rfl
    · exact LayAt.grown (y := .hf n1) ⟨_, by omega, rfl, q1.drew, h1⟩ own4 gr
    · exact LayAt.grown (y := .hf n2) ⟨_, by omega, rfl, q2.drew, h2⟩ own4 gr

set_option maxRecDepth 100000 in
set_option maxHeartbeats 4000000 in
theorem pfields' (sq a b u z : Nat) (l : List (Int × Int)) (v : Value) (lo hi : Nat) (w : World) (h : RunsIn w v l lo hi) (hq : sq < 18446744073709551616) (ha : a ≤ 8192) (hb : b ≤ 8192) (hu : u ≤ 1048576) (hz : z ≤ 1048576) (hl : l.length ≤ 16)
    (hok : ∀ k (hk : k < l.length), 0 ≤ l[k].1 ∧ l[k].1 ≤ 8192 ∧ 0 ≤ l[k].2 ∧ l[k].2 ≤ 8192) :
    Calls Try.prog 24 #[.agg #[.int .u64 (sq : Int), .int .i64 (a : Int), .int .i64 (b : Int), .int .i64 (u : Int), .int .i64 (z : Int), v]] w fun e w' => (∃ r zs, e = .returned r ∧ LaysAt w' w.heap.size r zs ∧ zs.map (·.2) = (SB.mk sq a b u z l).lys v l.length) ∧ Kept [] w w' := by
  obtain ⟨i0, hi0, hz0, hz1, hz2⟩ := infoFunc
  obtain ⟨p, c, rfl⟩ := h.shape
  have HLO := Lib.hid hok
  clear hok
  have hL0 := lays0 w sq a b u z l.length l (.slice p l.length c) rfl hq (by omega) (by omega) (by omega) (by omega) (by omega)
  have HL0 := Lib.hid hL0
  clear hL0
  have o := Own.new w #[.int .u64 (sq : Int), .int .i64 (a : Int), .int .i64 (b : Int), .int .i64 (u : Int), .int .i64 (z : Int), .slice p l.length c] 25
  obtain ⟨d0, d1, d2, d3, d4, d5⟩ := o.c6
  go_enter Try.func24, Try.ntmps24
  go_upto_region 3 with fail
  go_cut [5] (fun v5 wx => Lays0 w wx v5 ⟨sq, a, b, u, z, l⟩ (.slice p l.length c))
  case first =>
    go_region_held3 (fun w' => w'.cell? ⟨w.heap.size, 1, none⟩ = some (.int .i64 (a : Int)) ∧ w'.cell? ⟨w.heap.size, 2, none⟩ = some (.int .i64 (b : Int)) ∧ w'.cell? ⟨w.heap.size, 3, none⟩ = some (.int .i64 (u : Int)) ∧ w'.cell? ⟨w.heap.size, 4, none⟩ = some (.int .i64 (z : Int)) ∧ w'.cell? ⟨w.heap.size, 5, none⟩ = some (.slice p l.length c)) ((refine own_S5 (x0 := .int .u64 (sq : Int)) (t := 25) ?_; (repeat' first | exact o | refine Own.drew ?_ | refine Own.alloc ?_ _)))
      (first
        | (go_at_call 43; ((with_reducible refine (fword _ _).mono ?_)); rintro e w' ⟨rfl, rfl⟩)
        | (go_at_call 46; ((with_reducible refine (fhalf _ _).mono ?_)); rintro e w' ⟨rfl, rfl⟩))
    all_goals go_wp2_with fail
    all_goals go_meet
    all_goals exact HL0.out
  case rest =>
    obtain ⟨zs, hlays, hzs, ho, hkc⟩ := hcut
    unfold SB.cells at ho
    obtain ⟨d0, d1, d2, d3, d4, d5⟩ := ho.c6
    have HZ := Lib.hid hzs
    clear hzs
    go_wp2_with fail
    go_loopw [5, 36] (fun v i wr => ∃ (k : Nat) (zs : List (Value × Ly)), k ≤ l.length ∧ i = .int .i64 k ∧ LaysAt wr w.heap.size v zs ∧ Aside (zs.map (·.2) = (SB.mk sq a b u z l).lys (.slice p l.length c) k ∧ zs.length = 7 + 2 * k) ∧ Kept [] w wr) (fun _ i _ => l.length - (intOf i).toNat)
    case atStart => exact ⟨0, zs, by omega, rfl, hlays, ⟨HZ.out, by have := congrArg List.length HZ.out; rw [List.length_map] at this; rw [this]; rfl⟩, hkc⟩
    case round =>
      obtain ⟨k, zs, hk, rfl, hlays, hA, hK⟩ := hrel
      by_cases hlt : k < l.length
      · obtain ⟨b', off, rfl, c0, c1, hb', hlc, hcm⟩ := (h.kept0 hK).at_ k hlt
        obtain ⟨p', cap', rfl⟩ := own_shape hlays.1
        have hown := hlays.1
        have hbd := HLO.out k hlt
        have hsucc := SB.lys_succ (SB.mk sq a b u z l) (.slice (some ⟨b', off, none⟩) l.length c) k hlt
        simp only at hsucc
        obtain ⟨n1, hn1⟩ := Int.eq_ofNat_of_zero_le hbd.1
        obtain ⟨n2, hn2⟩ := Int.eq_ofNat_of_zero_le hbd.2.2.1
        rw [hn1] at c0 hsucc hbd
        rw [hn2] at c1 hsucc hbd
        rw [Int.toNat_natCast, Int.toNat_natCast] at hsucc
        have HSU := Lib.hid hsucc
        have hzl : zs.length ≤ 100 := by have := hA.2; omega
        have hws := hK.size
        have hb1 : n1 < 65536 := by omega
        have hb2 : n2 < 65536 := by omega
        have hne : some wr.heap.size ≠ (Value.slice p' zs.length cap').ownBlock := fun e => by have := (World.ownsRow.lt hown _ e.symm).2; omega
        have hstep := fun w5 g cap => @lays_step w wr w5 (.slice p' zs.length cap') zs n1 n2 g cap hlays hws hb1 hb2
        have HSTEP := Lib.hid hstep
        have HNE := Lib.hid hne
        have HK := Lib.hid hK
        have HOW := Lib.hid hown
        have o1 := Own.new wr #[.int .i64 (n1 : Int), .int .i64 (n2 : Int)] 48
        clear hsucc hn1 hn2 hbd hlays hstep hne hK
        go_wp2_with fail
        go_region_held3 (fun w' => w'.cell? ⟨wr.heap.size, 0, none⟩ = some (.int .i64 (n1 : Int)) ∧ w'.cell? ⟨wr.heap.size, 1, none⟩ = some (.int .i64 (n2 : Int))) (first | go_keep | ((refine own_S2 (t := 48) ?_; (repeat' first | exact o1 | refine Own.drew ?_ | refine Own.alloc ?_ _))))
          (first
            | (go_at_call 46; ((with_reducible refine (fhalf _ _).mono ?_)); rintro e w' ⟨rfl, rfl⟩)
            | (refine step_append_lies _ (by rfl) (.tmp 40) (.tmp 49) 49 (by rfl) w.heap.size 51 i0 .nilFunc 1 8 Try.underlying49 hi0 hz0 hz1 hz2 rfl (by decide) _ _ _ (by rfl) (World.ownsRow.drew (World.ownsRow.alloc (World.ownsRow.alloc (World.ownsRow.alloc (World.ownsRow.alloc HOW.out _) _) _) _)) ⟨wr.heap.size + 1 + 1 + 1, 0, none⟩ 2 2 [.func (.func 47) #[] #[.pointer (some ⟨wr.heap.size + 1, 0, none⟩)], .func (.func 47) #[] #[.pointer (some ⟨wr.heap.size + 1 + 1, 0, none⟩)]] (by rfl) rfl (World.news_of_block (own_four wr _ _ _ _ _ _ _ _).2.2.2) (by intro u hu; simp at hu; rcases hu with rfl | rfl <;> rfl) (by decide) (by unfold maxLen; omega) (by omega) (by simp; omega) (wr.heap.size + 1 + 1 + 1 + 1) (by simp) ?_; intro g3 cap3 w5 o3 gr3 at3 lt3; have y0 : w5.cell? ⟨wr.heap.size, 0, none⟩ = some (.int .i64 (n1 : Int)) := (by rw [gr3.cell_far ⟨wr.heap.size, 0, none⟩ (by simp; omega) HNE.out]; exact (own_S2 (t := 48) (by (repeat' first | exact o1 | refine Own.drew ?_ | refine Own.alloc ?_ _))).1); have y1 : w5.cell? ⟨wr.heap.size, 1, none⟩ = some (.int .i64 (n2 : Int)) := (by rw [gr3.cell_far ⟨wr.heap.size, 1, none⟩ (by simp; omega) HNE.out]; exact (own_S2 (t := 48) (by (repeat' first | exact o1 | refine Own.drew ?_ | refine Own.alloc ?_ _))).2)))
        have hL5 := HSTEP.out w5 g3 cap3 o3 gr3
        have hk5 : Kept [] w w5 := (((((HK.out.alloc _).alloc _).alloc _).alloc _).drew).grown gr3 (fun g hg => Or.inr (World.ownsRow.lt HOW.out g hg).1)
        clear gr3 o3 at3 y0 y1
        go_wp2_with fail
        go_roundw
        case rel => exact ⟨k + 1, _, by omega, by go_num, hL5, ⟨by rw [List.map_append, hA.1, HSU.out]; rfl, by have := hA.2; simp; omega⟩, hk5⟩
        case measure => simp [intOf]; omega
      · obtain rfl : k = l.length := by omega
        have hA1 := Lib.hid hA.1
        clear hA
        go_wp2_with fail
        go_ret
        exact ⟨⟨_, zs, rfl, hlays, hA1.out⟩, hK⟩
end Go.Proofs.Ytpdmnjcklpklnaa
