/- What comes in pieces: the walks of the scale's methods, and of WeighScales. -/
import Derived.Test.YtkghkkfcgegmeaaW8
import Derived.Test.YtkghkkfcgegmeaaIn
import Derived.StillTailTactics
namespace Go.Proofs.Ytkghkkfcgegmeaa
open Go.RowKit Fl
set_option linter.unusedVariables false
set_option linter.unusedSimpArgs false

theorem still_eq {P : Program} {f : FuncId} {args : Array Value} {w : World} {v : Value} (h : Calls P f args w fun e w' => e = .returned v ∧ w = w') : Calls P f args w fun e w'' => e = .returned v ∧ w'' = w :=
  h.mono fun _ _ ⟨he, hm⟩ => ⟨he, hm.symm⟩

theorem mul_cell {w : World} {b : Nat} {x y : Nat} {n : Int} (h : Own w b #[.complex .f64 x y, .int .i64 n] 111) :
    w.cell? ⟨b, 0, none⟩ = some (.complex .f64 x y) ∧ w.cell? ⟨b, 1, none⟩ = some (.int .i64 n) := ⟨h.cell 0 (by simp), h.cell 1 (by simp)⟩

set_option maxRecDepth 100000 in
theorem scale_write (b : Nat) (x y : Nat) (l : List UInt8) (s : ByteArray) (w : World) (h : Own w b #[.complex .f64 (F (wgt 0 l).1) (F (wgt 0 l).2), .int .i64 l.length] 111)
    (hs : s.size ≤ 2000) (hl : l.length ≤ 900000) :
    Calls Try.prog 44 #[.pointer (some ⟨b, 0, none⟩), .string s] w fun e w' => e = .returned (.tuple #[]) ∧
      w' = ((w.setCell ⟨b, 0, none⟩ (.complex .f64 (F (wgt 0 (l ++ s.data.toList)).1) (F (wgt 0 (l ++ s.data.toList)).2))).setCell ⟨b, 1, none⟩ (.int .i64 ((l.length : Int) + s.size))).drew := by
  obtain ⟨c0, c1⟩ := mul_cell h
  have z0 := h.free 0
  have z1 := h.free 1
  have o1 := fun w => of_any s w (by omega)
  have hbl := wgt_bd 0 l
  have hbs := wgt_Bd s (by omega) 0
  have hj := join_wgt l s.data.toList
  have hba := wgt_bd 0 (l ++ s.data.toList)
  have hsl : s.data.toList.length = s.size := by simp
  rw [List.length_append, hsl] at hba
  have j1 := fun w => join_FW _ _ _ _ (wgt 0 l) (wgt 0 s.data.toList) (l.length : Int) w (WalkArith.wf_i64 (by omega)) (CW_F (by unfold Bd; omega)) (by unfold Bd; omega) (CW_F hbs) hbs (by rw [hj]; unfold Bd; omega)
  rw [hj] at j1
  generalize wgt 0 (l ++ s.data.toList) = v at *
  generalize wgt 0 l = u at *
  generalize wgt 0 s.data.toList = t at *
  clear hj hba hbs hbl hsl h
  generalize l.length = k at *
  go_enter Try.func44, Try.ntmps44
  go_wp2_with fail
  go_still_tail 14, (by kernel_rfl)
  still_call (still_eq (o1 _))
  repeat still_step
  still_call (still_eq (j1 _))
  repeat still_step
  refine wpStill_nil ?_
  change wpList _ _ _ _ _ w.drew
  go_wp2_with fail
  go_end0
  exact ⟨rfl, rfl⟩

set_option maxRecDepth 100000 in
theorem scale_write_nil (s : ByteArray) (w : World) :
    Calls Try.prog 44 #[.pointer none, .string s] w fun e w' => e = .returned (.tuple #[]) ∧ w = w' := by
  go_enter Try.func44, Try.ntmps44
  go_wp2_with fail
  refine bodyPost_ret (results_none rfl _ _ _) rfl ?_
  exact ⟨rfl, rfl⟩

set_option maxRecDepth 100000 in
theorem scale_sum (b : Nat) (x y : Nat) (n : Int) (w : World) (h : Own w b #[.complex .f64 x y, .int .i64 n] 111) :
    Calls Try.prog 45 #[.pointer (some ⟨b, 0, none⟩)] w fun e w' => e = .returned (.complex .f64 x y) ∧ w = w' := by
  obtain ⟨c0, c1⟩ := mul_cell h
  clear h
  go_enter Try.func45, Try.ntmps45
  go_wp2_with fail
  go_ret
  exact ⟨rfl, rfl⟩

set_option maxRecDepth 100000 in
theorem scale_len (b : Nat) (x y : Nat) (n : Int) (w : World) (h : Own w b #[.complex .f64 x y, .int .i64 n] 111) :
    Calls Try.prog 46 #[.pointer (some ⟨b, 0, none⟩)] w fun e w' => e = .returned (.int .i64 n) ∧ w = w' := by
  obtain ⟨c0, c1⟩ := mul_cell h
  clear h
  go_enter Try.func46, Try.ntmps46
  go_wp2_with fail
  go_ret
  exact ⟨rfl, rfl⟩

set_option maxRecDepth 100000 in
theorem scale_sum_nil (w : World) :
    Calls Try.prog 45 #[.pointer none] w fun e w' => e = .returned (.complex .f64 0 0) ∧ w = w' := by
  go_enter Try.func45, Try.ntmps45
  go_wp2_with fail
  go_ret
  exact ⟨rfl, rfl⟩
set_option maxRecDepth 100000 in
theorem scale_len_nil (w : World) :
    Calls Try.prog 46 #[.pointer none] w fun e w' => e = .returned (.int .i64 0) ∧ w = w' := by
  go_enter Try.func46, Try.ntmps46
  go_wp2_with fail
  go_ret
  exact ⟨rfl, rfl⟩

set_option maxRecDepth 100000 in
theorem scale_new (w : World) :
    Calls Try.prog 43 #[] w fun e w' => e = .returned (.pointer (some ⟨w.heap.size, 0, none⟩)) ∧ w' = w.alloc (.cells #[.complex .f64 0 0, .int .i64 0] 111) := by
  go_enter Try.func43, Try.ntmps43
  go_wp2_with fail
  go_ret
  exact ⟨rfl, rfl⟩

/-- the bytes of the first k texts, cut. -/
def joined (l : List ByteArray) (k : Nat) : List UInt8 := ((l.take k).map fun s => (cutS s).data.toList).flatten
theorem joined_succ (l : List ByteArray) (k : Nat) (h : k < l.length) : joined l (k + 1) = joined l k ++ (cutS l[k]).data.toList := by
  unfold joined
  rw [List.take_succ_eq_append_getElem h, List.map_append, List.flatten_append]
  simp only [List.map_cons, List.map_nil, List.flatten_cons, List.flatten_nil, List.append_nil]
theorem joined_len (l : List ByteArray) (k : Nat) : (joined l k).length ≤ 2000 * k := by
  induction k with
  | zero => simp [joined]
  | succ k ih =>
    by_cases h : k < l.length
    · rw [joined_succ l k h, List.length_append]
      have := cutS_size l[k]
      have e : (cutS l[k]).data.toList.length = (cutS l[k]).size := by simp
      omega
    · have : joined l (k + 1) = joined l k := by
        unfold joined; rw [List.take_of_length_le (by omega), List.take_of_length_le (by omega)]
      rw [this]; omega

theorem cut_S (s : ByteArray) (w : World) :
    Calls Try.prog 14 #[.string s] w fun e w' => e = .returned (.string (cutS s)) ∧ w = w' := cut_any s w

def Sall (l : List ByteArray) (k : Nat) : ByteArray := ⟨(joined l k).toArray⟩
theorem Sall_data (l : List ByteArray) (k : Nat) : (Sall l k).data.toList = joined l k := rfl
theorem Sall_size (l : List ByteArray) (k : Nat) : (Sall l k).size = (joined l k).length := bsize _
theorem Sall_succ (l : List ByteArray) (k : Nat) (h : k < l.length) : Sall l k ++ cutS l[k] = Sall l (k + 1) := by
  apply ByteArray.ext
  apply Array.toList_inj.1
  rw [Sall_data, joined_succ l k h]
  simp [Sall]

/-- the scale behind k texts. -/
def ScaleAt (w : World) (b : Nat) (l : List ByteArray) (k : Nat) : Prop :=
  Own w b #[.complex .f64 (F (wgt 0 (joined l k)).1) (F (wgt 0 (joined l k)).2), .int .i64 (joined l k).length] 111

theorem scale_step {w : World} {b : Nat} {l : List ByteArray} {k : Nat} (h : ScaleAt w b l k) (hk : k < l.length) (hk2 : k < 12) :
    Calls Try.prog 44 #[.pointer (some ⟨b, 0, none⟩), .string (cutS l[k])] w fun e w' => e = .returned (.tuple #[]) ∧ ScaleAt w' b l (k + 1) ∧ Below b w w' := by
  have hlen := joined_len l k
  refine (scale_write b 0 0 (joined l k) (cutS l[k]) w h (cutS_size _) (by omega)).mono fun e w' ⟨he, hw⟩ => ⟨he, ?_, ?_⟩
  · subst hw
    rw [← joined_succ l k hk]
    have h2 := ((Own.set h 0 (.complex .f64 (F (wgt 0 (joined l (k + 1))).1) (F (wgt 0 (joined l (k + 1))).2))).set 1 (.int .i64 (((joined l k).length : Int) + (cutS l[k]).size))).drew
    unfold ScaleAt
    have e : ((joined l (k + 1)).length : Int) = ((joined l k).length : Int) + (cutS l[k]).size := by
      rw [joined_succ l k hk, List.length_append]; simp
    rw [e]
    simpa using h2
  · subst hw
    exact (((Below.refl b w).setCell (p := ⟨b, 0, none⟩) (Nat.le_refl _) _).setCell (p := ⟨b, 1, none⟩) (Nat.le_refl _) _).drew

set_option maxRecDepth 100000 in
theorem scales_some (b off c : Nat) (l : List ByteArray) (w : World) (hc : ∀ i (h : i < l.length), w.cell? ⟨b, off + i, none⟩ = some (.string l[i])) (hb : b < w.heap.size) :
    Calls Try.prog 9 #[.slice (some ⟨b, off, none⟩) l.length c] w fun e w' => e = .returned (.bool true) ∧ Below w.heap.size w w' := by
  have HC := Lib.hid hc
  clear hc
  go_enter Try.func9, Try.ntmps9
  go_wp2_with fail
  refine (scale_new _).mono ?_; rintro e w1 ⟨rfl, rfl⟩
  go_wp2_with fail
  go_loopw [4, 5] (fun s i wr => ∃ k : Nat, k ≤ l.length ∧ k ≤ 12 ∧ i = .int .i64 k ∧ s = .string (Sall l k) ∧ ScaleAt wr w.heap.size l k ∧ Below w.heap.size w wr) (fun _ i _ => 12 - (intOf i).toNat)
  case atStart => exact ⟨0, Nat.zero_le _, by omega, rfl, by simp [Sall, joined], by
    have := Own.new w #[.complex .f64 0 0, .int .i64 0] 111
    unfold ScaleAt
    simpa [joined, wgt, F0] using this, (Below.refl _ _).alloc (Nat.le_refl _) _⟩
  case round =>
    obtain ⟨k, hk, hk2, rfl, rfl, hS, hB⟩ := hrel
    have hjl := joined_len l k
    have hss := Sall_size l k
    by_cases hlt : k < l.length
    · by_cases hlt2 : k < 12
      · have hcell : wr.cell? ⟨b, off + k, none⟩ = some (.string l[k]) := by rw [hB.cell hb]; exact HC.out k hlt
        have hcut := fun w => cut_S l[k] w
        have hsz : (Sall l k).size ≤ 24000 := by rw [hss]; omega
        have hW := fun (w0 : World) (h : ScaleAt w0 w.heap.size l k) => scale_step h hlt hlt2
        have hcs := cutS_size l[k]
        have hsu := Sall_succ l k hlt
        have hjl2 := joined_len l (k + 1)
        have hss2 := Sall_size l (k + 1)
        have hrf := fun w => refOf_any (Sall l (k + 1)) w (by omega)
        rw [Sall_data] at hrf
        have hbd : Bd (2 ^ 53) (wgt 0 (joined l (k + 1))) := by have := wgt_bd 0 (joined l (k + 1)); unfold Bd; omega
        have hnum := fun w => num_any (wgt 0 (joined l (k + 1))).1 (wgt 0 (joined l (k + 1))).2 w
        have x1 := eqF _ _ hbd.1 hbd.1
        have x2 := eqF _ _ hbd.2 hbd.2
        simp only [decide_true] at x1 x2
        have hne : (((joined l (k + 1)).length : Int) != ((Sall l (k + 1)).size : Int)) = false := by rw [hss2]; simp
        generalize hcl : cutS l[k] = cl at *
        clear hbd
        have hss' := Lib.hid hss2
        have hcl' := Lib.hid hcl
        clear hss2 hcl hss
        go_wp2_with fail
        refine (hcut _).mono ?_; rintro e w' ⟨rfl, rfl⟩
        go_wp2_with fail
        refine (hW _ hS).mono ?_; rintro e w2 ⟨rfl, hS2, hB2⟩
        have hB3 : Below w.heap.size w w2 := hB.trans hB2
        have hcell2 : w2.cell? ⟨b, off + k, none⟩ = some (.string l[k]) := by rw [hB3.cell hb]; exact HC.out k hlt
        clear hcell hB2 hS
        go_wp2_with fail
        refine (hcut _).mono ?_; rintro e w' ⟨rfl, rfl⟩
        go_wp2_with fail
        refine (scale_sum _ _ _ _ _ hS2).mono ?_; rintro e w' ⟨rfl, rfl⟩
        go_wp2_with fail
        refine (hrf _).mono ?_; rintro e w3 ⟨rfl, hb3⟩
        go_wp2_with fail
        refine (hnum _).mono ?_; rintro e w4 ⟨rfl, hb4⟩
        have hS4 : ScaleAt w4 w.heap.size l (k + 1) := Own.past (Own.past hS2 hb3) hb4
        have hB5 := Below.call (Below.call hB3 hb3 hB3.size) hb4 (Nat.le_trans hB3.size hb3.size)
        clear hb3 hb4 hB3 hS2
        go_wp2_with fail
        refine (scale_len _ _ _ _ _ hS4).mono ?_; rintro e w' ⟨rfl, rfl⟩
        go_wp2_with fail
        go_roundw
        case rel => exact ⟨k + 1, by omega, by omega, by go_num, rfl, hS4, hB5⟩
        case measure => simp [intOf]; omega
      · have hd : decide ((k : Int) < 12) = false := by simp; omega
        have hk12 : k = 12 := by omega
        clear hlt2
        have hof := fun w => of_any (Sall l k) w (by omega)
        rw [Sall_data] at hof
        have hbd : Bd (2 ^ 53) (wgt 0 (joined l k)) := by have := wgt_bd 0 (joined l k); unfold Bd; omega
        have x1 := eqF _ _ hbd.1 hbd.1
        have x2 := eqF _ _ hbd.2 hbd.2
        have q3 := n0_b
        simp only [decide_true] at x1 x2
        have HK := Lib.hid hk12
        clear hbd hss hjl hk12
        go_wp2_with fail
        refine (scale_write_nil _ _).mono ?_; rintro e w' ⟨rfl, rfl⟩
        go_wp2_with fail
        refine (scale_sum _ _ _ _ _ hS).mono ?_; rintro e w' ⟨rfl, rfl⟩
        go_wp2_with fail
        refine (hof _).mono ?_; rintro e w' ⟨rfl, rfl⟩
        go_wp2_with fail
        refine (scale_sum_nil _).mono ?_; rintro e w' ⟨rfl, rfl⟩
        go_wp2_with fail
        refine (scale_len_nil _).mono ?_; rintro e w' ⟨rfl, rfl⟩
        go_wp2_with fail
        refine (awake_any _).mono ?_; rintro e w' ⟨rfl, rfl⟩
        go_wp2_with fail
        go_ret
        exact ⟨rfl, hB⟩
    · have hof := fun w => of_any (Sall l k) w (by omega)
      rw [Sall_data] at hof
      have hbd : Bd (2 ^ 53) (wgt 0 (joined l k)) := by have := wgt_bd 0 (joined l k); unfold Bd; omega
      have x1 := eqF _ _ hbd.1 hbd.1
      have x2 := eqF _ _ hbd.2 hbd.2
      have q3 := n0_b
      simp only [decide_true] at x1 x2
      clear hbd hss hjl
      go_wp2_with fail
      refine (scale_write_nil _ _).mono ?_; rintro e w' ⟨rfl, rfl⟩
      go_wp2_with fail
      refine (scale_sum _ _ _ _ _ hS).mono ?_; rintro e w' ⟨rfl, rfl⟩
      go_wp2_with fail
      refine (hof _).mono ?_; rintro e w' ⟨rfl, rfl⟩
      go_wp2_with fail
      refine (scale_sum_nil _).mono ?_; rintro e w' ⟨rfl, rfl⟩
      go_wp2_with fail
      refine (scale_len_nil _).mono ?_; rintro e w' ⟨rfl, rfl⟩
      go_wp2_with fail
      refine (awake_any _).mono ?_; rintro e w' ⟨rfl, rfl⟩
      go_wp2_with fail
      go_ret
      exact ⟨rfl, hB⟩

set_option maxRecDepth 100000 in
theorem scales_none (a : Option Addr) (c : Nat) (w : World) :
    Calls Try.prog 9 #[.slice a 0 c] w fun e w' => e = .returned (.bool true) ∧ Below w.heap.size w w' := by
  have hof : ∀ w, Calls Try.prog 15 #[.string { data := #[] }] w fun e w' => e = .returned (.complex .f64 0 0) ∧ w = w' := fun w => by
    have h := of_any { data := #[] } w (by decide)
    have e : wgt 0 (ByteArray.mk #[]).data.toList = (0, 0) := by decide
    rw [e] at h
    simp only [F0] at h
    exact h
  have q3 := n0_b
  go_enter Try.func9, Try.ntmps9
  go_wp2_with fail
  refine (scale_new _).mono ?_; rintro e w1 ⟨rfl, rfl⟩
  go_wp2_with fail
  go_loopw [4, 5] (fun s i wr => i = .int .i64 0 ∧ s = .string { data := #[] } ∧ Own wr w.heap.size #[.complex .f64 0 0, .int .i64 0] 111 ∧ Below w.heap.size w wr) (fun _ _ _ => 0)
  case atStart => exact ⟨rfl, rfl, Own.new _ _ _, (Below.refl _ _).alloc (Nat.le_refl _) _⟩
  case round =>
    obtain ⟨rfl, rfl, hS, hB⟩ := hrel
    go_wp2_with fail
    refine (scale_write_nil _ _).mono ?_; rintro e w' ⟨rfl, rfl⟩
    go_wp2_with fail
    refine (scale_sum _ _ _ _ _ hS).mono ?_; rintro e w' ⟨rfl, rfl⟩
    go_wp2_with fail
    refine (hof _).mono ?_; rintro e w' ⟨rfl, rfl⟩
    go_wp2_with fail
    refine (scale_sum_nil _).mono ?_; rintro e w' ⟨rfl, rfl⟩
    go_wp2_with fail
    refine (scale_len_nil _).mono ?_; rintro e w' ⟨rfl, rfl⟩
    go_wp2_with fail
    refine (awake_any _).mono ?_; rintro e w' ⟨rfl, rfl⟩
    go_wp2_with fail
    go_ret
    exact ⟨rfl, hB⟩

theorem scales_walk (v : Value) (l : List ByteArray) (w : World) (h : StrsAt w v l) (_hl : ∀ s ∈ l, s.size ≤ maxLen) :
    Calls Try.prog 9 #[v] w fun e w' => e = .returned (.bool true) ∧ Below w.heap.size w w' := by
  rcases h with ⟨rfl, a, c, rfl⟩ | ⟨b, off, c, rfl, h1, h2, _⟩
  · exact scales_none a c w
  · exact scales_some b off c l w h1 h2
end Go.Proofs.Ytkghkkfcgegmeaa
