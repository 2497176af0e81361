/- Walks of layer 9 (disk): Flush, Power, Fuse; of nobody's disk too. -/
import Derived.Test.YtdnbddhjdokbfaaShelf
import Derived.Test.YtdnbddhjdokbfaaG03
import Derived.Test.YtdnbddhjdokbfaaG16
import Derived.Lib.Builder
namespace Go.Proofs.Ytdnbddhjdokbfaa
open Go.RowKit Go.Maps
set_option linter.unusedVariables false
set_option linter.unusedSimpArgs false

theorem DKept.refl (b sb mb lo : Nat) (w : World) : DKept b sb mb lo w w := ⟨rfl, rfl, rfl, Nat.le_refl _, fun _ _ _ _ _ _ => rfl⟩
theorem DKept.trans {b sb mb lo : Nat} {a w w' : World} (h : DKept b sb mb lo a w) (k : DKept b sb mb lo w w') : DKept b sb mb lo a w' := by
  obtain ⟨h1, h2, h3, h4, h5⟩ := h
  obtain ⟨k1, k2, k3, k4, k5⟩ := k
  refine ⟨k1.trans h1, k2.trans h2, k3.trans h3, Nat.le_trans h4 k4, fun j hj e1 e2 e3 e4 => ?_⟩
  have := h5 j hj e1 e2 e3 e4
  rw [← this]
  exact k5 j (Nat.lt_of_lt_of_le hj h4) e1 e2 e3 (by rw [this]; exact e4)
theorem DKept.kept {S : List Nat} {b sb mb lo : Nat} {w w' : World} (h : Kept S w w') (hS : ∀ x ∈ S, x = b ∨ x = sb ∨ x = mb) : DKept b sb mb lo w w' :=
  DKept.of h (fun x hx => by
    rcases hS x hx with h | h | h
    · exact Or.inl h
    · exact Or.inr (Or.inl h)
    · exact Or.inr (Or.inr (Or.inl h)))
theorem dFlush_nil (w : World) : Calls Try.prog 19 #[.pointer none] w fun e w' => e = .returned (.int .i64 4) ∧ w = w' := by
  go_enter Try.func19, Try.ntmps19
  go_wp2_with fail
  refine (dReady_nil _).mono ?_; rintro e w' ⟨rfl, rfl⟩
  go_wp2_with fail
  go_ret
  exact ⟨rfl, rfl⟩
theorem dFlush_down (b sb mb lo : Nat) (d : DK) (w : World) (h : DiskAt w b sb mb lo d) (hd : d.down = true) : Calls Try.prog 19 #[.pointer (some ⟨b, 0, none⟩)] w fun e w' => e = .returned (.int .i64 90) ∧ w = w' := by
  have hr := dReady b sb mb lo d w h
  unfold readyOf at hr
  rw [hd] at hr
  simp only [if_true] at hr
  go_enter Try.func19, Try.ntmps19
  go_wp2_with fail
  refine hr.mono ?_; rintro e w' ⟨rfl, rfl⟩
  go_wp2_with fail
  go_ret
  exact ⟨rfl, rfl⟩
theorem dFlush_cut (b sb mb lo : Nat) (d : DK) (w : World) (h : DiskAt w b sb mb lo d) (hd : d.down = false) (hf : d.fuse = 0) (ho : d.ops < 100000) : Calls Try.prog 19 #[.pointer (some ⟨b, 0, none⟩)] w fun e w' => e = .returned (.int .i64 90) ∧ DiskAt w' b sb mb lo (opD d) ∧ DKept b sb mb lo w w' := by
  have hr := dReady b sb mb lo d w h
  have hop := dOperate b sb mb lo d w h ho
  unfold readyOf at hr
  rw [hd] at hr
  rw [decide_eq_true hf] at hop
  simp only [Bool.false_eq_true, if_false] at hr
  clear h hd hf
  go_enter Try.func19, Try.ntmps19
  go_wp2_with fail
  refine hr.mono ?_; rintro e w' ⟨rfl, rfl⟩
  go_wp2_with fail
  refine hop.mono ?_; rintro e w1 ⟨rfl, h1, k1⟩
  go_wp2_with fail
  go_ret
  exact ⟨rfl, h1, DKept.kept k1 (fun x hx => Or.inl (by simpa using hx))⟩
theorem dFlush (b sb mb lo : Nat) (d : DK) (w : World) (h : DiskAt w b sb mb lo d) (hd : d.down = false) (hf : d.fuse ≠ 0) (ho : d.ops < 100000) (hfine : ∀ x ∈ d.waits, x.1 < d.stand.length) (hwl : d.waits.length ≤ 10000) :
    Calls Try.prog 19 #[.pointer (some ⟨b, 0, none⟩)] w fun e w' => e = .returned (.int .i64 0) ∧ DiskAt w' b sb mb lo (settleD (opD d) (fun _ => true)) ∧ DKept b sb mb lo w w' := by
  have hr := dReady b sb mb lo d w h
  have hop := dOperate b sb mb lo d w h ho
  have hset := fun W (hW : DiskAt W b sb mb lo (opD d)) => dSettleAll b sb mb lo (opD d) W hW hfine hwl
  unfold readyOf at hr
  rw [hd] at hr
  rw [decide_eq_false hf] at hop
  simp only [Bool.false_eq_true, if_false] at hr
  clear h hd hf
  have HSET := Lib.hid hset
  clear hset
  go_enter Try.func19, Try.ntmps19
  go_wp2_with fail
  refine hr.mono ?_; rintro e w' ⟨rfl, rfl⟩
  go_wp2_with fail
  refine hop.mono ?_; rintro e w1 ⟨rfl, h1, k1⟩
  go_wp2_with fail
  refine (HSET.out _ h1).mono ?_; rintro e w2 ⟨rfl, h2, k2⟩
  go_wp2_with fail
  go_ret
  exact ⟨rfl, h2, (DKept.kept k1 (fun x hx => Or.inl (by simpa using hx))).trans k2⟩
theorem dPower_nil (v : Value) (w : World) : Calls Try.prog 20 #[.pointer none, v] w fun e w' => e = .returned (.tuple #[]) ∧ w = w' := by
  go_enter Try.func20, Try.ntmps20
  go_wp2_with fail
  refine bodyPost_ret (results_none rfl _ _ _) rfl ?_
  exact ⟨rfl, rfl⟩
theorem dChose (p : Option Addr) (n c : Nat) (w : World) : Calls Try.prog 46 #[.slice p n c] w fun e w' => e = .returned (.func (.func 66) #[] #[.pointer (some ⟨w.heap.size, 0, none⟩)]) ∧ w' = w.alloc (.cells #[.slice p n c] 77) := by
  go_enter Try.func46, Try.ntmps46
  go_wp2_with fail
  go_ret
  exact ⟨rfl, rfl⟩
theorem BoolsIn.shape {w : World} {v : Value} {l : List Bool} {lo hi : Nat} (h : BoolsIn w v l lo hi) : ∃ p c, v = .slice p l.length c := by
  rcases h with ⟨rfl, a, c, rfl⟩ | ⟨b, off, c, rfl, _⟩
  · exact ⟨a, c, rfl⟩
  · exact ⟨_, c, rfl⟩
theorem DiskAt.keep {S : List Nat} {w w' : World} {b sb mb lo : Nat} {d : DK} (h : DiskAt w b sb mb lo d) (k : Kept S w w') (hS : ∀ x ∈ S, x < lo ∧ x ≠ b ∧ x ≠ sb ∧ x ≠ mb) : DiskAt w' b sb mb lo d := by
  obtain ⟨wv, n, o, os, hwr, hm, hn, h2, h3, h4, h5, h6, r⟩ := h
  exact ⟨wv, n, k.own o (fun hx => (hS _ hx).2.1 rfl), k.own os (fun hx => (hS _ hx).2.2.1 rfl), ownsRow_kept hwr k (fun x hx => (hS x hx).1), hm.kept k (fun hx => (hS _ hx).2.2.2 rfl), hn, h2, h3, h4, h5, Nat.le_trans h6 k.size, r⟩
/-- the power goes, and comes back. -/
def powerD (d : DK) (keep : List Bool) : DK := ⟨sk d.stand d.waits (kept keep) d.waits.length, [], -1, d.ops, false⟩
set_option maxRecDepth 100000 in
theorem dPower (b sb mb lo : Nat) (d : DK) (v : Value) (keep : List Bool) (lo1 hi1 : Nat) (w : World) (h : DiskAt w b sb mb lo d) (hfine : ∀ x ∈ d.waits, x.1 < d.stand.length) (hwl : d.waits.length ≤ 10000) (hb : BoolsIn w v keep lo1 hi1) (hbs : sb < lo1 ∨ hi1 ≤ sb) (hkl : keep.length ≤ maxLen) :
    Calls Try.prog 20 #[.pointer (some ⟨b, 0, none⟩), v] w fun e w' => e = .returned (.tuple #[]) ∧ DiskAt w' b sb mb lo (powerD d keep) ∧ DKept b sb mb lo w w' := by
  obtain ⟨p, c, rfl⟩ := hb.shape
  have hA := h.keep ((Kept.refl [] w).alloc (.cells #[.slice p keep.length c] 77)) (fun x hx => by cases hx)
  have hbA := hb.kept ((Kept.refl [] w).alloc (.cells #[.slice p keep.length c] 77)) (fun x hx => by cases hx)
  have hsb : sb < w.heap.size := by obtain ⟨_, _, _, os, _⟩ := h; exact os.lt
  have hset := dSettleChosen b sb mb lo d (.slice p keep.length c) keep w.heap.size lo1 hi1 _ hA hfine hwl (Own.new w _ _) (by omega) hbA hbs hkl
  have hkA := (Kept.refl [] w).alloc (.cells #[.slice p keep.length c] 77)
  have HS := Lib.hid hset
  clear hset hbA hb h
  go_enter Try.func20, Try.ntmps20
  go_wp2_with fail
  refine (dChose _ _ _ _).mono ?_; rintro e w' ⟨rfl, rfl⟩
  go_wp2_with fail
  refine HS.out.mono ?_; rintro e w2 ⟨rfl, h2, k2⟩
  obtain ⟨p2, c2, y0, y1, y2, y3, y4, y5, _⟩ := h2.six
  have z : w2.frozen? ⟨b, 3, none⟩ = false ∧ w2.frozen? ⟨b, 5, none⟩ = false := by
    obtain ⟨_, _, o, _⟩ := h2; exact ⟨o.free 3, o.free 5⟩
  go_wp2_with fail
  go_end0
  have kk := ((Kept.refl [b] w2).setCell (p := ⟨b, 3, none⟩) (Or.inl (by simp)) (.int .i64 (-1))).setCell (p := ⟨b, 5, none⟩) (Or.inl (by simp)) (.bool false)
  have ho : (settleD d (kept keep)).ops ≤ 100000 := by obtain ⟨_, _, _, _, _, _, _, _, _, _, _, _, _, _, _, _, h11⟩ := h2; exact h11
  refine ⟨rfl, DiskAt.nums (d' := powerD d keep) h2 kk rfl rfl (by show (-1 : Int) ≤ -1; omega) (by show (-1 : Int) ≤ 9223372036854775807; omega) ho (fun v0 v1 v2 o => (o.set 3 _).set 5 _), ?_⟩
  exact ((DKept.kept hkA (fun x hx => by cases hx)).trans k2).trans (DKept.kept kk (fun x hx => Or.inl (by simpa using hx)))
def fuseD (d : DK) (n : Int) : DK := ⟨d.stand, d.waits, max n (-1), d.ops, d.down⟩
set_option maxRecDepth 100000 in
theorem dFuse (b sb mb lo : Nat) (d : DK) (n : Int) (w : World) (h : DiskAt w b sb mb lo d) (hn : n ≤ 9223372036854775807) :
    Calls Try.prog 50 #[.pointer (some ⟨b, 0, none⟩), .int .i64 n] w fun e w' => e = .returned (.tuple #[]) ∧ DiskAt w' b sb mb lo (fuseD d n) ∧ Kept [b] w w' := by
  obtain ⟨p2, c2, y0, y1, y2, y3, y4, y5, _, _, ho⟩ := h.six
  have z : w.frozen? ⟨b, 3, none⟩ = false := by obtain ⟨_, _, o, _⟩ := h; exact o.free 3
  have kk := (Kept.refl [b] w).setCell (p := ⟨b, 3, none⟩) (Or.inl (by simp)) (.int .i64 (max n (-1)))
  have hD := DiskAt.nums (d' := fuseD d n) h kk rfl rfl (by show (-1 : Int) ≤ max n (-1); omega) (by show max n (-1) ≤ (9223372036854775807 : Int); omega) ho (fun v0 v1 v2 o => o.set 3 _)
  have HD := Lib.hid hD
  have HD0 := HD
  have kk0 := kk
  clear hD h ho
  rcases (by omega : n < -1 ∨ n = -1 ∨ -1 < n) with h1 | h1 | h1
  · have em : max n (-1) = -1 := by omega
    have h2 : n ≤ -1 := by omega
    rw [em] at kk HD
    clear em
    go_enter Try.func50, Try.ntmps50
    go_wp2_with fail
    all_goals first
      | (exfalso; omega)
      | (go_end0; (first | exact ⟨rfl, HD.out, kk⟩ | exact ⟨rfl, HD0.out, kk0⟩))
  · subst h1
    have em : max (-1 : Int) (-1) = -1 := by omega
    rw [em] at kk HD
    clear em
    go_enter Try.func50, Try.ntmps50
    go_wp2_with fail
    all_goals (go_end0; (first | exact ⟨rfl, HD.out, kk⟩ | exact ⟨rfl, HD0.out, kk0⟩))
  · have em : max n (-1) = n := by omega
    have h2 : ¬ (n ≤ -1) := by omega
    rw [em] at kk HD
    clear em
    go_enter Try.func50, Try.ntmps50
    go_wp2_with fail
    all_goals first
      | (exfalso; omega)
      | (go_end0; (first | exact ⟨rfl, HD.out, kk⟩ | exact ⟨rfl, HD0.out, kk0⟩))
end Go.Proofs.Ytdnbddhjdokbfaa

/- Walks of layer 9 (disk): a new disk. -/
namespace Go.Proofs.Ytdnbddhjdokbfaa
open Go.RowKit Go.Maps
set_option linter.unusedVariables false
set_option linter.unusedSimpArgs false

theorem rep_zero (k : Nat) : Lib.repeatL [0] k = List.replicate k 0 := by
  induction k with
  | zero => rfl
  | succ k ih => rw [Lib.repeatL, ih]; rfl
/-- a sector of noughts. -/
def zeroS : List UInt8 := List.replicate 128 0
theorem dRep (w : World) : Calls Try.prog 49 #[.string { data := #[0] }, .int .i64 128] w fun e w' => e = .returned (.string (bs zeroS)) ∧ Kept [] w w' := by
  have h := Try.strings_Repeat { data := #[0] } 128 w (by omega) (by show 1 * 128 ≤ _; omega)
  have e : (⟨(Lib.repeatL (ByteArray.mk #[0]).data.toList 128).toArray⟩ : ByteArray) = bs zeroS := by
    show bs (Lib.repeatL [0] 128) = _
    rw [rep_zero]; rfl
  rw [e] at h
  exact h.mono fun e w' hh => ⟨hh.1, Kept.of_below hh.2⟩
def newD (st : List (List UInt8)) : DK := ⟨st, [], -1, 0, false⟩
theorem dMade (sb : Nat) (st : List (List UInt8)) (w : World) (o : Own w sb (scells st) 9) (h1 : 1 ≤ st.length) (h2 : st.length ≤ 8192) :
    Calls Try.prog 41 #[.slice (some ⟨sb, 0, none⟩) st.length st.length] w fun e w' => e = .returned (.pointer (some ⟨w.heap.size + 1, 0, none⟩)) ∧ DiskAt w' (w.heap.size + 1) sb w.heap.size (w.heap.size + 2) (newD st) ∧ Kept [] w w' := by
  have hmm := @run_makeMap Try.prog
  have hlt := o.lt
  have hm := (MapAt.made w).alloc (.cells #[.slice (some ⟨sb, 0, none⟩) st.length st.length, .slice none 0 0, .map (some w.heap.size), .int .i64 (-1), .int .i64 0, .bool false] 82)
  have ob := Own.new (w.alloc (.map #[] 0)) #[.slice (some ⟨sb, 0, none⟩) st.length st.length, .slice none 0 0, .map (some w.heap.size), .int .i64 (-1), .int .i64 0, .bool false] 82
  rw [World.size_alloc] at ob
  have os := (o.alloc (.map #[] 0)).alloc (.cells #[.slice (some ⟨sb, 0, none⟩) st.length st.length, .slice none 0 0, .map (some w.heap.size), .int .i64 (-1), .int .i64 0, .bool false] 82)
  go_enter Try.func41, Try.ntmps41
  go_wp2_with fail
  go_ret
  refine ⟨rfl, ⟨.slice none 0 0, 0, ob, os, World.ownsRow_nil _ _ _ _, hm, Nat.le_refl _, ?_, ?_, ?_, ?_, ?_, h1, h2, ?_, ?_, ?_⟩, ((Kept.refl _ _).alloc _).alloc _⟩
  · omega
  · omega
  · omega
  · omega
  · simp
  · show (-1 : Int) ≤ -1; omega
  · show (-1 : Int) ≤ 9223372036854775807; omega
  · exact Nat.zero_le _
/-- the first k sectors are noughts. -/
def fillTo (n k : Nat) : List (List UInt8) := List.replicate k zeroS ++ List.replicate (n - k) []
theorem fillTo_len (n k : Nat) (h : k ≤ n) : (fillTo n k).length = n := by unfold fillTo; rw [List.length_append, List.length_replicate, List.length_replicate]; omega
theorem fillTo_succ (n k : Nat) (h : k < n) : (fillTo n k).set k zeroS = fillTo n (k + 1) := by
  unfold fillTo
  rw [List.set_append_right _ _ (by simp)]
  have e : n - k = (n - (k + 1)) + 1 := by omega
  rw [e, List.replicate_succ, List.length_replicate, Nat.sub_self, List.set_cons_zero, List.replicate_succ']
  simp
theorem infoStr : ∃ i, Try.prog.info? 9 = some i ∧ i.zero = some (.string ⟨#[]⟩) ∧ i.size = 1 ∧ i.bytes = 16 := by
  have hi : (Try.prog.info? 9).map (fun i => (i.zero, i.size, i.bytes)) = some (some (.string ⟨#[]⟩), 1, 16) := by kernel_rfl
  obtain ⟨i0, hi0, hz0, hz1, hz2⟩ := info_parts hi
  exact ⟨i0, hi0, hz0, hz1, hz2⟩
theorem run_make_strs (n : Nat) (hn : n ≤ 8192) (w : World) : (Instr.makeSlice 56 (.int .i64 n) (.int .i64 n)).run Try.prog w = .ok (.slice (some ⟨w.heap.size, 0, none⟩) n n) (w.alloc (.cells (scells (fillTo n 0)) 9)) := by
  obtain ⟨i0, h1, h2, h3, h4⟩ := infoStr
  rw [run_make_rep (P := Try.prog) 56 9 i0 (.string ⟨#[]⟩) Try.underlying56 h1 h2 h3 rfl n (by rw [h4]; omega) (by omega) w]
  have e : Array.replicate n (Value.string ⟨#[]⟩) = scells (fillTo n 0) := by
    unfold scells fillTo
    apply Array.toList_inj.1
    simp [bs]
  rw [e]
set_option maxRecDepth 100000 in
set_option maxHeartbeats 1000000 in
theorem dNew (n : Nat) (w : World) (h1 : 1 ≤ n) (h2 : n ≤ 8192) :
    Calls Try.prog 23 #[.int .i64 n] w fun e w' => ∃ b sb mb lo, e = .returned (.tuple #[.pointer (some ⟨b, 0, none⟩), .int .i64 0]) ∧ DiskAt w' b sb mb lo (newD (List.replicate n zeroS)) ∧ w.heap.size ≤ sb ∧ w.heap.size ≤ mb ∧ w.heap.size ≤ b ∧ Kept [] w w' := by
  have hmk := run_make_strs n h2
  have o := Own.new w (scells (fillTo n 0)) 9
  have i1 : (1 : Int) ≤ n := by omega
  have i2 : (n : Int) ≤ 8192 := by omega
  go_enter Try.func23, Try.ntmps23
  go_wp2_with fail
  go_loopw [16] (fun i wr => ∃ k : Nat, k ≤ n ∧ i = .int .i64 k ∧ Own wr w.heap.size (scells (fillTo n k)) 9 ∧ Kept [] w wr) (fun i _ => n - (intOf i).toNat)
  case atStart => exact ⟨0, by omega, rfl, o, (Kept.refl _ _).alloc _⟩
  case round =>
    obtain ⟨k, hk, rfl, os, hK⟩ := hrel
    by_cases hlt : k < n
    · have HLT := Lib.hid hlt
      go_wp2_with fail
      refine (dRep _).mono ?_; rintro e w1 ⟨rfl, k1⟩
      have os1 := k1.own os (by simp)
      have hsize : k < (scells (fillTo n k)).size := by simp [scells, fillTo_len n k hk]; exact hlt
      obtain ⟨v0, s0⟩ : ∃ v0, w1.cell? ⟨w.heap.size, k, none⟩ = some v0 := ⟨_, os1.cell k hsize⟩
      have zs := os1.free k
      have hfin : Own (w1.setCell ⟨w.heap.size, k, none⟩ (.string (bs zeroS))) w.heap.size (scells (fillTo n (k + 1))) 9 := by
        rw [← fillTo_succ n k hlt, ← scells_set]
        exact os1.set k _
      have hkf := (hK.trans k1).setCell (p := ⟨w.heap.size, k, none⟩) (Or.inr (Nat.le_refl _)) (.string (bs zeroS))
      have HF := Lib.hid hfin
      clear hfin os os1 hsize o
      generalize zeroS = Z at *
      go_wp2_with fail
      go_roundw
      case rel => exact ⟨k + 1, HLT.out, by go_num, HF.out, hkf⟩
      case measure => (have hh := HLT.out; simp [intOf]; omega)
    · obtain rfl : k = n := by omega
      have e0 : fillTo k k = List.replicate k zeroS := by unfold fillTo; rw [Nat.sub_self]; simp
      rw [e0] at os
      have hmd := dMade w.heap.size (List.replicate k zeroS) wr os (by rw [List.length_replicate]; exact h1) (by rw [List.length_replicate]; exact h2)
      rw [List.length_replicate] at hmd
      have hsz := hK.size
      have HM := Lib.hid hmd
      clear hmd os
      go_wp2_with fail
      refine HM.out.mono ?_; rintro e w2 ⟨rfl, hD, k2⟩
      go_wp2_with fail
      go_ret2
      exact ⟨_, _, _, _, rfl, hD, Nat.le_refl _, hsz, by omega, hK.trans k2⟩
end Go.Proofs.Ytdnbddhjdokbfaa

/- Walks of layer 9 (disk): a text as a sector; nobody's disk. -/
namespace Go.Proofs.Ytdnbddhjdokbfaa
open Go.RowKit Go.Maps
set_option linter.unusedVariables false
set_option linter.unusedSimpArgs false

theorem dImage_nil (w : World) : Calls Try.prog 21 #[.pointer none] w fun e w' => e = .returned (.string ⟨#[]⟩) ∧ w = w' := by
  go_enter Try.func21, Try.ntmps21
  go_wp2_with fail
  go_ret
  exact ⟨rfl, rfl⟩
/-- 128 bytes that begin with s. -/
def sectorL (s : List UInt8) : List UInt8 := (s ++ List.replicate (128 - s.length) 45).take 128
theorem sectorL_len (s : List UInt8) : (sectorL s).length = 128 := by
  unfold sectorL; rw [List.length_take, List.length_append, List.length_replicate]; omega
def strSize : Value → Nat
  | .string s => s.size
  | _ => 0
theorem bs_snoc (l : List UInt8) : bs l ++ (⟨#[45]⟩ : ByteArray) = bs (l ++ [45]) := by rw [show (⟨#[45]⟩ : ByteArray) = bs [45] from rfl, bs_append]
end Go.Proofs.Ytdnbddhjdokbfaa
