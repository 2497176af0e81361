/- Layer 1 (pack): texts that are not too much; the same texts; what is laid is read. -/
import Derived.Test.YtmghjdhmlaeibaaP7
namespace Go.Proofs.Ytmghjdhmlaeibaa
open Go.RowKit
set_option linter.unusedVariables false
set_option linter.unusedSimpArgs false

theorem StrsIn.shape {w : World} {v : Value} {l : List ByteArray} {lo hi : Nat} (h : StrsIn w v l lo hi) : ∃ p c, v = .slice p l.length c := by
  rcases h with ⟨rfl, a, c, rfl⟩ | ⟨b, off, c, rfl, _⟩
  · exact ⟨a, c, rfl⟩
  · exact ⟨_, c, rfl⟩
theorem StrsIn.at {w : World} {p : Option Addr} {n c : Nat} {l : List ByteArray} {lo hi : Nat} (h : StrsIn w (.slice p n c) l lo hi) (i : Nat) (hi' : i < l.length) : ∃ b off, p = some ⟨b, off, none⟩ ∧ w.cell? ⟨b, off + i, none⟩ = some (.string l[i]) ∧ b < w.heap.size := by
  rcases h with ⟨rfl, _⟩ | ⟨b, off, c', e, h2, h3, h4, h5, _⟩
  · simp at hi'
  · simp at e
    exact ⟨b, off, e.1, h2 i hi', by omega⟩

set_option maxRecDepth 100000 in
theorem light_walk (v : Value) (l : List ByteArray) (lo hi : Nat) (w : World) (h : StrsIn w v l lo hi) :
    Calls Try.prog 31 #[v] w fun e w' => (∃ b : Bool, e = .returned (.bool b) ∧ (b = true → l.length ≤ 40 ∧ ∀ s ∈ l, s.size ≤ 500)) ∧ Kept [] w w' := by
  obtain ⟨p, c, rfl⟩ := h.shape
  have HS := Lib.hid h
  clear h
  go_enter Try.func31, Try.ntmps31
  go_wp2_with fail
  go_loopw [3] (fun i wr => ∃ k : Nat, k ≤ l.length ∧ k ≤ 40 ∧ i = .int .i64 k ∧ Aside (∀ j (hj : j < l.length), j < k → l[j].size ≤ 500) ∧ Kept [] w wr) (fun i _ => 40 - (intOf i).toNat)
  case atStart => exact ⟨0, Nat.zero_le _, Nat.zero_le _, rfl, fun j _ h => absurd h (Nat.not_lt_zero _), Kept.refl _ _⟩
  case round =>
    obtain ⟨k, hk, hk40, rfl, hall, hkr⟩ := hrel
    by_cases hlt : k < l.length
    · by_cases hlt2 : k < 40
      · obtain ⟨b, off, rfl, hcell, hb⟩ := HS.out.at k hlt
        have hcell' := (hkr.cell (a := ⟨b, off + k, none⟩) hb (by simp)).trans hcell
        clear hcell
        by_cases hsz : (500 : Int) < l[k].size
        · go_wp2_with fail
          go_ret
          exact ⟨⟨false, rfl, fun h => by cases h⟩, hkr⟩
        · have hall' : Aside (∀ j (hj : j < l.length), j < k + 1 → l[j].size ≤ 500) := fun j hj hjk => by
            by_cases e : j = k
            · subst e; omega
            · exact hall j hj (by omega)
          clear hall
          go_wp2_with fail
          go_roundw
          case rel => exact ⟨k + 1, by omega, by omega, by go_num, hall', hkr⟩
          case measure => simp [intOf]; omega
      · have hres : Hid (decide ((l.length : Int) ≤ 40) = true → l.length ≤ 40 ∧ ∀ s ∈ l, s.size ≤ 500) := fun h => by
          have h' : l.length ≤ 40 := by have := of_decide_eq_true h; omega
          exact ⟨h', fun s hs => by
            obtain ⟨j, hj, rfl⟩ := List.getElem_of_mem hs
            exact hall j hj (by omega)⟩
        clear hall
        go_wp2_with fail
        go_ret
        exact ⟨⟨_, rfl, hres.out⟩, hkr⟩
    · have hres : Hid (decide ((l.length : Int) ≤ 40) = true → l.length ≤ 40 ∧ ∀ s ∈ l, s.size ≤ 500) := fun h => by
        have h' : l.length ≤ 40 := by have := of_decide_eq_true h; omega
        exact ⟨h', fun s hs => by
          obtain ⟨j, hj, rfl⟩ := List.getElem_of_mem hs
          exact hall j hj (by omega)⟩
      clear hall
      go_wp2_with fail
      go_ret
      exact ⟨⟨_, rfl, hres.out⟩, hkr⟩

set_option maxRecDepth 100000 in
theorem rSame (va vb : Value) (l : List ByteArray) (lo hi lo' hi' : Nat) (w : World) (h : StrsIn w va l lo hi) (h' : StrsIn w vb l lo' hi') (hm : l.length ≤ 1000000) :
    Calls Try.prog 39 #[va, vb] w fun e w' => e = .returned (.bool true) ∧ Kept [] w w' := by
  obtain ⟨p, c, rfl⟩ := h.shape
  obtain ⟨p', c', rfl⟩ := h'.shape
  have HS := Lib.hid h
  have HT := Lib.hid h'
  clear h h'
  go_enter Try.func39, Try.ntmps39
  go_wp2_with fail
  go_loopw [5] (fun i wr => ∃ k : Nat, k ≤ l.length ∧ i = .int .i64 k ∧ Kept [] w wr) (fun i _ => l.length - (intOf i).toNat)
  case atStart => exact ⟨0, Nat.zero_le _, rfl, Kept.refl _ _⟩
  case round =>
    obtain ⟨k, hk, rfl, hkr⟩ := hrel
    by_cases hlt : k < l.length
    · obtain ⟨b, off, rfl, hcell, hb⟩ := HS.out.at k hlt
      obtain ⟨b', off', rfl, hcell', hb'⟩ := HT.out.at k hlt
      have c1 := (hkr.cell (a := ⟨b, off + k, none⟩) hb (by simp)).trans hcell
      have c2 := (hkr.cell (a := ⟨b', off' + k, none⟩) hb' (by simp)).trans hcell'
      clear hcell hcell'
      go_wp2_with fail
      go_region
      go_wp2_with fail
      go_roundw
      case rel => exact ⟨k + 1, by omega, by go_num, hkr.drew⟩
      case measure => simp [intOf]; omega
    · go_wp2_with fail
      go_ret
      exact ⟨rfl, hkr⟩

theorem numL_mod (n k : Nat) : numL (n % 256 ^ k) k = numL n k := by
  have := numL_leL (numL n k)
  rw [numL_len, leL_numL] at this
  exact this
theorem takeR_lay (a r : List UInt8) (n : Nat) (h : a.length = n) : takeR n (a ++ r) 0 = (a, r, 0) := by
  subst h
  unfold takeR
  rw [if_neg (by simp), if_neg (by omega), if_neg (by simp; omega)]
  simp
theorem numR_lay (n k : Nat) (r : List UInt8) : numR k (numL n k ++ r) 0 = (n % 256 ^ k, r, 0) := by
  unfold numR
  rw [takeR_lay _ _ _ (numL_len n k), leL_numL]
theorem lenR_lay (m n : Nat) (r : List UInt8) (hm : m ≤ 65536) (h : n ≤ m) : lenR m (numL n 4 ++ r) 0 = (n, r, 0) := by
  unfold lenR
  rw [numR_lay, Nat.mod_eq_of_lt (by omega)]
  simp only
  rw [if_neg (by omega)]
theorem textR_lay (a r : List UInt8) (h : a.length ≤ 65536) : textR (textL a ++ r) 0 = (a, r, 0) := by
  unfold textR textL
  rw [List.append_assoc, lenR_lay _ _ _ (by omega) h]
  exact takeR_lay a r _ rfl
theorem itemsR_lay (l : List (List UInt8)) (acc : List (List UInt8)) (r : List UInt8) (h : ∀ a ∈ l, a.length ≤ 65536) : itemsR acc l.length ((l.map textL).flatten ++ r) 0 = (acc ++ l, r, 0) := by
  induction l generalizing acc with
  | nil => simp [itemsR]
  | cons a l ih =>
    rw [List.length_cons, itemsR, List.map_cons, List.flatten_cons, List.append_assoc, textR_lay _ _ (h a (by simp))]
    simp only [if_true]
    rw [ih _ (fun x hx => h x (by simp [hx]))]
    simp
theorem listR_lay (l : List (List UInt8)) (r : List UInt8) (h0 : l.length ≤ 65536) (h : ∀ a ∈ l, a.length ≤ 65536) : listR (listL l ++ r) 0 = (l, r, 0) := by
  unfold listR listL
  rw [List.append_assoc, lenR_lay _ _ _ (by omega) h0]
  simp only
  rw [itemsR_lay l [] r h]
  simp
theorem bs_map_data (l : List ByteArray) : (l.map fun s => s.data.toList).map bs = l := by
  rw [List.map_map]; conv => rhs; rw [← List.map_id l]
  apply List.map_congr_left; intro s _; exact bs_of s
end Go.Proofs.Ytmghjdhmlaeibaa
