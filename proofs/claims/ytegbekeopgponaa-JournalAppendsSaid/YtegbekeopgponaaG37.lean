/- Layer 13 (journal): what was appended is loaded, and what stood ahead of it stands: plain. -/
import Derived.Test.YtegbekeopgponaaG12
import Derived.Test.YtegbekeopgponaaG30
import Derived.Test.YtegbekeopgponaaG36
namespace Go.Proofs.Ytegbekeopgponaa
open Go.RowKit
set_option linter.unusedVariables false
set_option linter.unusedSimpArgs false

theorem sk_at (st : List (List UInt8)) (ws : List (Nat × List UInt8)) (keep : Nat → Bool) (n i : Nat) (hn : n ≤ ws.length) : (sk st ws keep n).getD i [] = st.getD i [] ∨ ∃ x ∈ ws, x.1 = i ∧ (sk st ws keep n).getD i [] = x.2 := by
  induction n with
  | zero => exact Or.inl rfl
  | succ n ih =>
    rw [sk_succ _ _ _ _ (by omega)]
    split
    · by_cases h : ws[n].1 = i ∧ i < st.length
      · refine Or.inr ⟨ws[n], List.getElem_mem _, h.1, ?_⟩
        obtain ⟨h, hl⟩ := h
        subst h
        rw [List.getD_eq_getElem?_getD, List.getElem?_set_self (by rw [sk_len]; exact hl)]
        rfl
      · have e : ((sk st ws keep n).set ws[n].1 ws[n].2).getD i [] = (sk st ws keep n).getD i [] := by
          rw [List.getD_eq_getElem?_getD, List.getD_eq_getElem?_getD]
          by_cases h1 : ws[n].1 = i
          · have h2 : ¬ i < st.length := fun h2 => h ⟨h1, h2⟩
            rw [List.getElem?_eq_none (by rw [List.length_set, sk_len]; omega), List.getElem?_eq_none (by rw [sk_len]; omega)]
          · rw [List.getElem?_set_ne h1]
        rw [e]
        exact ih (by omega)
    · exact ih (by omega)
theorem sk_last (st : List (List UInt8)) (ws : List (Nat × List UInt8)) (n i : Nat) (hn : n ≤ ws.length) (hi : i < st.length) : (sk st ws (fun _ => true) n).getD i [] = (lastOf (ws.take n) i).getD (st.getD i []) := by
  induction n with
  | zero => rfl
  | succ n ih =>
    rw [sk_succ _ _ _ _ (by omega), if_pos rfl, List.take_succ_eq_append_getElem (by omega), lastOf_snoc]
    by_cases h : ws[n].1 = i
    · rw [if_pos h]
      subst h
      rw [List.getD_eq_getElem?_getD, List.getElem?_set_self (by rw [sk_len]; exact hi)]
      rfl
    · rw [if_neg h, ← ih (by omega), List.getD_eq_getElem?_getD, List.getElem?_set_ne h, ← List.getD_eq_getElem?_getD]
theorem seen_settle (d : DK) (i : Nat) (hi : i < d.stand.length) : seen (settleD d (fun _ => true)) i = seen d i := by
  have := sk_last d.stand d.waits d.waits.length i (Nat.le_refl _) hi
  rw [List.take_length] at this
  unfold seen
  exact this
theorem seen_write (d : DK) (a i : Nat) (s : List UInt8) : seen (writeD d a s) i = if a = i then s else seen d i := by
  unfold seen writeD
  simp only [lastOf_snoc]
  split <;> rfl
theorem settle_len (d : DK) (k : Nat → Bool) : (settleD d k).stand.length = d.stand.length := sk_len _ _ _ _
theorem power_len (d : DK) (k : List Bool) : (powerD d k).stand.length = d.stand.length := sk_len _ _ _ _
/-- sectors from one on. -/
def readsFrom (d : DK) : Nat → Nat → List UInt8
  | _, 0 => []
  | a, m + 1 => seen d a ++ readsFrom d (a + 1) m
theorem readsL_from (d : DK) (q m : Nat) : readsL d (q + m) = readsL d q ++ readsFrom d (2 + q) m := by
  induction m generalizing q with
  | zero => simp [readsFrom]
  | succ m ih =>
    have e : q + (m + 1) = (q + 1) + m := by omega
    rw [e, ih (q + 1), readsL_succ, readsFrom, List.append_assoc, show 2 + (q + 1) = 2 + q + 1 from by omega]
theorem readsL_same {d d' : DK} (k : Nat) (h : ∀ i, i < k → seen d' (2 + i) = seen d (2 + i)) : readsL d' k = readsL d k := by
  induction k with
  | zero => rfl
  | succ k ih => rw [readsL_succ, readsL_succ, ih (fun i hi => h i (by omega)), h k (by omega)]
/-- a text's sectors. -/
def chunksL : Nat → List UInt8 → List UInt8
  | 0, _ => []
  | m + 1, W => chunk W ++ chunksL m (W.drop 128)
theorem chunk_head (W : List UInt8) : ∃ z, chunk W = W.take 128 ++ z := ⟨_, rfl⟩
theorem chunksL_take (m : Nat) (W : List UInt8) (h : W.length ≤ 128 * m) : (chunksL m W).take W.length = W := by
  induction m generalizing W with
  | zero =>
    have : W = [] := List.eq_nil_of_length_eq_zero (by omega)
    subst this; rfl
  | succ m ih =>
    rw [chunksL]
    by_cases hs : W.length ≤ 128
    · obtain ⟨z, hz⟩ := chunk_head W
      rw [hz, List.take_of_length_le hs, List.append_assoc, List.take_append_of_le_length (Nat.le_refl _), List.take_length]
    · have e := ih (W.drop 128) (by rw [List.length_drop]; omega)
      rw [List.length_drop] at e
      have hc : chunk W = W.take 128 := by
        obtain ⟨z, hz⟩ := chunk_head W
        have hl := chunk_len W
        rw [hz, List.length_append, List.length_take] at hl
        have : z = [] := List.eq_nil_of_length_eq_zero (by omega)
        rw [hz, this, List.append_nil]
      rw [hc, List.take_append, List.length_take, Nat.min_eq_left (by omega), e, List.take_of_length_le (by rw [List.length_take]; omega), List.take_append_drop]
theorem readsFrom_chunks (d : DK) (m : Nat) : ∀ (a : Nat) (W : List UInt8), (∀ i, i < m → seen d (a + i) = chunk (W.drop (128 * i))) → readsFrom d a m = chunksL m W := by
  induction m with
  | zero => intro a W h; rfl
  | succ m ih =>
    intro a W h
    rw [readsFrom, chunksL, ih (a + 1) (W.drop 128) (fun i hi => by
      have := h (i + 1) (by omega)
      rw [List.drop_drop, show 128 + 128 * i = 128 * (i + 1) from by omega, show a + 1 + i = a + (i + 1) from by omega]
      exact this)]
    have := h 0 (by omega)
    simp only [Nat.mul_zero, List.drop_zero, Nat.add_zero] at this
    rw [this]
/-- what is loaded: whole sectors, and a part of one. -/
theorem load_split {d : DK} (hf : Fit d) (u : Nat) (h : 2 + (need (u : Int)).toNat ≤ d.stand.length) : (readsL d (need (u : Int)).toNat).take u = readsL d (u / 128) ++ (seen d (2 + u / 128)).take (u % 128) := by
  have hn : need (u : Int) = (((u + 127) / 128 : Nat) : Int) := by
    unfold need
    split
    · omega
    · omega
  rw [hn, Int.toNat_natCast] at h ⊢
  by_cases hr : u % 128 = 0
  · have e : (u + 127) / 128 = u / 128 := by omega
    rw [e] at h ⊢
    rw [hr, List.take_zero, List.append_nil, List.take_of_length_le]
    rw [readsL_len hf _ h]; omega
  · have e : (u + 127) / 128 = u / 128 + 1 := by omega
    rw [e] at h ⊢
    have hl := readsL_len hf (u / 128) (by omega)
    rw [readsL_succ, List.take_append, hl, List.take_of_length_le (by rw [hl]; omega), show u - 128 * (u / 128) = u % 128 from by omega]
theorem need_nat (u : Nat) : (need (u : Int)).toNat = (u + 127) / 128 := by
  have hn : need (u : Int) = (((u + 127) / 128 : Nat) : Int) := by
    unfold need
    split
    · omega
    · omega
  rw [hn, Int.toNat_natCast]
theorem write_ok {d : DK} {a : Nat} {s : List UInt8} (hd : d.down = false) (hfu : d.fuse < 0) (ha : a < d.stand.length) : wCode d a (chunk s) = 0 ∧ wNext d a (chunk s) = writeD d a (chunk s) := by
  have hat : atOf d (a : Int) = 0 := by
    unfold atOf
    rw [hd, if_neg (by simp), if_neg (by omega)]
  refine ⟨?_, ?_⟩
  · unfold wCode
    rw [hat, chunk_len, if_neg (by simp), if_neg (by simp), if_neg (by omega)]
  · unfold wNext
    rw [if_pos ⟨hat, chunk_len s⟩, Int.toNat_natCast]
theorem app_ok (n : Nat) : ∀ (d : DK) (a : Nat) (s : List UInt8), s.length ≤ n → Fit d → d.down = false → d.fuse < 0 → a + (s.length + 127) / 128 ≤ d.stand.length →
    ∃ d', appAll d a s = (d', 0) ∧ d'.stand = d.stand ∧ d'.down = false ∧ d'.fuse = d.fuse ∧ Fit d' ∧ (∀ i, i < a → seen d' i = seen d i) ∧ ∀ i, 128 * i < s.length → seen d' (a + i) = chunk (s.drop (128 * i)) := by
  induction n with
  | zero =>
    intro d a s hs hf hd hfu ha
    have : s = [] := List.eq_nil_of_length_eq_zero (by omega)
    subst this
    exact ⟨d, rfl, rfl, hd, rfl, hf, fun _ _ => rfl, fun i hi => by simp at hi⟩
  | succ n ih =>
    intro d a s hs hf hd hfu ha
    by_cases h0 : s = []
    · subst h0
      exact ⟨d, rfl, rfl, hd, rfl, hf, fun _ _ => rfl, fun i hi => by simp at hi⟩
    · have hl : 0 < s.length := List.length_pos_iff.2 h0
      obtain ⟨hc, hn⟩ := write_ok (s := s) hd hfu (by omega : a < d.stand.length)
      have hdn : (writeD d a (chunk s)).down = false := by
        show (if d.fuse = 0 then true else d.down) = false
        rw [if_neg (by omega), hd]
      have hfn : (writeD d a (chunk s)).fuse = d.fuse := by
        show (if 0 < d.fuse then d.fuse - 1 else d.fuse) = d.fuse
        rw [if_neg (by omega)]
      have hfit : Fit (writeD d a (chunk s)) := by rw [← hn]; exact hf.write _ _
      obtain ⟨d', e1, e2, e3, e4, e5, e6, e7⟩ := ih (writeD d a (chunk s)) (a + 1) (s.drop 128) (by rw [List.length_drop]; omega) hfit hdn (by rw [hfn]; exact hfu) (by rw [List.length_drop]; show a + 1 + _ ≤ d.stand.length; omega)
      refine ⟨d', ?_, e2, e3, e4.trans hfn, e5, fun i hi => ?_, fun i hi => ?_⟩
      · rw [appAll_step h0, if_pos hc, hn, e1]
      · rw [e6 i (by omega), seen_write, if_neg (by omega)]
      · cases i with
        | zero =>
          rw [Nat.add_zero, e6 a (by omega), seen_write, if_pos rfl]; rfl
        | succ i =>
          have := e7 i (by rw [List.length_drop]; omega)
          rw [List.drop_drop, show 128 + 128 * i = 128 * (i + 1) from by omega, show a + 1 + i = a + (i + 1) from by omega] at this
          exact this
theorem app_waits (n : Nat) : ∀ (d : DK) (a : Nat) (s : List UInt8), s.length ≤ n → Fit d →
    (appAll d a s).1.stand = d.stand ∧ Fit (appAll d a s).1 ∧ ∃ ws, (appAll d a s).1.waits = d.waits ++ ws ∧ ∀ x ∈ ws, a ≤ x.1 ∧ (x.1 = a → x.2 = chunk s) := by
  induction n with
  | zero =>
    intro d a s hs hf
    have : s = [] := List.eq_nil_of_length_eq_zero (by omega)
    subst this
    exact ⟨rfl, hf, [], by rw [List.append_nil]; rfl, fun x hx => by cases hx⟩
  | succ n ih =>
    intro d a s hs hf
    by_cases h0 : s = []
    · subst h0
      exact ⟨rfl, hf, [], by rw [List.append_nil]; rfl, fun x hx => by cases hx⟩
    · have hl : 0 < s.length := List.length_pos_iff.2 h0
      have hw : (wNext d a (chunk s)).stand = d.stand ∧ ∃ ws, (wNext d a (chunk s)).waits = d.waits ++ ws ∧ ∀ x ∈ ws, x = (a, chunk s) := by
        unfold wNext
        split
        · exact ⟨rfl, [(a, chunk s)], by rw [Int.toNat_natCast]; rfl, fun x hx => by simpa using hx⟩
        · exact ⟨rfl, [], by rw [List.append_nil], fun x hx => by cases hx⟩
      obtain ⟨hst, ws, hws, hx⟩ := hw
      rw [appAll_step h0]
      split
      · obtain ⟨e1, e2, ws', e3, e4⟩ := ih (wNext d a (chunk s)) (a + 1) (s.drop 128) (by rw [List.length_drop]; omega) (hf.write _ _)
        refine ⟨e1.trans hst, e2, ws ++ ws', by rw [e3, hws, List.append_assoc], fun x hxx => ?_⟩
        rcases List.mem_append.1 hxx with h | h
        · have := hx x h
          subst this
          exact ⟨Nat.le_refl _, fun _ => rfl⟩
        · have := (e4 x h).1
          exact ⟨by omega, fun e => by omega⟩
      · refine ⟨hst, hf.write _ _, ws, hws, fun x h => ?_⟩
        have := hx x h
        subst this
        exact ⟨Nat.le_refl _, fun _ => rfl⟩
theorem chunk_pre (p s : List UInt8) (h : p.length ≤ 128) : (chunk (p ++ s)).take p.length = p := by
  obtain ⟨z, hz⟩ := chunk_head (p ++ s)
  rw [hz, List.take_append_of_le_length (by rw [List.length_take, List.length_append]; omega), List.take_take, Nat.min_eq_left h, List.take_append_of_le_length (Nat.le_refl _), List.take_length]
theorem load_ok {d : DK} {j u : Int} (hc : fitCode d.stand.length j u = 0) (hd : d.down = false) : loadCode d j u = 0 := by
  unfold loadCode
  rw [if_neg (by omega), if_neg (by rw [hd]; simp)]
theorem load_len {d : DK} {j u : Int} (hf : Fit d) (hc : fitCode d.stand.length j u = 0) (hd : d.down = false) : ((loadL d j u).length : Int) = u := by
  obtain ⟨c1, c2, c3, c4⟩ := fit_ok hc
  obtain ⟨k, rfl⟩ := Int.eq_ofNat_of_zero_le c3
  unfold loadL
  rw [if_pos (load_ok hc hd), Int.toNat_natCast, List.length_take, readsL_len hf _ (by rw [need_nat]; omega), need_nat]
  omega
/-- what an append, cut wherever it may be, and a power leave of what stood ahead. -/
theorem ahead_plain {d : DK} (hf : Fit d) (hw : d.waits = []) (hd : d.down = false) {j u : Int} (S : List UInt8) (F : Int) (keep : List Bool) (hc : fitCode d.stand.length j u = 0) :
    ∃ d2, powerD (appendD (fuseD d F) j u S).1 keep = d2 ∧ d2.stand.length = d.stand.length ∧ Fit d2 ∧ d2.down = false ∧ d2.fuse = -1 ∧ d2.waits = [] ∧ loadL d2 j u = loadL d j u := by
  have hst : (appendD (fuseD d F) j u S).1.stand = d.stand ∧ Fit (appendD (fuseD d F) j u S).1 ∧ ∃ ws, (appendD (fuseD d F) j u S).1.waits = ws ∧ ∀ x ∈ ws, 2 + u.toNat / 128 ≤ x.1 ∧ (x.1 = 2 + u.toNat / 128 → x.2 = chunk ((seen d (2 + u.toNat / 128)).take (u.toNat % 128) ++ S)) := by
    unfold appendD
    split
    · exact ⟨rfl, hf.fuse F, [], hw, fun x hx => by cases hx⟩
    · split
      · exact ⟨rfl, hf.fuse F, [], hw, fun x hx => by cases hx⟩
      · split
        · exact ⟨rfl, hf.fuse F, [], hw, fun x hx => by cases hx⟩
        · split
          · exact ⟨rfl, hf.fuse F, [], hw, fun x hx => by cases hx⟩
          · obtain ⟨e1, e2, ws, e3, e4⟩ := app_waits _ (fuseD d F) (2 + u.toNat / 128) ((seen (fuseD d F) (2 + u.toNat / 128)).take (u.toNat % 128) ++ S) (Nat.le_refl _) (hf.fuse F)
            refine ⟨e1, e2, ws, ?_, e4⟩
            rw [e3]
            show d.waits ++ ws = ws
            rw [hw]; rfl
  obtain ⟨h1, h2, ws, h3, h4⟩ := hst
  generalize (appendD (fuseD d F) j u S).1 = d1 at *
  refine ⟨_, rfl, by rw [power_len, h1], h2.power keep, rfl, rfl, rfl, ?_⟩
  obtain ⟨c1, c2, c3, c4⟩ := fit_ok hc
  obtain ⟨k, rfl⟩ := Int.eq_ofNat_of_zero_le c3
  rw [Int.toNat_natCast] at h4
  have hl2 : (powerD d1 keep).stand.length = d.stand.length := by rw [power_len, h1]
  have hsn : ∀ i, seen d i = d.stand.getD i [] := fun i => by unfold seen; rw [hw]; rfl
  have hkey : ∀ i, (seen (powerD d1 keep) i = seen d i) ∨ ∃ x ∈ ws, x.1 = i ∧ seen (powerD d1 keep) i = x.2 := fun i => by
    have := sk_at d1.stand d1.waits (kept keep) d1.waits.length i (Nat.le_refl _)
    rw [h1, h3] at this
    rw [hsn]
    have e : seen (powerD d1 keep) i = (sk d.stand ws (kept keep) ws.length).getD i [] := by
      unfold seen powerD
      simp only [lastOf_nil, Option.getD_none, h1, h3]
    rw [e]
    exact this
  have hlow : ∀ i, i < k / 128 → seen (powerD d1 keep) (2 + i) = seen d (2 + i) := fun i hi => by
    rcases hkey (2 + i) with h | ⟨x, hx, e1, _⟩
    · exact h
    · have := (h4 x hx).1; omega
  have hat : (seen (powerD d1 keep) (2 + k / 128)).take (k % 128) = (seen d (2 + k / 128)).take (k % 128) := by
    rcases hkey (2 + k / 128) with h | ⟨x, hx, e1, e2⟩
    · rw [h]
    · rw [e2, (h4 x hx).2 e1]
      by_cases hr : k % 128 = 0
      · rw [hr, List.take_zero, List.take_zero]
      · have hlen : ((seen d (2 + k / 128)).take (k % 128)).length = k % 128 := by
          rw [List.length_take, seen_len hf (by omega)]; omega
        have := chunk_pre ((seen d (2 + k / 128)).take (k % 128)) S (by rw [hlen]; omega)
        rw [hlen] at this
        exact this
  have hc2 : fitCode (powerD d1 keep).stand.length j (k : Int) = 0 := by rw [hl2]; exact hc
  unfold loadL
  rw [if_pos (load_ok hc2 rfl), if_pos (load_ok hc hd), Int.toNat_natCast, load_split (h2.power keep) k (by rw [need_nat, hl2]; omega), load_split hf k (by rw [need_nat]; omega), hat, readsL_same _ hlow]
/-- what is appended under no fuse, and flushed, is loaded behind what stood ahead. -/
theorem behind_plain {d : DK} (hf : Fit d) (hd : d.down = false) (hfu : d.fuse < 0) {j u : Int} (S : List UInt8) (hc : fitCode d.stand.length j u = 0) :
    (128 * j - u < S.length ∧ (appendD d j u S).2 = 100) ∨ ∃ d', appendD d j u S = (d', 0) ∧ d'.stand = d.stand ∧ d'.down = false ∧ d'.fuse = d.fuse ∧ Fit d' ∧ fitCode d.stand.length j (u + S.length) = 0 ∧ loadL d' j (u + S.length) = loadL d j u ++ S := by
  obtain ⟨c1, c2, c3, c4⟩ := fit_ok hc
  unfold appendD
  rw [if_neg (by omega)]
  by_cases hfull : 128 * j - u < S.length
  · rw [if_pos hfull]; exact Or.inl ⟨hfull, rfl⟩
  · rw [if_neg hfull, if_neg (by rw [hd]; simp)]
    right
    have hc3 : fitCode d.stand.length j (u + S.length) = 0 := by
      unfold fitCode
      rw [if_neg (by omega)]
    by_cases h0 : S = []
    · subst h0
      rw [if_pos rfl]
      exact ⟨d, rfl, rfl, hd, rfl, hf, hc3, by simp⟩
    · rw [if_neg h0]
      have hl : 0 < S.length := List.length_pos_iff.2 h0
      obtain ⟨k, rfl⟩ := Int.eq_ofNat_of_zero_le c3
      rw [Int.toNat_natCast]
      have hpl : ((seen d (2 + k / 128)).take (k % 128)).length = k % 128 := by
        by_cases hr : k % 128 = 0
        · rw [hr]; rfl
        · rw [List.length_take, seen_len hf (by omega)]; omega
      obtain ⟨W, hW⟩ : ∃ W, W = (seen d (2 + k / 128)).take (k % 128) ++ S := ⟨_, rfl⟩
      have hWl : W.length = k % 128 + S.length := by rw [hW, List.length_append, hpl]
      obtain ⟨d', e1, e2, e3, e4, e5, e6, e7⟩ := app_ok _ d (2 + k / 128) W (Nat.le_refl _) hf hd hfu (by omega)
      rw [← hW]
      refine ⟨d', e1, e2, e3, e4, e5, hc3, ?_⟩
      have hc4 : fitCode d'.stand.length j ((k : Int) + S.length) = 0 := by rw [e2]; exact hc3
      have hsum : ((k : Int) + S.length) = ((k + S.length : Nat) : Int) := by omega
      unfold loadL
      rw [if_pos (load_ok hc4 e3), if_pos (load_ok hc hd), hsum, Int.toNat_natCast, Int.toNat_natCast, load_split hf k (by rw [need_nat]; omega), need_nat]
      have hm : (k + S.length + 127) / 128 = k / 128 + (W.length + 127) / 128 := by omega
      rw [hm, readsL_from, readsFrom_chunks d' _ (2 + k / 128) W (fun i hi => e7 i (by omega)), readsL_same (k / 128) (fun i hi => e6 _ (by omega))]
      have hrl := readsL_len hf (k / 128) (by omega)
      rw [List.take_append, hrl, List.take_of_length_le (by rw [hrl]; omega), show k + S.length - 128 * (k / 128) = W.length from by omega, chunksL_take _ _ (by omega), hW, List.append_assoc]
theorem load_flush {d : DK} (hd : d.down = false) (hfu : d.fuse < 0) (j u : Int) (hc : fitCode d.stand.length j u = 0) : fCode d = 0 ∧ loadL (powerD (fNext d) []) j u = loadL d j u ∧ loadCode (powerD (fNext d) []) j u = 0 := by
  have hn : fNext d = settleD (opD d) (fun _ => true) := by
    unfold fNext
    rw [if_neg (by rw [hd]; simp), if_neg (by omega)]
  have hs : ∀ i, i < d.stand.length → seen (powerD (fNext d) []) i = seen d i := fun i hi => by
    rw [hn]
    exact seen_settle (opD d) i hi
  have hl : (powerD (fNext d) []).stand.length = d.stand.length := by
    rw [power_len, hn, settle_len]; rfl
  have hc2 : fitCode (powerD (fNext d) []).stand.length j u = 0 := by rw [hl]; exact hc
  refine ⟨?_, ?_, load_ok hc2 rfl⟩
  · unfold fCode
    rw [if_neg (by rw [hd]; simp), if_neg (by omega)]
  · obtain ⟨c1, c2, c3, c4⟩ := fit_ok hc
    obtain ⟨k, rfl⟩ := Int.eq_ofNat_of_zero_le c3
    unfold loadL
    rw [if_pos (load_ok hc2 rfl), if_pos (load_ok hc hd)]
    rw [readsL_same _ (fun i hi => hs _ (by rw [need_nat] at hi; omega))]
end Go.Proofs.Ytegbekeopgponaa

/- Layer 13 (journal): the page's example. -/
namespace Go.Proofs.Ytegbekeopgponaa
open Go.RowKit
set_option linter.unusedVariables false
set_option linter.unusedSimpArgs false

def r7 : JRec := ⟨4, 7, [], 0, []⟩
theorem r7_may : mayR r7 = true := by decide
theorem r7_fits : r7.fits := ⟨by decide, by decide, Nat.zero_le _, by decide⟩
theorem r7_body : bodyL [r7] = [1, 0, 4, 7, 0, 0, 0] := by decide
theorem r7_tx : txCode [r7] = 0 ∧ txOut [r7] = txL [r7] := tx_yes (by decide) (fun j hj => by
  have : j = 0 := by simp at hj; exact hj
  subst this
  exact r7_may)
theorem r7_bytes : ∃ c0 c1 c2 c3 : UInt8, txL [r7] = [7, 0, 0, 0, c0, c1, c2, c3, 1, 0, 4, 7, 0, 0, 0] := by
  unfold txL
  rw [r7_body]
  generalize crc [1, 0, 4, 7, 0, 0, 0] = c
  exact ⟨UInt8.ofNat c, UInt8.ofNat (c / 256), UInt8.ofNat (c / 256 / 256), UInt8.ofNat (c / 256 / 256 / 256), rfl⟩
theorem r7_read : readO (txL [r7]) = some [[r7]] := by
  have := readO_lay [[r7]] (fun l hl => by
    have : l = [r7] := by simpa using hl
    subst this
    exact ⟨fun r hr => by
      have : r = r7 := by simpa using hr
      subst this
      exact ⟨r7_may, r7_fits⟩, by decide, by decide⟩)
  simpa using this
theorem r7_in {w : World} {b : Nat} (o : Own w b #[.int .i64 4, .int .u32 7, .string { data := #[] }, .int .i64 0, .slice none 0 0] 50) : RecsIn w (.slice (some ⟨b, 0, none⟩) 1 1) [r7] 0 w.heap.size := by
  refine Or.inr ⟨b, 0, 1, rfl, fun i hi => ?_, Nat.zero_le _, o.lt, Nat.le_refl _, by simp, by simp, by unfold maxLen; omega⟩
  have hi0 : i = 0 := by simpa using hi
  subst hi0
  refine ⟨[.int .i64 4, .int .u32 7, .string { data := #[] }, .int .i64 0, .slice none 0 0], rfl, ⟨.slice none 0 0, rfl, Or.inl ⟨rfl, none, 0, rfl⟩, r7_fits⟩, fun j u hj => ?_⟩
  have hj5 : j < 5 := by have := (List.getElem?_eq_some_iff.1 hj).1; simpa using this
  rw [Nat.zero_mul, Nat.zero_add, Nat.zero_add, o.cell j (by simpa using hj5)]
  have h2 := (List.getElem?_eq_some_iff.1 hj).2
  rw [← h2]; rfl
set_option maxRecDepth 100000 in
set_option maxHeartbeats 4000000 in
theorem jawake (w : World) : Calls Try.prog 9 #[] w fun e w' => e = .returned (.bool true) ∧ Kept [] w w' := by
  have o0 := Own.new w #[.int .i64 4, .int .u32 7, .string { data := #[] }, .int .i64 0, .slice none 0 0] 50
  have hin := r7_in o0
  have htx := jtx _ [r7] _ _ _ hin (by decide) (fun r hr => by
    have : r = r7 := by simpa using hr
    subst this; decide)
  unfold TxSays at htx
  rw [r7_tx.1, r7_tx.2] at htx
  have hnew := fun W => aNew 5 W (by omega) (by omega)
  have hfit : fitCode (newD (List.replicate 5 zeroS)).stand.length 2 0 = 0 := by decide
  obtain ⟨c0, c1, c2, c3, hT⟩ := r7_bytes
  have hlen : (txL [r7]).length = 15 := by rw [hT]; rfl
  have hr := fun W => jread (txL [r7]) W (by rw [hlen]; omega)
  unfold ReadSays at hr
  rw [r7_read] at hr
  have hap := behind_plain (Fit.new 5) (rfl) (by decide) (txL [r7]) hfit
  have hl0 : loadL (newD (List.replicate 5 zeroS)) 2 0 = [] := List.eq_nil_of_length_eq_zero (by have := load_len (Fit.new 5) hfit rfl; omega)
  rcases hap with ⟨hap, _⟩ | ⟨d', e1, e2, e3, e4, e5, e6, e7⟩
  · rw [hlen] at hap; omega
  · rw [hl0, hlen, List.nil_append] at e7
    rw [hlen] at e6
    have e8 : loadCode d' 2 15 = 0 := load_ok (by rw [e2]; exact e6) e3
    have hsz : (bs (txL [r7])).size = 15 := by rw [bs_size, hlen]
    have hapc := fun W0 W b sb mb lo (h : Alone W0 W b sb mb lo (newD (List.replicate 5 zeroS))) => jappend (aloneOps W0 b sb mb lo) h 2 0 (txL [r7]) (by decide) (by decide) (by rw [hlen]; omega) (by decide) (by decide)
    unfold AppSays appendN at hapc
    rw [e1] at hapc
    rw [hlen] at hapc
    have hldc := fun W0 W b sb mb lo (h : Alone W0 W b sb mb lo d') => jloadG (aloneOps W0 b sb mb lo) h 2 15 (by decide) (by decide)
    have e7' : loadL d' 2 15 = txL [r7] := e7
    rw [e7', e8] at hldc
    rw [hT] at htx hr hapc hldc hsz
    generalize hTT : bs [7, 0, 0, 0, c0, c1, c2, c3, 1, 0, 4, 7, 0, 0, 0] = T at *
    have g0 : T[0]'(by omega) = 7 := by subst hTT; rfl
    have g8 : T[8]'(by omega) = 1 := by subst hTT; rfl
    have g10 : T[10]'(by omega) = 4 := by subst hTT; rfl
    have g11 : T[11]'(by omega) = 7 := by subst hTT; rfl
    have HTX := Lib.hid htx
    have HN := Lib.hid hnew
    have HA := Lib.hid hapc
    have HL := Lib.hid hldc
    have HR := Lib.hid hr
    clear htx hnew hapc hldc hr hin hfit e1 e2 e3 e4 e5 e6 e7 e7' e8 hl0 hT hTT
    go_enter Try.func9, Try.ntmps9
    go_wp2_with fail
    refine HTX.out.mono ?_; rintro e w1 ⟨rfl, hk1⟩
    have hk1' : Kept [] w w1 := ((Kept.refl _ _).alloc _).trans hk1
    clear HTX o0 hk1
    go_wp2_with fail
    refine (HN.out _).mono ?_; rintro e w2 ⟨b, sb, mb, lo, rfl, hAl⟩
    have HAL := Lib.hid hAl
    clear hAl HN
    go_wp2_with fail
    refine (HA.out _ _ _ _ _ _ HAL.out).mono ?_; rintro e w3 ⟨rfl, hAl⟩
    have HAL3 := Lib.hid hAl
    clear hAl HA HAL
    go_wp2_with fail
    refine (HL.out _ _ _ _ _ _ HAL3.out).mono ?_; rintro e w' ⟨rfl, rfl⟩
    have hk3 : Kept [] w w3 := hk1'.trans HAL3.out.kept
    clear HL HAL3
    go_wp2_with fail
    refine (HR.out _).mono ?_; rintro e w4 ⟨hc, hk4⟩
    clear HR
    rcases hc with ⟨ls, v, hls, hrow, rfl⟩ | ⟨hno, _⟩
    · have hls : [[r7]] = ls := by injection hls
      subst hls
      have hi := hrow.in_
      obtain ⟨p, c, rfl⟩ := hrow.shape
      obtain ⟨g, off, kv, lo1, hi1, rfl, q0, hrec, _, _, _⟩ := hi.at_ 0 (by decide)
      obtain ⟨p2, c2', rfl⟩ := hrec.shape
      obtain ⟨g2, off2, kv2, rfl, x0, x1, x2, x3, x4, _, _, _, _, _⟩ := hrec.at_ 0 (by decide)
      have x1' : w4.cell? ⟨g2, off2 + 1, none⟩ = some (.int .u32 7) := x1
      have q0' : w4.cell? ⟨g, off, none⟩ = some (.slice (some ⟨g2, off2, none⟩) 1 c2') := q0
      clear x0 x1 x2 x3 x4 q0 hrec hi hrow
      have hkk := hk3.trans hk4
      go_wp2_with fail
      go_ret
      exact ⟨rfl, hkk⟩
    · cases hno
end Go.Proofs.Ytegbekeopgponaa
