/- Walk of the document's disk (layer 9): bytes that stand are changed. -/
import Derived.Test.YtkhbobjfmedimaaD24
namespace Go.Proofs.Ytkhbobjfmedimaa
open Go.RowKit Go.Maps
set_option linter.unusedVariables false
set_option linter.unusedSimpArgs false

theorem flat_get (l : List (List UInt8)) (h : ∀ s ∈ l, s.length = 128) (i p : Nat) (hi : i < l.length) (hp : p < 128) : l.flatten[128 * i + p]? = (l[i])[p]? := by
  induction l generalizing i with
  | nil => simp at hi
  | cons x l ih =>
    have hx := h x (List.mem_cons_self)
    rw [List.flatten_cons]
    cases i with
    | zero => rw [Nat.mul_zero, Nat.zero_add, List.getElem?_append_left (by omega)]; rfl
    | succ i =>
      rw [List.getElem?_append_right (by omega)]
      have e : 128 * (i + 1) + p - x.length = 128 * i + p := by omega
      rw [e, ih (fun s hs => h s (List.mem_cons_of_mem _ hs)) i (by simpa using hi)]
      rfl
theorem flat_set (l : List (List UInt8)) (h : ∀ s ∈ l, s.length = 128) (i p : Nat) (v : UInt8) (hi : i < l.length) (hp : p < 128) : (l.set i ((l[i]).set p v)).flatten = l.flatten.set (128 * i + p) v := by
  induction l generalizing i with
  | nil => simp at hi
  | cons x l ih =>
    have hx := h x (List.mem_cons_self)
    cases i with
    | zero =>
      show ((x.set p v) :: l).flatten = _
      rw [List.flatten_cons, List.flatten_cons, List.set_append_left _ _ (by omega), Nat.mul_zero, Nat.zero_add]
    | succ i =>
      have e1 : (x :: l).set (i + 1) (((x :: l)[i + 1]).set p v) = x :: l.set i ((l[i]'(by simpa using hi)).set p v) := rfl
      rw [e1, List.flatten_cons, List.flatten_cons, ih (fun s hs => h s (List.mem_cons_of_mem _ hs)) i (by simpa using hi), List.set_append_right _ _ (by omega)]
      have e : 128 * (i + 1) + p - x.length = 128 * i + p := by omega
      rw [e]
/-- the first k bytes of 'by' laid by xor over an image, from 'at' on. -/
def xorTo (l : List UInt8) (a : Nat) (by_ : List UInt8) : Nat → List UInt8
  | 0 => l
  | k + 1 => (xorTo l a by_ k).set (a + k) ((xorTo l a by_ k).getD (a + k) 0 ^^^ by_.getD k 0)
theorem xorTo_len (l : List UInt8) (a : Nat) (by_ : List UInt8) (k : Nat) : (xorTo l a by_ k).length = l.length := by
  induction k with
  | zero => rfl
  | succ k ih => unfold xorTo; rw [List.length_set, ih]
theorem spoil_flat (l : List (List UInt8)) (a : Nat) (by_ : List UInt8) (h : ∀ s ∈ l, s.length = 128) (k : Nat) (hk : a + k ≤ 128 * l.length) : (spoilTo l a by_ k).flatten = xorTo l.flatten a by_ k := by
  induction k with
  | zero => rfl
  | succ k ih =>
    have hall := spoilTo_all l a by_ k h (by omega)
    have hq : (a + k) / 128 < (spoilTo l a by_ k).length := by rw [spoilTo_len]; omega
    have hr : (a + k) % 128 < 128 := Nat.mod_lt _ (by omega)
    have he : 128 * ((a + k) / 128) + (a + k) % 128 = a + k := by omega
    have e1 : (spoilTo l a by_ k).getD ((a + k) / 128) [] = (spoilTo l a by_ k)[(a + k) / 128] := by rw [List.getD_eq_getElem?_getD, List.getElem?_eq_getElem hq]; rfl
    have e2 := flat_get (spoilTo l a by_ k) hall ((a + k) / 128) ((a + k) % 128) hq hr
    rw [he] at e2
    have e3 := flat_set (spoilTo l a by_ k) hall ((a + k) / 128) ((a + k) % 128) ((((spoilTo l a by_ k)[(a + k) / 128]).getD ((a + k) % 128) 0) ^^^ by_.getD k 0) hq hr
    rw [he] at e3
    rw [spoilTo, e1, e3, ih (by omega), xorTo]
    congr 2
    rw [List.getD_eq_getElem?_getD, List.getD_eq_getElem?_getD, ← e2, ih (by omega)]
theorem spoil_cut (l : List (List UInt8)) (a : Nat) (by_ : List UInt8) (h : ∀ s ∈ l, s.length = 128) (hk : a + by_.length ≤ 128 * l.length) : (List.range l.length).map (cutS (xorTo l.flatten a by_ by_.length)) = spoilTo l a by_ by_.length := by
  rw [← spoil_flat l a by_ h by_.length hk]
  have hall := spoilTo_all l a by_ by_.length h hk
  apply List.ext_getElem
  · rw [List.length_map, List.length_range, spoilTo_len]
  · intro i h1 h2
    rw [List.getElem_map, List.getElem_range]
    exact cut_flat _ hall i h2
theorem qSpoil_no (r lo : Nat) (d : DK) (i : Int) (s : ByteArray) (w : World) (h : RAt w r lo d) (hal : ∀ x ∈ d.stand, x.length = 128) (hs : s.size ≤ 1000000) (hi : (Lit.int .i64 i).wf = true) (hno : ¬ (0 ≤ i ∧ i + s.size ≤ 128 * d.stand.length)) : Calls Try.prog 38 #[.pointer (some ⟨r, 0, none⟩), .int .i64 i, .string s] w fun e w' => e = .returned (.int .i64 5) ∧ w = w' := by
  obtain ⟨p, c, p', c', c0, c1, c2, c3, c4, hsr, hwr, h1, h2, h3, h4, h5⟩ := h.five
  have him := qImage r lo d w h (fun s hs => by rw [hal s hs]; omega)
  have hz : (bs d.stand.flatten).size = 128 * d.stand.length := by rw [bs_size, flat_len _ hal]
  have HI := Lib.hid him
  clear him h hsr hwr hal
  generalize bs d.stand.flatten = F at *
  generalize d.stand.length = n at *
  have hcs : i < 0 ∨ (0 ≤ i ∧ 128 * (n : Int) < s.size) ∨ (0 ≤ i ∧ (s.size : Int) ≤ 128 * (n : Int) ∧ 128 * (n : Int) - s.size < i) := by omega
  have q1 : ((128 * n : Nat) : Int) = 128 * (n : Int) := by omega
  clear hno
  rcases hcs with g1 | ⟨g1, g2⟩ | ⟨g1, g2, g3⟩
  all_goals
    go_enter Try.func38, Try.ntmps38
    go_wp2_with fail
    refine HI.out.mono ?_; rintro e w' ⟨rfl, rfl⟩
    go_wp2_with fail
    go_ret
    exact ⟨rfl, rfl⟩
set_option maxRecDepth 100000 in
set_option maxHeartbeats 2000000 in
theorem qSpoil (r lo : Nat) (d : DK) (a : Nat) (s : List UInt8) (w : World) (h : RAt w r lo d) (hal : ∀ x ∈ d.stand, x.length = 128) (hs : a + s.length ≤ 128 * d.stand.length) : Calls Try.prog 38 #[.pointer (some ⟨r, 0, none⟩), .int .i64 a, .string (bs s)] w fun e w' => e = .returned (.int .i64 0) ∧ RAt w' r lo (spoilD d a s) ∧ Kept [r] w w' := by
  obtain ⟨p, c, p', c', c0, c1, c2, c3, c4, hsr, hwr, h1, h2, h3, h4, h5⟩ := h.five
  obtain ⟨sv, wv, o⟩ := h.own
  have rlt := o.lt
  have him := qImage r lo d w h (fun s hs => by rw [hal s hs]; omega)
  have hfl := flat_len _ hal
  have hz : (bs d.stand.flatten).size = 128 * d.stand.length := by rw [bs_size, hfl]
  have hzs : (bs s).size = s.length := bs_size s
  have q1 : ((128 * d.stand.length : Nat) : Int) = 128 * (d.stand.length : Int) := by omega
  have i1 : (a : Int) ≤ 128 * d.stand.length - s.length := by omega
  have i2 : (s.length : Int) ≤ 128 * d.stand.length := by omega
  have i3 : (s.length : Int) ≤ 1048576 := by omega
  have i4 : (a : Int) ≤ 1048576 := by omega
  have hcut := spoil_cut d.stand a s hal hs
  have hxl : ∀ k, (xorTo d.stand.flatten a s k).length = 128 * d.stand.length := fun k => by rw [xorTo_len, hfl]
  have hxs : ∀ k, (hk : k < s.length) → ∃ x y : UInt8, (xorTo d.stand.flatten a s k)[a + k]? = some x ∧ (bs s)[k]'(by rw [bs_size]; exact hk) = y ∧ xorTo d.stand.flatten a s (k + 1) = (xorTo d.stand.flatten a s k).set (a + k) (x ^^^ y) := fun k hk => by
    have hl : a + k < (xorTo d.stand.flatten a s k).length := by rw [hxl]; omega
    refine ⟨_, _, List.getElem?_eq_getElem hl, rfl, ?_⟩
    have e1 : (xorTo d.stand.flatten a s k).getD (a + k) 0 = (xorTo d.stand.flatten a s k)[a + k] := by rw [List.getD_eq_getElem?_getD, List.getElem?_eq_getElem hl]; rfl
    have e2 : s.getD k 0 = (bs s)[k]'(by rw [bs_size]; exact hk) := by rw [List.getD_eq_getElem?_getD, List.getElem?_eq_getElem hk]; rfl
    rw [xorTo, e1, e2]
  have hload := fun W => qLoad (xorTo d.stand.flatten a s s.length) d.stand.length W (hxl _) h1 h2
  rw [hcut] at hload
  have hfin : ∀ W g c, Kept [r] w W → W.ownsRow lo 9 1 (.slice (some ⟨g, 0, none⟩) d.stand.length c) d.stand.length (svals (spoilTo d.stand a s s.length)) → (∀ v0 v1, Own w r #[v0, v1, .int .i64 d.fuse, .int .i64 d.ops, .bool d.down] 67 → Own W r #[.slice (some ⟨g, 0, none⟩) d.stand.length c, v1, .int .i64 d.fuse, .int .i64 d.ops, .bool d.down] 67) → RAt W r lo (spoilD d a s) := by
    intro W g c k hv ho2
    obtain ⟨sv, wv, o, hs, hw, h1, h2, h3, h4, h5, h6, h7⟩ := h
    refine ⟨_, wv, ho2 _ _ o, ?_, ownsRow_keptO hw k o (by decide), Nat.le_trans h1 k.size, h2, ?_, ?_, h5, h6, h7⟩
    · show W.ownsRow lo _ 1 _ (spoilTo d.stand a s s.length).length (svals (spoilTo d.stand a s s.length))
      rw [spoilTo_len]
      exact hv
    · show 1 ≤ (spoilTo d.stand a s s.length).length
      rw [spoilTo_len]; exact h3
    · show (spoilTo d.stand a s s.length).length ≤ 8192
      rw [spoilTo_len]; exact h4
  obtain ⟨wb, cap, hconv, hB, kB⟩ := conv_bytes d.stand.flatten w
  rw [hfl] at hconv
  have HI := Lib.hid him
  have HFIN := Lib.hid hfin
  have HXL := Lib.hid hxl
  have HXS := Lib.hid hxs
  have HLOAD := Lib.hid hload
  have HB := Lib.hid hB
  clear him hal hfin hcut hxl hxs hload hB hs h hsr hwr hfl
  go_enter Try.func38, Try.ntmps38
  go_wp2_with fail
  refine HI.out.mono ?_; rintro e w' ⟨rfl, rfl⟩
  go_wp2_with fail
  go_loopw [9] (fun i wr => ∃ k : Nat, k ≤ s.length ∧ i = .int .i64 k ∧ BytesAt wr w.heap.size (xorTo d.stand.flatten a s k) ∧ Kept [] w wr) (fun i _ => s.length - (intOf i).toNat)
  case atStart => exact ⟨0, by omega, rfl, HB.out, kB⟩
  case round =>
    obtain ⟨k, hk, rfl, hX, hK⟩ := hrel
    by_cases hlt : k < s.length
    · obtain ⟨x, y, hx1, hx2, hx3⟩ := HXS.out k hlt
      have hl : a + k < (xorTo d.stand.flatten a s k).length := (List.getElem?_eq_some_iff.1 hx1).1
      have hcx := hX.cell (a + k) hl
      have hfx := hX.free (a + k) hl
      have hx4 : (xorTo d.stand.flatten a s k)[a + k] = x := (List.getElem?_eq_some_iff.1 hx1).2
      rw [hx4] at hcx
      have hset := hX.set (a + k) hl (x ^^^ y)
      rw [← hx3] at hset
      have e1 := u8_xor_val x y
      have hkf := hK.setCell (p := ⟨w.heap.size, a + k, none⟩) (Or.inr (Nat.le_refl _)) (.int .u8 (((x ^^^ y).toNat : Nat) : Int))
      have HSET := Lib.hid hset
      have HLT := Lib.hid hlt
      have i5 : (a : Int) + k < 128 * d.stand.length := by omega
      have i6 : (k : Int) < s.length := by omega
      have t1 : ((a : Int) + k).toNat = a + k := by omega
      have hgl := hX.lt
      clear hx1 hx3 hx4 hset hX
      generalize x ^^^ y = z at *
      have wx : IntKind.i64.wrap ((a : Int) + k) = (a : Int) + k := IntWalk.i64_in _ (by omega)
      go_wp2_with fail
      go_region
      all_goals
        clear wx
        go_wp2_with fail
        go_roundw
        case rel => exact ⟨k + 1, HLT.out, by go_num, HSET.out.drew, hkf.drew⟩
        case measure => (have hh := HLT.out; simp [intOf]; omega)
    · obtain rfl : k = s.length := by omega
      have hct := conv_text_n _ (128 * d.stand.length) w.heap.size cap _ hX (HXL.out _)
      have hl2 := HLOAD.out wr
      have hor := hK.own o (by simp)
      have HL2 := Lib.hid hl2
      clear hl2 hX HXL HXS
      generalize xorTo d.stand.flatten a s s.length = XX at *
      go_wp2_with fail
      refine HL2.out.mono ?_; rintro e w2 ⟨rfl, hR2, k2⟩
      obtain ⟨p5, c5, p6, c6, x0, x1, x2, x3, x4, hs2, _, _⟩ := hR2.five
      have el : (newD (spoilTo d.stand a s s.length)).stand.length = d.stand.length := spoilTo_len _ _ _ _
      obtain ⟨g5, cc5, eg, hg1, _, _, _, _⟩ := ownsRow_at hs2 (by rw [el]; exact h1)
      injection eg with eg _ ecc
      subst eg ecc
      rw [el] at hs2 x0
      have ho2 := k2.own hor (by simp)
      have zr := ho2.free 0
      have z0 : ∃ u, w2.cell? ⟨r, 0, none⟩ = some u := ⟨_, ho2.cell 0 (by simp)⟩
      obtain ⟨u0, z0⟩ := z0
      have kk := ((hK.trans k2).mono (T := [r]) (by simp)).setCell (p := ⟨r, 0, none⟩) (Or.inl (by simp)) (.slice (some ⟨g5, 0, none⟩) d.stand.length c5)
      have hrow := ownsRow_other hs2 (p := ⟨r, 0, none⟩) (own_row_ne hs2 ho2 (by decide)) (.slice (some ⟨g5, 0, none⟩) d.stand.length c5)
      have hR := HFIN.out _ g5 c5 kk (ownsRow_base hrow (by have := hK.size; omega)) (fun v0 v1 o => (k2.own (hK.own o (by simp)) (by simp)).set 0 _)
      have HR0 := Lib.hid hR
      have hne : wr.heap.size ≠ r := by have := hK.size; omega
      clear hR hrow hs2 hR2 el
      go_wp2_with fail
      go_ret
      exact ⟨rfl, HR0.out, kk⟩
end Go.Proofs.Ytkhbobjfmedimaa
