/- Walk of layer 9 (disk): bytes that stand are changed. -/
import Derived.Test.YtkhbobjfmedimaaD23
import Derived.Laws.BitsAllLaws
namespace Go.Proofs.Ytkhbobjfmedimaa
open Go.RowKit Go.Maps
set_option linter.unusedVariables false
set_option linter.unusedSimpArgs false

/-- block g holds bytes of the call's own, the first of them l's. -/
def BytesAt (w : World) (g : Nat) (l : List UInt8) : Prop :=
  ∃ cs fr, w.heap[g]? = some (.cells cs 5 fr) ∧ l.length ≤ cs.size ∧ (fr.2 = 0 ∨ cs.size ≤ fr.1) ∧ ∀ j (h : j < l.length), cs[j]? = some (.int .u8 (l[j].toNat : Int))
section
variable {w w' : World} {g : Nat} {l : List UInt8}
theorem BytesAt.lt (h : BytesAt w g l) : g < w.heap.size := by obtain ⟨cs, fr, h1, _⟩ := h; exact lt_of_block h1
theorem BytesAt.cell (h : BytesAt w g l) (j : Nat) (hj : j < l.length) : w.cell? ⟨g, j, none⟩ = some (.int .u8 (l[j].toNat : Int)) := by
  obtain ⟨cs, fr, h1, h2, h3, h4⟩ := h
  have := h4 j hj
  simp [World.cell?, h1, this]
theorem BytesAt.free (h : BytesAt w g l) (j : Nat) (hj : j < l.length) : w.frozen? ⟨g, j, none⟩ = false := by
  obtain ⟨cs, fr, h1, h2, h3, h4⟩ := h
  simp [World.frozen?, h1]
  omega
theorem BytesAt.drew (h : BytesAt w g l) : BytesAt w.drew g l := h
theorem BytesAt.kept {S : List Nat} (h : BytesAt w g l) (k : Kept S w w') (hS : g ∉ S) : BytesAt w' g l := by
  obtain ⟨cs, fr, h1, r⟩ := h
  exact ⟨cs, fr, (k.block g (lt_of_block h1) hS).trans h1, r⟩
theorem BytesAt.set (h : BytesAt w g l) (j : Nat) (hj : j < l.length) (c : UInt8) : BytesAt (w.setCell ⟨g, j, none⟩ (.int .u8 (c.toNat : Int))) g (l.set j c) := by
  obtain ⟨cs, fr, h1, h2, h3, h4⟩ := h
  refine ⟨cs.setIfInBounds j (.int .u8 (c.toNat : Int)), fr, ?_, by simpa using h2, by simpa using h3, fun i hi => ?_⟩
  · simp [World.setCell, Array.getElem?_modify, h1]
  · have hi' : i < l.length := by simpa using hi
    by_cases e : j = i
    · subst e
      rw [Array.getElem?_setIfInBounds_self_of_lt (by omega)]
      simp
    · rw [Array.getElem?_setIfInBounds_ne e, h4 i hi']
      simp [List.getElem_set_ne e]
theorem BytesAt.bytes (h : BytesAt w g l) : Lib.Bytes w g 0 (bs l) := by
  intro i hi
  have hi' : i < l.length := by rw [← bs_size]; exact hi
  rw [Nat.zero_add, h.cell i hi']
  rfl
end
/-- a text made bytes. -/
theorem conv_bytes (l : List UInt8) (w : World) : ∃ w' cap, (convert 9 63 (.string (bs l))).run Try.prog w = .ok (.slice (some ⟨w.heap.size, 0, none⟩) l.length cap) w' ∧ BytesAt w' w.heap.size l ∧ Kept [] w w' := by
  have h := Lib.run_convert_string_bytes (P := Try.prog) w 9 63 5 (bs l) Try.underlying9 Try.underlying63 Try.underlying5
  rw [bs_size] at h
  refine ⟨_, _, h, ⟨_, _, Lib.bytesWorld_at_new _ _ _, ?_, Or.inr (Nat.le_refl _), fun j hj => ?_⟩, ⟨rfl, rfl, rfl, ?_, fun k hk _ => Lib.bytesWorld_at_old _ _ _ k hk⟩⟩
  · unfold Lib.bytesCells
    rw [Array.size_append]
    simp [bs]
  · unfold Lib.bytesCells
    rw [Array.getElem?_append_left (by simp [bs]; exact hj)]
    simp [bs, hj]
  · rw [Lib.bytesWorld_size]; omega
/-- bytes made a text. -/
theorem conv_text (l : List UInt8) (g cap : Nat) (w : World) (h : BytesAt w g l) : (convert 63 9 (.slice (some ⟨g, 0, none⟩) l.length cap)).run Try.prog w = .ok (.string (bs l)) w := by
  have h2 := Lib.run_convert_whole (P := Try.prog) w 63 5 9 Try.underlying63 Try.underlying5 Try.underlying9 g 0 (bs l) h.bytes cap
  rw [bs_size] at h2
  exact h2
theorem conv_text_n (l : List UInt8) (n g cap : Nat) (w : World) (h : BytesAt w g l) (hn : l.length = n) : (convert 63 9 (.slice (some ⟨g, 0, none⟩) n cap)).run Try.prog w = .ok (.string (bs l)) w := by subst hn; exact conv_text l g cap w h
/-- the first k bytes of 'by' laid by xor over what stands, from 'at' on. -/
def spoilTo (l : List (List UInt8)) (a : Nat) (by_ : List UInt8) : Nat → List (List UInt8)
  | 0 => l
  | k + 1 => (spoilTo l a by_ k).set ((a + k) / 128) (((spoilTo l a by_ k).getD ((a + k) / 128) []).set ((a + k) % 128) ((((spoilTo l a by_ k).getD ((a + k) / 128) []).getD ((a + k) % 128) 0) ^^^ by_.getD k 0))
theorem spoilTo_len (l : List (List UInt8)) (a : Nat) (by_ : List UInt8) (k : Nat) : (spoilTo l a by_ k).length = l.length := by
  induction k with
  | zero => rfl
  | succ k ih => unfold spoilTo; rw [List.length_set, ih]
theorem spoilTo_all (l : List (List UInt8)) (a : Nat) (by_ : List UInt8) (k : Nat) (h : ∀ s ∈ l, s.length = 128) (hk : a + k ≤ 128 * l.length) : ∀ s ∈ spoilTo l a by_ k, s.length = 128 := by
  induction k with
  | zero => exact h
  | succ k ih =>
    intro s hs
    unfold spoilTo at hs
    rcases List.mem_or_eq_of_mem_set hs with hs | hs
    · exact ih (by omega) s hs
    · have hi : (a + k) / 128 < (spoilTo l a by_ k).length := by rw [spoilTo_len]; omega
      rw [hs, List.length_set, List.getD_eq_getElem?_getD, List.getElem?_eq_getElem hi]
      exact ih (by omega) _ (List.getElem_mem _)
theorem DiskAt.stands {w w' : World} {b sb mb lo : Nat} {d : DK} (h : DiskAt w b sb mb lo d) (k : Kept [sb] w w') (l : List (List UInt8)) (hl : l.length = d.stand.length) (o : Own w' sb (scells l) 9) : DiskAt w' b sb mb lo ⟨l, d.waits, d.fuse, d.ops, d.down⟩ := by
  obtain ⟨wv, n, ob, os, hwr, hm, hn, h2, h3, h4, h5, h6, h7, h8, r⟩ := h
  exact ⟨wv, n, by show Own _ _ #[.slice (some ⟨sb, 0, none⟩) l.length l.length, _, _, _, _, _] _; rw [hl]; exact k.own ob (by simp; omega), o, ownsRow_kept hwr k (by simp; omega), hm.kept k (by simp; omega), hn, h2, h3, h4, h5, Nat.le_trans h6 k.size, by show 1 ≤ l.length; rw [hl]; exact h7, by show l.length ≤ 8192; rw [hl]; exact h8, r⟩
def spoilD (d : DK) (a : Nat) (by_ : List UInt8) : DK := ⟨spoilTo d.stand a by_ by_.length, d.waits, d.fuse, d.ops, d.down⟩
theorem u8_xor_val (a b : UInt8) : bits .xor .u8 (a.toNat : Int) (b.toNat : Int) = (((a ^^^ b).toNat : Nat) : Int) := by
  rw [u8_xor_nat _ _ a.toNat_lt b.toNat_lt, UInt8.toNat_xor]
theorem dSpoil_no (b sb mb lo : Nat) (d : DK) (i : Int) (s : ByteArray) (w : World) (h : DiskAt w b sb mb lo d) (hs : s.size ≤ 1000000) (hi : (Lit.int .i64 i).wf = true) (hno : ¬ (0 ≤ i ∧ i + s.size ≤ 128 * d.stand.length)) : Calls Try.prog 25 #[.pointer (some ⟨b, 0, none⟩), .int .i64 i, .string s] w fun e w' => e = .returned (.int .i64 5) ∧ w = w' := by
  obtain ⟨p, c, c0, c1, c2, c3, c4, c5, h1, h2, h3⟩ := h.six
  have hne : ((d.stand.length : Int) == 0) = false := by rw [beq_eq_false_iff_ne]; omega
  clear h
  generalize d.stand.length = n at *
  have hcs : i < 0 ∨ (0 ≤ i ∧ 128 * (n : Int) < i) ∨ (0 ≤ i ∧ i ≤ 128 * (n : Int) ∧ 128 * (n : Int) - i < s.size) := by omega
  clear hno
  rcases hcs with g1 | ⟨g1, g2⟩ | ⟨g1, g2, g3⟩
  all_goals
    go_enter Try.func25, Try.ntmps25
    go_wp2_with fail
    go_ret
    exact ⟨rfl, rfl⟩
set_option maxRecDepth 100000 in
set_option maxHeartbeats 2000000 in
theorem dSpoil (b sb mb lo : Nat) (d : DK) (a : Nat) (s : List UInt8) (w : World) (h : DiskAt w b sb mb lo d) (hal : ∀ x ∈ d.stand, x.length = 128) (hs : a + s.length ≤ 128 * d.stand.length) : Calls Try.prog 25 #[.pointer (some ⟨b, 0, none⟩), .int .i64 a, .string (bs s)] w fun e w' => e = .returned (.int .i64 0) ∧ DiskAt w' b sb mb lo (spoilD d a s) ∧ Kept [sb] w w' := by
  obtain ⟨p, c, c0, c1, c2, c3, c4, c5, h1, h2, h3⟩ := h.six
  have hne : ((d.stand.length : Int) == 0) = false := by rw [beq_eq_false_iff_ne]; omega
  have hz : (bs s).size = s.length := bs_size s
  have i1 : (a : Int) ≤ 128 * d.stand.length := by omega
  have i2 : (s.length : Int) ≤ 128 * d.stand.length - a := by omega
  have i3 : (s.length : Int) ≤ 1048576 := by omega
  have i4 : (a : Int) ≤ 1048576 := by omega
  have hbsb : b ≠ sb := by obtain ⟨_, _, _, _, _, _, _, g2, _⟩ := h; omega
  have hblt : b < w.heap.size := by obtain ⟨_, _, o, _⟩ := h; exact o.lt
  have hos : Own w sb (scells d.stand) 9 := by obtain ⟨_, _, _, os, _⟩ := h; exact os
  have HD := Lib.hid h
  have HAL := Lib.hid hal
  have HS := Lib.hid hs
  clear h hal hs
  go_enter Try.func25, Try.ntmps25
  go_wp2_with fail
  go_loopw [45] (fun i wr => ∃ k : Nat, k ≤ s.length ∧ i = .int .i64 k ∧ Own wr sb (scells (spoilTo d.stand a s k)) 9 ∧ Kept [sb] w wr) (fun i _ => s.length - (intOf i).toNat)
  case atStart => exact ⟨0, by omega, rfl, hos, Kept.refl _ _⟩
  case round =>
    obtain ⟨k, hk, rfl, os, hK⟩ := hrel
    have x0 : wr.cell? ⟨b, 0, none⟩ = some (.slice (some ⟨sb, 0, none⟩) d.stand.length d.stand.length) := by rw [hK.cell (by exact hblt) (by simpa using hbsb)]; exact c0
    by_cases hlt : k < s.length
    · have hq : (a + k) / 128 < d.stand.length := by have := HS.out; omega
      have hrem : (a + k) % 128 < 128 := Nat.mod_lt _ (by omega)
      have hall := spoilTo_all d.stand a s k HAL.out (by have := HS.out; omega)
      have hql : (a + k) / 128 < (spoilTo d.stand a s k).length := by rw [spoilTo_len]; exact hq
      have hstep : spoilTo d.stand a s (k + 1) = (spoilTo d.stand a s k).set ((a + k) / 128) (((spoilTo d.stand a s k)[(a + k) / 128]).set ((a + k) % 128) (((spoilTo d.stand a s k)[(a + k) / 128].getD ((a + k) % 128) 0) ^^^ s[k])) := by
        have e1 : (spoilTo d.stand a s k).getD ((a + k) / 128) [] = (spoilTo d.stand a s k)[(a + k) / 128] := by rw [List.getD_eq_getElem?_getD, List.getElem?_eq_getElem hql]; rfl
        have e2 : s.getD k 0 = s[k] := by rw [List.getD_eq_getElem?_getD, List.getElem?_eq_getElem hlt]; rfl
        rw [spoilTo, e1, e2]
      have hsz : ((spoilTo d.stand a s k)[(a + k) / 128]).length = 128 := hall _ (List.getElem_mem _)
      have hcell : wr.cell? ⟨sb, (a + k) / 128, none⟩ = some (.string (bs (spoilTo d.stand a s k)[(a + k) / 128])) := by
        rw [← scells_get (spoilTo d.stand a s k) _ hql]
        exact os.cell _ (by simp [scells]; exact hql)
      have hby : ((bs s)[k]'(by rw [bs_size]; exact hlt)) = s[k] := rfl
      rw [← hby] at hstep
      have HST := Lib.hid hstep
      clear hstep hall
      generalize (spoilTo d.stand a s k)[(a + k) / 128] = sec at *
      obtain ⟨wb, cap, hconv, hB, kB⟩ := conv_bytes sec wr
      rw [hsz] at hconv
      have hcb := hB.cell ((a + k) % 128) (by omega)
      have hfb := hB.free ((a + k) % 128) (by omega)
      have hgl := hB.lt
      have os2 := kB.own os (by simp)
      have y0 : wb.cell? ⟨b, 0, none⟩ = some (.slice (some ⟨sb, 0, none⟩) d.stand.length d.stand.length) := by rw [kB.cell (by show b < _; have := hK.size; omega) (by simp)]; exact x0
      have hg : sec.getD ((a + k) % 128) 0 = sec[(a + k) % 128] := by rw [List.getD_eq_getElem?_getD, List.getElem?_eq_getElem (by omega)]; rfl
      have e1 := u8_xor_val (sec[(a + k) % 128]) ((bs s)[k]'(by rw [bs_size]; exact hlt))
      have hsl : (spoilTo d.stand a s k).length = d.stand.length := spoilTo_len _ _ _ _
      have hset := hB.set ((a + k) % 128) (by omega) (sec[(a + k) % 128] ^^^ (bs s)[k]'(by rw [bs_size]; exact hlt))
      have hct := conv_text_n _ 128 wr.heap.size cap _ hset.drew.drew (by rw [List.length_set, hsz])
      have kset : Kept [sb] w (wb.setCell ⟨wr.heap.size, (a + k) % 128, none⟩ (.int .u8 (((sec[(a + k) % 128] ^^^ (bs s)[k]'(by rw [bs_size]; exact hlt))).toNat : Int))) := (hK.trans (kB.mono (by simp))).setCell (p := ⟨wr.heap.size, (a + k) % 128, none⟩) (Or.inr hK.size) _
      have hsz2 : (spoilTo d.stand a s k).length = d.stand.length := spoilTo_len _ _ _ _
      have hnes : sb ≠ wr.heap.size := by have := os.lt; omega
      have hneb : b ≠ wr.heap.size := by have := hK.size; omega
      have os3 := os2.other (p := ⟨wr.heap.size, (a + k) % 128, none⟩) hnes (.int .u8 (((sec[(a + k) % 128] ^^^ (bs s)[k]'(by rw [bs_size]; exact hlt))).toNat : Int))
      have hsize : (a + k) / 128 < (scells (spoilTo d.stand a s k)).size := by simp [scells, hsl]; exact hq
      obtain ⟨u0, us0⟩ : ∃ u0, wb.cell? ⟨sb, (a + k) / 128, none⟩ = some u0 := ⟨_, os2.cell _ hsize⟩
      have zs := os2.free ((a + k) / 128)
      rw [hg] at HST
      have HOS := Lib.hid os3
      have HKS := Lib.hid kset
      have HLT := Lib.hid hlt
      have d1 : ((a : Int) + k) / 128 = (((a + k) / 128 : Nat) : Int) := by omega
      have d2 : ((a : Int) + k) % 128 = (((a + k) % 128 : Nat) : Int) := by omega
      have j1 : (((a + k) / 128 : Nat) : Int) < d.stand.length := by omega
      have j2 : (((a + k) % 128 : Nat) : Int) < 128 := by omega
      have j3 : (k : Int) < s.length := by omega
      have HY := Lib.hid hcell
      clear hg hset hB kB os os2 os3 kset hsl hsz2 hsize hql hby hcell
      generalize sec[(a + k) % 128] ^^^ (bs s)[k]'(by rw [bs_size]; exact hlt) = xv at *
      generalize sec[(a + k) % 128] = sv at *
      generalize (a + k) / 128 = q at *
      generalize (a + k) % 128 = r at *
      have hcell := HY.out
      clear HY hsz
      go_wp2_with fail
      go_region
      all_goals go_wp2_with fail
      go_region
      all_goals
        have hO : Own ((wb.setCell ⟨wr.heap.size, r, none⟩ (.int .u8 (xv.toNat : Int))).drew.setCell ⟨sb, q, none⟩ (.string (bs (sec.set r xv)))) sb (scells (spoilTo d.stand a s (k + 1))) 9 := by
          rw [HST.out, ← scells_set]
          exact (Own.drew HOS.out).set q _
        have hKK := (HKS.out.drew).setCell (p := ⟨sb, q, none⟩) (Or.inl (by simp)) (.string (bs (sec.set r xv)))
        have HOO := Lib.hid hO
        clear hO
        go_wp2_with fail
        go_roundw
        case rel => exact ⟨k + 1, HLT.out, by go_num, HOO.out.drew, hKK.drew⟩
        case measure => (have hh := HLT.out; simp [intOf]; omega)
    · obtain rfl : k = s.length := by omega
      have hD := DiskAt.stands HD.out hK (spoilTo d.stand a s s.length) (spoilTo_len _ _ _ _) os
      have HDD := Lib.hid hD
      clear hD os
      go_wp2_with fail
      go_ret
      exact ⟨rfl, HDD.out, hK⟩
end Go.Proofs.Ytkhbobjfmedimaa
