/- -/
import Derived.Test.YtdkimcnlhmhpgaaGreatH46
import Derived.Test.YtdkimcnlhmhpgaaGreatH49
set_option linter.unusedVariables false
set_option linter.unusedSimpArgs false
namespace Go.Proofs.YtdkimcnlhmhpgaaGreat
open Go.RowKit
theorem infoVCh : ∃ i, Tryz.prog.info? 34 = some i ∧ i.zero = some (.agg #[.int .i64 0, .int .u32 0, .string { data := #[] }, .string { data := #[] }]) ∧ i.size = 4 ∧ i.bytes = 48 := by
 have hi : (Tryz.prog.info? 34).map (fun i => (i.zero, i.size, i.bytes)) = some (some (.agg #[.int .i64 0, .int .u32 0, .string { data := #[] }, .string { data := #[] }]), 4, 48) := by kernel_rfl
 obtain ⟨i0, hi0, hz0, hz1, hz2⟩ := info_parts hi
 exact ⟨i0, hi0, hz0, hz1, hz2⟩
theorem infoRCh : ∃ i, Tryz.prog.info? 110 = some i ∧ i.zero = some (.agg #[.int .i64 0, .int .u32 0, .string { data := #[] }, .string { data := #[] }]) ∧ i.size = 4 ∧ i.bytes = 48 := by
 have hi : (Tryz.prog.info? 110).map (fun i => (i.zero, i.size, i.bytes)) = some (some (.agg #[.int .i64 0, .int .u32 0, .string { data := #[] }, .string { data := #[] }]), 4, 48) := by kernel_rfl
 obtain ⟨i0, hi0, hz0, hz1, hz2⟩ := info_parts hi
 exact ⟨i0, hi0, hz0, hz1, hz2⟩
def ccl (x : VC) : List Value := [.int .i64 x.kind, .int .u32 x.id, .string (bs x.name), .string (bs x.bytes)]
def ccells (l : List VC) : List Value := (l.map ccl).flatten
theorem ccells_snoc (l : List VC) (x : VC) : ccells (l ++ [x]) = ccells l ++ ccl x := by simp [ccells]
theorem ccells_get (l : List VC) (i : Nat) (h : i < l.length) (j : Nat) (u : Value) (hj : (ccl l[i])[j]? = some u) : (ccells l)[i * 4 + j]? = some u := by
 induction l generalizing i with
 | nil => simp at h
 | cons a l ih =>
  have e : ccells (a :: l) = ccl a ++ ccells l := rfl
  have hj5 : j < 4 := by
   have := (List.getElem?_eq_some_iff.1 hj).1
   simpa [ccl] using this
  rw [e]
  cases i with
  | zero =>
   rw [List.getElem?_append_left (by simp [ccl]; omega)]
   simpa using hj
  | succ i =>
   rw [List.getElem?_append_right (by simp [ccl]; omega)]
   have e1 : (i + 1) * 4 + j - (ccl a).length = i * 4 + j := by simp [ccl]; omega
   rw [e1]
   exact ih i (by simpa using h) (by simpa using hj)
theorem chs_of_own {w : World} {base : Nat} {e : TypeId} {v : Value} {l : List VC} {P : VC → Prop} (h : w.ownsRow base e 4 v l.length (ccells l)) (hP : ∀ x ∈ l, P x) : RowsOf 4 (fun _ cs x => cs = ccl x ∧ P x) w v l base w.heap.size := by
 by_cases h0 : l = []
 ·subst h0
  obtain ⟨p, c, rfl⟩ := own_shape h
  exact Or.inl ⟨rfl, p, c, rfl⟩
 ·have hp : 0 < l.length := List.length_pos_iff.2 h0
  obtain ⟨g, c, rfl, g1, g2, g3, g4, g5⟩ := ownsRow_at h (by omega)
  refine Or.inr ⟨g, 0, c, rfl, fun i hi => ?_, g1, g2, Nat.le_refl _, h0, g3, g4⟩
  refine ⟨ccl l[i], rfl, ⟨rfl, hP _ (List.getElem_mem hi)⟩, fun j u hj => ?_⟩
  rw [Nat.zero_add]
  exact g5 _ _ (ccells_get l i hi j u hj)
def clipV (x : VC) : VC := ⟨x.kind, x.id, x.name.take 60, x.bytes.take 6000⟩
def oursL (l : List VC) : List VC := (l.take 8).map clipV
theorem clip_fits {x : VC} (h : x.fitsR) : (clipV x).fits := ⟨h.1, h.2.1, by show (x.name.take 60).length ≤ maxLen; have := h.2.2.1; rw [List.length_take]; omega, by show (x.bytes.take 6000).length ≤ 1048576; rw [List.length_take]; omega⟩
theorem ours_len (l : List VC) : (oursL l).length ≤ 8 := by unfold oursL; rw [List.length_map, List.length_take]; omega
theorem oursP {P Q : VC → Prop} {l : List VC} (h : ∀ x ∈ l, P x) (hPQ : ∀ x, P x → Q (clipV x)) : ∀ x ∈ oursL l, Q x := by
 intro x hx
 unfold oursL at hx
 obtain ⟨y, hy, rfl⟩ := List.mem_map.1 hx
 exact hPQ y (h y (List.mem_of_mem_take hy))
def OursSays (l : List VC) (w : World) (e : Ending) (w' : World) : Prop :=
 ∃ va vb, e = .returned (.tuple #[va, vb]) ∧ w'.ownsRow w.heap.size 34 4 va (oursL l).length (ccells (oursL l)) ∧ w'.ownsRow w.heap.size 110 4 vb (oursL l).length (ccells (oursL l)) ∧ Kept [] w w'
theorem RChsIn.fits {w : World} {v : Value} {l : List VC} {lo hi : Nat} (h : RChsIn w v l lo hi) : ∀ x ∈ l, x.fitsR := by
 intro x hx
 obtain ⟨i, hi, rfl⟩ := List.mem_iff_getElem.1 hx
 obtain ⟨p, c, rfl⟩ := RowsOf.shape h
 obtain ⟨_, _, _, _, _, _, _, _, h2⟩ := RChsIn.at_ h i hi
 exact h2
set_option maxRecDepth 100000 in
set_option maxHeartbeats 8000000 in
theorem uours (vl : Value) (l : List VC) (lo1 hi1 : Nat) (w : World) (hl : RChsIn w vl l lo1 hi1) :
  Calls Tryz.prog 12 #[vl] w (OursSays l w) := by
 have HL := Lib.hid hl
 obtain ⟨p1, c1, rfl⟩ := RowsOf.shape hl
 have hlm := RowsOf.len hl
 unfold maxLen at hlm
 have HLM := Lib.hid hlm
 clear hl hlm
 unfold OursSays
 go_enter Tryz.func12, Tryz.ntmps12
 go_wp2_with fail
 go_loopw [4, 5, 6] (fun va vb i wr => ∃ k : Nat, k ≤ l.length ∧ k ≤ 8 ∧ i = .int .i64 k ∧ wr.ownsRow w.heap.size 34 4 va k (ccells ((l.take k).map clipV)) ∧ wr.ownsRow w.heap.size 110 4 vb k (ccells ((l.take k).map clipV)) ∧ Kept [] w wr) (fun _ _ i _ => l.length - (intOf i).toNat)
 case atStart => exact ⟨0, Nat.zero_le _, Nat.zero_le _, rfl, World.ownsRow_nil _ _ _ _, World.ownsRow_nil _ _ _ _, Kept.refl _ _⟩
 case round =>
  obtain ⟨k, hk, hk8, rfl, hra, hrb, hK⟩ := hrel
  by_cases hlt : k < l.length ∧ k < 8
  ·obtain ⟨hlt, hlt8⟩ := hlt
   have i1 : (k : Int) < l.length := by omega
   have i2 : (k : Int) < 8 := by omega
   obtain ⟨bl, ol, rfl, r0, r1, r2, r3, hbl, hfit⟩ := RChsIn.at_ (HL.out.kept0 hK) k hlt
   have hmap : (l.take (k + 1)).map clipV = (l.take k).map clipV ++ [clipV l[k]] := by rw [List.take_succ_eq_append_getElem hlt, List.map_append]; rfl
   have HLT := Lib.hid hlt
   have HLT8 := Lib.hid hlt8
   have HF := Lib.hid hfit
   have HK := Lib.hid hK
   have HRA := Lib.hid hra
   have HRB := Lib.hid hrb
   obtain ⟨p6, c6, rfl⟩ := own_shape hra
   obtain ⟨p7, c7, rfl⟩ := own_shape hrb
   have hszw : w.heap.size ≤ wr.heap.size := hK.size
   obtain ⟨LK, hLK⟩ : ∃ L, ccells ((l.take k).map clipV) = L := ⟨_, rfl⟩
   have hmap2 : ccells ((l.take (k + 1)).map clipV) = LK ++ ccl (clipV l[k]) := by rw [hmap, ccells_snoc, hLK]; rfl
   have HMAP := Lib.hid hmap2
   rw [hLK] at HRA HRB
   clear hmap hmap2 hLK hra hrb hK hk hk8 hlt8
   generalize hX : l[k] = X at *
   clear hX hlt
   obtain ⟨xk, xi, xn, xb⟩ := X
   simp only at *
   have h1m : (xn.length : Int) ≤ 9223372036854775807 := by have := HF.out.2.2.1; unfold maxLen at this; exact Int.ofNat_le.2 this
   have h2m : (xb.length : Int) ≤ 9223372036854775807 := by have := HF.out.2.2.2; unfold maxLen at this; exact Int.ofNat_le.2 this
   have hzn : (bs xn).size = xn.length := bs_size _
   have hzb : (bs xb).size = xb.length := bs_size _
   have oX := Own.new wr #[.int .i64 xk, .int .u32 xi, .string (bs xn), .string (bs xb)] 110
   have hkx := (Kept.refl [] wr).alloc (.cells #[.int .i64 xk, .int .u32 xi, .string (bs xn), .string (bs xb)] 110)
   have HOX := Lib.hid oX
   have HKX := Lib.hid hkx
   obtain ⟨z0, z1, z2, z3⟩ := oX.c4
   have zf := oX.free
   clear oX hkx
   rcases Nat.lt_or_ge 6000 xb.length with hb | hb <;> rcases Nat.lt_or_ge 60 xn.length with hn | hn
   ·skip
    have j1 : ((6000 : Int) < xb.length) := by omega
    have j2 : ((60 : Int) < xn.length) := by omega
    have s1 : (bs xb).extract 0 6000 = bs (xb.take 6000) := by rw [bs_extract]; rfl
    have s2 : (bs xn).extract 0 60 = bs (xn.take 60) := by rw [bs_extract]; rfl
    have hcl : clipV ⟨xk, xi, xn, xb⟩ = ⟨xk, xi, (List.take 60 xn), (List.take 6000 xb)⟩ := by unfold clipV; simp only
    rw [hcl] at HMAP
    unfold ccl at HMAP
    simp only at HMAP
    clear hb hn hcl
    go_upto_region 11 with fail
    clear r0 r1 r2 r3 z0 z1 z2 z3 zf hbl j1 j2 h1m h2m hzn hzb s1 s2
    have o2 := Own.new wr #[.int .i64 xk, .int .u32 xi, .string (bs (List.take 60 xn)), .string (bs (List.take 6000 xb))] 110
    have hk2 := (Kept.refl [] wr).alloc (.cells #[.int .i64 xk, .int .u32 xi, .string (bs (List.take 60 xn)), .string (bs (List.take 6000 xb))] 110)
    have hra2 := HRA.out.alloc (.cells #[.int .i64 xk, .int .u32 xi, .string (bs (List.take 60 xn)), .string (bs (List.take 6000 xb))] 110)
    have hrb2 := HRB.out.alloc (.cells #[.int .i64 xk, .int .u32 xi, .string (bs (List.take 60 xn)), .string (bs (List.take 6000 xb))] 110)
    generalize (wr.alloc (.cells #[.int .i64 xk, .int .u32 xi, .string (bs (List.take 60 xn)), .string (bs (List.take 6000 xb))] 110)) = w2 at *
    have HK2 := Lib.hid (HK.out.trans hk2)
    have HO2 := Lib.hid o2
    have HRA2 := Lib.hid hra2
    have HRB2 := Lib.hid hrb2
    obtain ⟨z0, z1, z2, z3⟩ := o2.c4
    have hsz2 : w.heap.size ≤ w2.heap.size := HK2.out.size
    clear o2 hk2 hra2 hrb2 hszw
    obtain ⟨i0, q0, q1, q2, q3⟩ := infoVCh
    have m3 : k + 1 ≤ maxLen := by have := HLT8.out; unfold maxLen; omega
    have m4 : (k + 1) * 48 ≤ 140737488355328 := by have := HLT8.out; omega
    go_wp2_with (at_builtin; go_must (refine wpList_append_own_at _ rfl (.tmp 38) (.tmp 48) 35 rfl w.heap.size 34 i0 (.agg #[.int .i64 0, .int .u32 0, .string { data := #[] }, .string { data := #[] }]) 4 48 Tryz.underlying35 q0 q1 q2 q3 rfl (by decide) _ _ _ rfl (World.ownsRow.alloc HRA2.out _) ⟨w2.heap.size, 0, none⟩ 1 1 [.int .i64 xk, .int .u32 xi, .string (bs (List.take 60 xn)), .string (bs (List.take 6000 xb))] rfl rfl ?_ ?_ m3 m4 ?_ ?_))
    ·exact news_alloc _ _ _
    ·intro u hu; simp at hu; rcases hu with rfl | rfl | rfl | rfl <;> rfl
    ·simp <;> omega
    intro v6 w6 o6 gr6 _ _
    have hraA := World.ownsRow.alloc HRA2.out (.cells #[.int .i64 xk, .int .u32 xi, .string (bs (List.take 60 xn)), .string (bs (List.take 6000 xb))] 34)
    have o6x : Own w6 wr.heap.size #[.int .i64 xk, .int .u32 xi, .string (bs (List.take 60 xn)), .string (bs (List.take 6000 xb))] 110 := (gr6.block _ (HO2.out.alloc _).lt (fun e => own_row_ne hraA (HO2.out.alloc _) (by decide) e.symm)).trans (HO2.out.alloc _)
    have hrb6 : w6.ownsRow w.heap.size 110 4 (.slice p7 k c7) k LK := ownsRow_same (World.ownsRow.alloc HRB2.out _) (fun g cs hb hc => gr6.block g (lt_of_block hc) (fun e => own_row_ne hraA (show Own _ g cs 110 from hc) (by decide) e.symm))
    have hk6 : Kept [] w w6 := (HK2.out.alloc _).grown gr6 (fun q hq => Or.inr (World.ownsRow.lt hraA q hq).1)
    obtain ⟨z0, z1, z2, z3⟩ := o6x.c4
    have hsz6 : w.heap.size ≤ w6.heap.size := hk6.size
    have O6 := Lib.hid o6
    have HRB6 := Lib.hid hrb6
    have HK6 := Lib.hid hk6
    obtain ⟨pa, ca, rfl⟩ := own_shape o6
    clear o6 gr6 hraA o6x hrb6 hk6 hsz2 q0 q1 q2 q3
    obtain ⟨i1', q0, q1, q2, q3⟩ := infoRCh
    go_wp2_with (at_builtin; go_must (refine wpList_append_own_at _ rfl (.tmp 50) (.tmp 52) 36 rfl w.heap.size 110 i1' (.agg #[.int .i64 0, .int .u32 0, .string { data := #[] }, .string { data := #[] }]) 4 48 Tryz.underlying36 q0 q1 q2 q3 rfl (by decide) _ _ _ rfl (World.ownsRow.alloc HRB6.out _) ⟨w6.heap.size, 0, none⟩ 1 1 [.int .i64 xk, .int .u32 xi, .string (bs (List.take 60 xn)), .string (bs (List.take 6000 xb))] rfl rfl ?_ ?_ m3 m4 ?_ ?_))
    ·exact news_alloc _ _ _
    ·intro u hu; simp at hu; rcases hu with rfl | rfl | rfl | rfl <;> rfl
    ·simp <;> omega
    intro v7 w7 o7 gr7 _ _
    have hrbA := World.ownsRow.alloc HRB6.out (.cells #[.int .i64 xk, .int .u32 xi, .string (bs (List.take 60 xn)), .string (bs (List.take 6000 xb))] 110)
    have hra7 : w7.ownsRow w.heap.size 34 4 (.slice pa (k + 1) ca) (k + 1) (LK ++ [.int .i64 xk, .int .u32 xi, .string (bs (List.take 60 xn)), .string (bs (List.take 6000 xb))]) := ownsRow_same (World.ownsRow.alloc O6.out _) (fun g cs hb hc => gr7.block g (lt_of_block hc) (fun e => own_row_ne hrbA (show Own _ g cs 34 from hc) (by decide) e.symm))
    have hk7 : Kept [] w w7 := (HK6.out.alloc _).grown gr7 (fun q hq => Or.inr (World.ownsRow.lt hrbA q hq).1)
    have H7 : Hid (w7.ownsRow w.heap.size 34 4 (.slice pa (k + 1) ca) (k + 1) (ccells ((l.take (k + 1)).map clipV))) := Lib.hid (by rw [HMAP.out]; exact hra7)
    have H8 : Hid (w7.ownsRow w.heap.size 110 4 v7 (k + 1) (ccells ((l.take (k + 1)).map clipV))) := Lib.hid (by rw [HMAP.out]; exact o7)
    have HK7 := Lib.hid hk7
    clear o7 gr7 hrbA hra7 hk7 q0 q1 q2 q3 z0 z1 z2 z3
    go_wp2_with fail
    go_roundw
    case rel => exact ⟨k + 1, HLT.out, HLT8.out, by go_num, H7.out, H8.out, HK7.out⟩
    case measure => (have hh := HLT.out; simp [intOf] <;> omega)
   ·skip
    have j1 : ((6000 : Int) < xb.length) := by omega
    have j2 : ¬ ((60 : Int) < xn.length) := by omega
    have s1 : (bs xb).extract 0 6000 = bs (xb.take 6000) := by rw [bs_extract]; rfl
    have hcl : clipV ⟨xk, xi, xn, xb⟩ = ⟨xk, xi, xn, (List.take 6000 xb)⟩ := by unfold clipV; simp only; rw [show xn.take 60 = xn from List.take_of_length_le hn]
    rw [hcl] at HMAP
    unfold ccl at HMAP
    simp only at HMAP
    clear hb hn hcl
    go_upto_region 11 with fail
    clear r0 r1 r2 r3 z0 z1 z2 z3 zf hbl j1 j2 h1m h2m hzn hzb s1
    have o2 := Own.new wr #[.int .i64 xk, .int .u32 xi, .string (bs xn), .string (bs (List.take 6000 xb))] 110
    have hk2 := (Kept.refl [] wr).alloc (.cells #[.int .i64 xk, .int .u32 xi, .string (bs xn), .string (bs (List.take 6000 xb))] 110)
    have hra2 := HRA.out.alloc (.cells #[.int .i64 xk, .int .u32 xi, .string (bs xn), .string (bs (List.take 6000 xb))] 110)
    have hrb2 := HRB.out.alloc (.cells #[.int .i64 xk, .int .u32 xi, .string (bs xn), .string (bs (List.take 6000 xb))] 110)
    generalize (wr.alloc (.cells #[.int .i64 xk, .int .u32 xi, .string (bs xn), .string (bs (List.take 6000 xb))] 110)) = w2 at *
    have HK2 := Lib.hid (HK.out.trans hk2)
    have HO2 := Lib.hid o2
    have HRA2 := Lib.hid hra2
    have HRB2 := Lib.hid hrb2
    obtain ⟨z0, z1, z2, z3⟩ := o2.c4
    have hsz2 : w.heap.size ≤ w2.heap.size := HK2.out.size
    clear o2 hk2 hra2 hrb2 hszw
    obtain ⟨i0, q0, q1, q2, q3⟩ := infoVCh
    have m3 : k + 1 ≤ maxLen := by have := HLT8.out; unfold maxLen; omega
    have m4 : (k + 1) * 48 ≤ 140737488355328 := by have := HLT8.out; omega
    go_wp2_with (at_builtin; go_must (refine wpList_append_own_at _ rfl (.tmp 38) (.tmp 48) 35 rfl w.heap.size 34 i0 (.agg #[.int .i64 0, .int .u32 0, .string { data := #[] }, .string { data := #[] }]) 4 48 Tryz.underlying35 q0 q1 q2 q3 rfl (by decide) _ _ _ rfl (World.ownsRow.alloc HRA2.out _) ⟨w2.heap.size, 0, none⟩ 1 1 [.int .i64 xk, .int .u32 xi, .string (bs xn), .string (bs (List.take 6000 xb))] rfl rfl ?_ ?_ m3 m4 ?_ ?_))
    ·exact news_alloc _ _ _
    ·intro u hu; simp at hu; rcases hu with rfl | rfl | rfl | rfl <;> rfl
    ·simp <;> omega
    intro v6 w6 o6 gr6 _ _
    have hraA := World.ownsRow.alloc HRA2.out (.cells #[.int .i64 xk, .int .u32 xi, .string (bs xn), .string (bs (List.take 6000 xb))] 34)
    have o6x : Own w6 wr.heap.size #[.int .i64 xk, .int .u32 xi, .string (bs xn), .string (bs (List.take 6000 xb))] 110 := (gr6.block _ (HO2.out.alloc _).lt (fun e => own_row_ne hraA (HO2.out.alloc _) (by decide) e.symm)).trans (HO2.out.alloc _)
    have hrb6 : w6.ownsRow w.heap.size 110 4 (.slice p7 k c7) k LK := ownsRow_same (World.ownsRow.alloc HRB2.out _) (fun g cs hb hc => gr6.block g (lt_of_block hc) (fun e => own_row_ne hraA (show Own _ g cs 110 from hc) (by decide) e.symm))
    have hk6 : Kept [] w w6 := (HK2.out.alloc _).grown gr6 (fun q hq => Or.inr (World.ownsRow.lt hraA q hq).1)
    obtain ⟨z0, z1, z2, z3⟩ := o6x.c4
    have hsz6 : w.heap.size ≤ w6.heap.size := hk6.size
    have O6 := Lib.hid o6
    have HRB6 := Lib.hid hrb6
    have HK6 := Lib.hid hk6
    obtain ⟨pa, ca, rfl⟩ := own_shape o6
    clear o6 gr6 hraA o6x hrb6 hk6 hsz2 q0 q1 q2 q3
    obtain ⟨i1', q0, q1, q2, q3⟩ := infoRCh
    go_wp2_with (at_builtin; go_must (refine wpList_append_own_at _ rfl (.tmp 50) (.tmp 52) 36 rfl w.heap.size 110 i1' (.agg #[.int .i64 0, .int .u32 0, .string { data := #[] }, .string { data := #[] }]) 4 48 Tryz.underlying36 q0 q1 q2 q3 rfl (by decide) _ _ _ rfl (World.ownsRow.alloc HRB6.out _) ⟨w6.heap.size, 0, none⟩ 1 1 [.int .i64 xk, .int .u32 xi, .string (bs xn), .string (bs (List.take 6000 xb))] rfl rfl ?_ ?_ m3 m4 ?_ ?_))
    ·exact news_alloc _ _ _
    ·intro u hu; simp at hu; rcases hu with rfl | rfl | rfl | rfl <;> rfl
    ·simp <;> omega
    intro v7 w7 o7 gr7 _ _
    have hrbA := World.ownsRow.alloc HRB6.out (.cells #[.int .i64 xk, .int .u32 xi, .string (bs xn), .string (bs (List.take 6000 xb))] 110)
    have hra7 : w7.ownsRow w.heap.size 34 4 (.slice pa (k + 1) ca) (k + 1) (LK ++ [.int .i64 xk, .int .u32 xi, .string (bs xn), .string (bs (List.take 6000 xb))]) := ownsRow_same (World.ownsRow.alloc O6.out _) (fun g cs hb hc => gr7.block g (lt_of_block hc) (fun e => own_row_ne hrbA (show Own _ g cs 34 from hc) (by decide) e.symm))
    have hk7 : Kept [] w w7 := (HK6.out.alloc _).grown gr7 (fun q hq => Or.inr (World.ownsRow.lt hrbA q hq).1)
    have H7 : Hid (w7.ownsRow w.heap.size 34 4 (.slice pa (k + 1) ca) (k + 1) (ccells ((l.take (k + 1)).map clipV))) := Lib.hid (by rw [HMAP.out]; exact hra7)
    have H8 : Hid (w7.ownsRow w.heap.size 110 4 v7 (k + 1) (ccells ((l.take (k + 1)).map clipV))) := Lib.hid (by rw [HMAP.out]; exact o7)
    have HK7 := Lib.hid hk7
    clear o7 gr7 hrbA hra7 hk7 q0 q1 q2 q3 z0 z1 z2 z3
    go_wp2_with fail
    go_roundw
    case rel => exact ⟨k + 1, HLT.out, HLT8.out, by go_num, H7.out, H8.out, HK7.out⟩
    case measure => (have hh := HLT.out; simp [intOf] <;> omega)
   ·skip
    have j1 : ¬ ((6000 : Int) < xb.length) := by omega
    have j2 : ((60 : Int) < xn.length) := by omega
    have s2 : (bs xn).extract 0 60 = bs (xn.take 60) := by rw [bs_extract]; rfl
    have hcl : clipV ⟨xk, xi, xn, xb⟩ = ⟨xk, xi, (List.take 60 xn), xb⟩ := by unfold clipV; simp only; rw [show xb.take 6000 = xb from List.take_of_length_le hb]
    rw [hcl] at HMAP
    unfold ccl at HMAP
    simp only at HMAP
    clear hb hn hcl
    go_upto_region 11 with fail
    clear r0 r1 r2 r3 z0 z1 z2 z3 zf hbl j1 j2 h1m h2m hzn hzb s2
    have o2 := Own.new wr #[.int .i64 xk, .int .u32 xi, .string (bs (List.take 60 xn)), .string (bs xb)] 110
    have hk2 := (Kept.refl [] wr).alloc (.cells #[.int .i64 xk, .int .u32 xi, .string (bs (List.take 60 xn)), .string (bs xb)] 110)
    have hra2 := HRA.out.alloc (.cells #[.int .i64 xk, .int .u32 xi, .string (bs (List.take 60 xn)), .string (bs xb)] 110)
    have hrb2 := HRB.out.alloc (.cells #[.int .i64 xk, .int .u32 xi, .string (bs (List.take 60 xn)), .string (bs xb)] 110)
    generalize (wr.alloc (.cells #[.int .i64 xk, .int .u32 xi, .string (bs (List.take 60 xn)), .string (bs xb)] 110)) = w2 at *
    have HK2 := Lib.hid (HK.out.trans hk2)
    have HO2 := Lib.hid o2
    have HRA2 := Lib.hid hra2
    have HRB2 := Lib.hid hrb2
    obtain ⟨z0, z1, z2, z3⟩ := o2.c4
    have hsz2 : w.heap.size ≤ w2.heap.size := HK2.out.size
    clear o2 hk2 hra2 hrb2 hszw
    obtain ⟨i0, q0, q1, q2, q3⟩ := infoVCh
    have m3 : k + 1 ≤ maxLen := by have := HLT8.out; unfold maxLen; omega
    have m4 : (k + 1) * 48 ≤ 140737488355328 := by have := HLT8.out; omega
    go_wp2_with (at_builtin; go_must (refine wpList_append_own_at _ rfl (.tmp 38) (.tmp 48) 35 rfl w.heap.size 34 i0 (.agg #[.int .i64 0, .int .u32 0, .string { data := #[] }, .string { data := #[] }]) 4 48 Tryz.underlying35 q0 q1 q2 q3 rfl (by decide) _ _ _ rfl (World.ownsRow.alloc HRA2.out _) ⟨w2.heap.size, 0, none⟩ 1 1 [.int .i64 xk, .int .u32 xi, .string (bs (List.take 60 xn)), .string (bs xb)] rfl rfl ?_ ?_ m3 m4 ?_ ?_))
    ·exact news_alloc _ _ _
    ·intro u hu; simp at hu; rcases hu with rfl | rfl | rfl | rfl <;> rfl
    ·simp <;> omega
    intro v6 w6 o6 gr6 _ _
    have hraA := World.ownsRow.alloc HRA2.out (.cells #[.int .i64 xk, .int .u32 xi, .string (bs (List.take 60 xn)), .string (bs xb)] 34)
    have o6x : Own w6 wr.heap.size #[.int .i64 xk, .int .u32 xi, .string (bs (List.take 60 xn)), .string (bs xb)] 110 := (gr6.block _ (HO2.out.alloc _).lt (fun e => own_row_ne hraA (HO2.out.alloc _) (by decide) e.symm)).trans (HO2.out.alloc _)
    have hrb6 : w6.ownsRow w.heap.size 110 4 (.slice p7 k c7) k LK := ownsRow_same (World.ownsRow.alloc HRB2.out _) (fun g cs hb hc => gr6.block g (lt_of_block hc) (fun e => own_row_ne hraA (show Own _ g cs 110 from hc) (by decide) e.symm))
    have hk6 : Kept [] w w6 := (HK2.out.alloc _).grown gr6 (fun q hq => Or.inr (World.ownsRow.lt hraA q hq).1)
    obtain ⟨z0, z1, z2, z3⟩ := o6x.c4
    have hsz6 : w.heap.size ≤ w6.heap.size := hk6.size
    have O6 := Lib.hid o6
    have HRB6 := Lib.hid hrb6
    have HK6 := Lib.hid hk6
    obtain ⟨pa, ca, rfl⟩ := own_shape o6
    clear o6 gr6 hraA o6x hrb6 hk6 hsz2 q0 q1 q2 q3
    obtain ⟨i1', q0, q1, q2, q3⟩ := infoRCh
    go_wp2_with (at_builtin; go_must (refine wpList_append_own_at _ rfl (.tmp 50) (.tmp 52) 36 rfl w.heap.size 110 i1' (.agg #[.int .i64 0, .int .u32 0, .string { data := #[] }, .string { data := #[] }]) 4 48 Tryz.underlying36 q0 q1 q2 q3 rfl (by decide) _ _ _ rfl (World.ownsRow.alloc HRB6.out _) ⟨w6.heap.size, 0, none⟩ 1 1 [.int .i64 xk, .int .u32 xi, .string (bs (List.take 60 xn)), .string (bs xb)] rfl rfl ?_ ?_ m3 m4 ?_ ?_))
    ·exact news_alloc _ _ _
    ·intro u hu; simp at hu; rcases hu with rfl | rfl | rfl | rfl <;> rfl
    ·simp <;> omega
    intro v7 w7 o7 gr7 _ _
    have hrbA := World.ownsRow.alloc HRB6.out (.cells #[.int .i64 xk, .int .u32 xi, .string (bs (List.take 60 xn)), .string (bs xb)] 110)
    have hra7 : w7.ownsRow w.heap.size 34 4 (.slice pa (k + 1) ca) (k + 1) (LK ++ [.int .i64 xk, .int .u32 xi, .string (bs (List.take 60 xn)), .string (bs xb)]) := ownsRow_same (World.ownsRow.alloc O6.out _) (fun g cs hb hc => gr7.block g (lt_of_block hc) (fun e => own_row_ne hrbA (show Own _ g cs 34 from hc) (by decide) e.symm))
    have hk7 : Kept [] w w7 := (HK6.out.alloc _).grown gr7 (fun q hq => Or.inr (World.ownsRow.lt hrbA q hq).1)
    have H7 : Hid (w7.ownsRow w.heap.size 34 4 (.slice pa (k + 1) ca) (k + 1) (ccells ((l.take (k + 1)).map clipV))) := Lib.hid (by rw [HMAP.out]; exact hra7)
    have H8 : Hid (w7.ownsRow w.heap.size 110 4 v7 (k + 1) (ccells ((l.take (k + 1)).map clipV))) := Lib.hid (by rw [HMAP.out]; exact o7)
    have HK7 := Lib.hid hk7
    clear o7 gr7 hrbA hra7 hk7 q0 q1 q2 q3 z0 z1 z2 z3
    go_wp2_with fail
    go_roundw
    case rel => exact ⟨k + 1, HLT.out, HLT8.out, by go_num, H7.out, H8.out, HK7.out⟩
    case measure => (have hh := HLT.out; simp [intOf] <;> omega)
   ·skip
    have j1 : ¬ ((6000 : Int) < xb.length) := by omega
    have j2 : ¬ ((60 : Int) < xn.length) := by omega
    have hcl : clipV ⟨xk, xi, xn, xb⟩ = ⟨xk, xi, xn, xb⟩ := by unfold clipV; simp only; rw [show xn.take 60 = xn from List.take_of_length_le hn, show xb.take 6000 = xb from List.take_of_length_le hb]
    rw [hcl] at HMAP
    unfold ccl at HMAP
    simp only at HMAP
    clear hb hn hcl
    go_upto_region 11 with fail
    clear r0 r1 r2 r3 z0 z1 z2 z3 zf hbl j1 j2 h1m h2m hzn hzb
    have o2 := Own.new wr #[.int .i64 xk, .int .u32 xi, .string (bs xn), .string (bs xb)] 110
    have hk2 := (Kept.refl [] wr).alloc (.cells #[.int .i64 xk, .int .u32 xi, .string (bs xn), .string (bs xb)] 110)
    have hra2 := HRA.out.alloc (.cells #[.int .i64 xk, .int .u32 xi, .string (bs xn), .string (bs xb)] 110)
    have hrb2 := HRB.out.alloc (.cells #[.int .i64 xk, .int .u32 xi, .string (bs xn), .string (bs xb)] 110)
    generalize (wr.alloc (.cells #[.int .i64 xk, .int .u32 xi, .string (bs xn), .string (bs xb)] 110)) = w2 at *
    have HK2 := Lib.hid (HK.out.trans hk2)
    have HO2 := Lib.hid o2
    have HRA2 := Lib.hid hra2
    have HRB2 := Lib.hid hrb2
    obtain ⟨z0, z1, z2, z3⟩ := o2.c4
    have hsz2 : w.heap.size ≤ w2.heap.size := HK2.out.size
    clear o2 hk2 hra2 hrb2 hszw
    obtain ⟨i0, q0, q1, q2, q3⟩ := infoVCh
    have m3 : k + 1 ≤ maxLen := by have := HLT8.out; unfold maxLen; omega
    have m4 : (k + 1) * 48 ≤ 140737488355328 := by have := HLT8.out; omega
    go_wp2_with (at_builtin; go_must (refine wpList_append_own_at _ rfl (.tmp 38) (.tmp 48) 35 rfl w.heap.size 34 i0 (.agg #[.int .i64 0, .int .u32 0, .string { data := #[] }, .string { data := #[] }]) 4 48 Tryz.underlying35 q0 q1 q2 q3 rfl (by decide) _ _ _ rfl (World.ownsRow.alloc HRA2.out _) ⟨w2.heap.size, 0, none⟩ 1 1 [.int .i64 xk, .int .u32 xi, .string (bs xn), .string (bs xb)] rfl rfl ?_ ?_ m3 m4 ?_ ?_))
    ·exact news_alloc _ _ _
    ·intro u hu; simp at hu; rcases hu with rfl | rfl | rfl | rfl <;> rfl
    ·simp <;> omega
    intro v6 w6 o6 gr6 _ _
    have hraA := World.ownsRow.alloc HRA2.out (.cells #[.int .i64 xk, .int .u32 xi, .string (bs xn), .string (bs xb)] 34)
    have o6x : Own w6 wr.heap.size #[.int .i64 xk, .int .u32 xi, .string (bs xn), .string (bs xb)] 110 := (gr6.block _ (HO2.out.alloc _).lt (fun e => own_row_ne hraA (HO2.out.alloc _) (by decide) e.symm)).trans (HO2.out.alloc _)
    have hrb6 : w6.ownsRow w.heap.size 110 4 (.slice p7 k c7) k LK := ownsRow_same (World.ownsRow.alloc HRB2.out _) (fun g cs hb hc => gr6.block g (lt_of_block hc) (fun e => own_row_ne hraA (show Own _ g cs 110 from hc) (by decide) e.symm))
    have hk6 : Kept [] w w6 := (HK2.out.alloc _).grown gr6 (fun q hq => Or.inr (World.ownsRow.lt hraA q hq).1)
    obtain ⟨z0, z1, z2, z3⟩ := o6x.c4
    have hsz6 : w.heap.size ≤ w6.heap.size := hk6.size
    have O6 := Lib.hid o6
    have HRB6 := Lib.hid hrb6
    have HK6 := Lib.hid hk6
    obtain ⟨pa, ca, rfl⟩ := own_shape o6
    clear o6 gr6 hraA o6x hrb6 hk6 hsz2 q0 q1 q2 q3
    obtain ⟨i1', q0, q1, q2, q3⟩ := infoRCh
    go_wp2_with (at_builtin; go_must (refine wpList_append_own_at _ rfl (.tmp 50) (.tmp 52) 36 rfl w.heap.size 110 i1' (.agg #[.int .i64 0, .int .u32 0, .string { data := #[] }, .string { data := #[] }]) 4 48 Tryz.underlying36 q0 q1 q2 q3 rfl (by decide) _ _ _ rfl (World.ownsRow.alloc HRB6.out _) ⟨w6.heap.size, 0, none⟩ 1 1 [.int .i64 xk, .int .u32 xi, .string (bs xn), .string (bs xb)] rfl rfl ?_ ?_ m3 m4 ?_ ?_))
    ·exact news_alloc _ _ _
    ·intro u hu; simp at hu; rcases hu with rfl | rfl | rfl | rfl <;> rfl
    ·simp <;> omega
    intro v7 w7 o7 gr7 _ _
    have hrbA := World.ownsRow.alloc HRB6.out (.cells #[.int .i64 xk, .int .u32 xi, .string (bs xn), .string (bs xb)] 110)
    have hra7 : w7.ownsRow w.heap.size 34 4 (.slice pa (k + 1) ca) (k + 1) (LK ++ [.int .i64 xk, .int .u32 xi, .string (bs xn), .string (bs xb)]) := ownsRow_same (World.ownsRow.alloc O6.out _) (fun g cs hb hc => gr7.block g (lt_of_block hc) (fun e => own_row_ne hrbA (show Own _ g cs 34 from hc) (by decide) e.symm))
    have hk7 : Kept [] w w7 := (HK6.out.alloc _).grown gr7 (fun q hq => Or.inr (World.ownsRow.lt hrbA q hq).1)
    have H7 : Hid (w7.ownsRow w.heap.size 34 4 (.slice pa (k + 1) ca) (k + 1) (ccells ((l.take (k + 1)).map clipV))) := Lib.hid (by rw [HMAP.out]; exact hra7)
    have H8 : Hid (w7.ownsRow w.heap.size 110 4 v7 (k + 1) (ccells ((l.take (k + 1)).map clipV))) := Lib.hid (by rw [HMAP.out]; exact o7)
    have HK7 := Lib.hid hk7
    clear o7 gr7 hrbA hra7 hk7 q0 q1 q2 q3 z0 z1 z2 z3
    go_wp2_with fail
    go_roundw
    case rel => exact ⟨k + 1, HLT.out, HLT8.out, by go_num, H7.out, H8.out, HK7.out⟩
    case measure => (have hh := HLT.out; simp [intOf] <;> omega)
  ·have htk : (l.take k).map clipV = oursL l := by
    unfold oursL
    rcases Nat.lt_or_ge k l.length with h | h
    ·have : k = 8 := by omega
     rw [this]
    ·have h2 : k = l.length := by omega
     rw [List.take_of_length_le (by omega), List.take_of_length_le (by omega)]
   have hkl : (oursL l).length = k := by rw [← htk, List.length_map, List.length_take]; omega
   rw [htk] at hra hrb
   have HRA := Lib.hid hra
   have HRB := Lib.hid hrb
   have HK := Lib.hid hK
   have HKL := Lib.hid hkl
   obtain ⟨p6, c6, rfl⟩ := own_shape hra
   obtain ⟨p7, c7, rfl⟩ := own_shape hrb
   have hor : ((k : Int) < l.length ∧ ¬ ((k : Int) < 8)) ∨ ¬ ((k : Int) < l.length) := by omega
   clear htk hkl hra hrb hK hlt
   rcases hor with ⟨i1, i2⟩ | i1
   all_goals
    go_wp2_with fail
    go_ret2
    exact ⟨_, _, rfl, by rw [HKL.out]; exact HRA.out, by rw [HKL.out]; exact HRB.out, HK.out⟩
end Go.Proofs.YtdkimcnlhmhpgaaGreat
