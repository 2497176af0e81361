/- -/
import Derived.Test.YtdkimcnlhmhpgaaGreatH01
import Derived.Test.YtdkimcnlhmhpgaaGreatH02
import Derived.Test.YtdkimcnlhmhpgaaGreatH04
import Derived.Test.YtdkimcnlhmhpgaaGreatH09
import Derived.Test.YtdkimcnlhmhpgaaGreatH11
import Derived.Test.YtdkimcnlhmhpgaaGreatH15
import Derived.Test.YtdkimcnlhmhpgaaGreatH26
import Derived.Laws.BitsAllLaws
import Derived.Deep.RegionHeld3
import Derived.Deep.RegionWith
import Derived.BigRegion
import Derived.Deep.AppendLies
import Derived.Maps.AppendAt
import Derived.Deep.CutBlock
import Derived.Deep.DeepCutAuto
set_option linter.unusedVariables false
set_option linter.unusedSimpArgs false
namespace Go.Proofs.YtdkimcnlhmhpgaaGreat
open Go.RowKit
def OffD (T : List Nat) (w : World) (b sb mb g : Nat) : Prop := g ∉ T ∧ g ≠ b ∧ g ≠ sb ∧ g ≠ mb ∧ ¬ WB w b g
theorem OffD.pk {T : List Nat} {w w' : World} {b sb mb g : Nat} (h : OffD T w b sb mb g) (k : PK T b sb mb w w') (hg : g < w.heap.size) : OffD T w' b sb mb g :=
 ⟨h.1, h.2.1, h.2.2.1, h.2.2.2.1, fun hx => by
  rcases k.wb g hx with h1 | h1
  ·exact h.2.2.2.2 h1
  ·omega⟩
theorem OffD.mono {S T : List Nat} {w : World} {b sb mb g : Nat} (h : OffD T w b sb mb g) (hST : ∀ x ∈ S, x ∈ T) : OffD S w b sb mb g := ⟨fun hx => h.1 (hST g hx), h.2⟩
theorem PK.same {T : List Nat} {w w' : World} {b sb mb g : Nat} (k : PK T b sb mb w w') (h : OffD T w b sb mb g) (hg : g < w.heap.size) : w'.heap[g]? = w.heap[g]? := k.block g hg h.1 h.2.1 h.2.2.1 h.2.2.2.1 h.2.2.2.2
theorem PK.own {T : List Nat} {w w' : World} {b sb mb g : Nat} {cs : Array Value} {t : TypeId} (k : PK T b sb mb w w') (o : Own w g cs t) (h : OffD T w b sb mb g) : Own w' g cs t := (k.same h o.lt).trans o
theorem DA.wb_lt {w : World} {b sb mb lo : Nat} {d : DK} (h : DA w b sb mb lo d) {k : Nat} (hk : WB w b k) : k < w.heap.size := by
 obtain ⟨_, cs, h1⟩ := h.disk.wb hk
 exact (Array.getElem?_eq_some_iff.1 h1).1
theorem DA.wb_kept {w w' : World} {b sb mb lo : Nat} {d : DK} (h : DA w b sb mb lo d) (k : Kept [] w w') (g : Nat) : WB w' b g ↔ WB w b g := WB.of_cell (k.cell (a := ⟨b, 1, none⟩) h.b_lt (by simp))
theorem DA.off_new {T : List Nat} {w w' : World} {b sb mb lo : Nat} {d : DK} (h : DA w b sb mb lo d) (hT : ∀ x ∈ T, x < w.heap.size) (k : Kept [] w w') {g : Nat} (hg : w.heap.size ≤ g) : OffD T w' b sb mb g :=
 ⟨fun hx => by have := hT g hx; omega, by have := h.b_lt; omega, by have := h.sb_lt; omega, by have := h.mb_lt; omega, fun hx => by have := h.wb_lt ((h.wb_kept k g).1 hx); omega⟩
def SD (T : List Nat) (w : World) (b sb mb : Nat) : Nat → Prop := fun g => ¬ OffD T w b sb mb g
theorem DA.sd_lt {T : List Nat} {w : World} {b sb mb lo : Nat} {d : DK} (h : DA w b sb mb lo d) (hT : ∀ x ∈ T, x < w.heap.size) : ∀ x, SD T w b sb mb x → x < w.heap.size := by
 intro x hx
 apply Classical.byContradiction
 intro hlt
 exact hx (h.off_new hT (Kept.refl [] w) (by omega))
theorem SD.kept {T : List Nat} {w w' : World} {b sb mb : Nat} (k : Kept [] w w') (hb : b < w.heap.size) : SD T w' b sb mb = SD T w b sb mb := by
 funext g
 unfold SD OffD
 rw [WB.of_cell (k.cell (a := ⟨b, 1, none⟩) hb (by simp))]
theorem OffV.offd {T : List Nat} {w : World} {b sb mb n g off c : Nat} {m : Nat} (h : OffV (SD T w b sb mb) (.slice (some ⟨g, off, none⟩) m c) n) (hn : 0 < n) : OffD T w b sb mb g := by
 apply Classical.byContradiction
 intro hx
 exact h g off none m c rfl hn hx
theorem OffV.pk {T : List Nat} {w w' : World} {b sb mb n : Nat} {v : Value} (h : OffV (SD T w b sb mb) v n) (k : PK T b sb mb w w') (hlt : ∀ g off sp n' c, v = .slice (some ⟨g, off, sp⟩) n' c → 0 < n → g < w.heap.size) : OffV (SD T w' b sb mb) v n := by
 intro g off sp n' c e hn hx
 apply h g off sp n' c e hn
 intro hy
 exact hx (hy.pk k (hlt g off sp n' c e hn))
def RunsO (T : List Nat) (w : World) (b sb mb : Nat) (v : Value) (l : List (Int × Int)) : Prop := (∃ lo hi, RunsIn w v l lo hi) ∧ OffV (SD T w b sb mb) v l.length
theorem RunsIn.pk {T : List Nat} {w w' : World} {b sb mb lo hi : Nat} {v : Value} {l : List (Int × Int)} (h : RunsIn w v l lo hi) (ho : OffV (SD T w b sb mb) v l.length) (k : PK T b sb mb w w') : RunsIn w' v l lo hi := by
 rcases h with h | ⟨g, off, c, e, h2, h3, h4, h5, h6, h7, h8⟩
 ·exact Or.inl h
 ·subst e
  have hg := k.same (ho.offd (List.length_pos_iff.2 h6)) (by omega)
  refine Or.inr ⟨g, off, c, rfl, fun i hi => ?_, h3, h4, Nat.le_trans h5 k.size, h6, h7, h8⟩
  rw [World.cell?_of_block (w := w) (a := ⟨g, _, none⟩) hg, World.cell?_of_block (w := w) (a := ⟨g, _, none⟩) hg]
  exact h2 i hi
theorem RunsIn.blk_lt {w : World} {v : Value} {l : List (Int × Int)} {lo hi : Nat} (h : RunsIn w v l lo hi) : ∀ g off sp n' c, v = .slice (some ⟨g, off, sp⟩) n' c → 0 < l.length → g < w.heap.size := by
 intro g off sp n' c e hn
 rcases h with ⟨h, _⟩ | ⟨b, off', c', e', _, _, h4, h5, _⟩
 ·rw [h] at hn; simp at hn
 ·rw [e'] at e
  injection e with e
  injection e with e
  injection e with e
  subst e
  omega
theorem RunsO.pk {T : List Nat} {w w' : World} {b sb mb : Nat} {v : Value} {l : List (Int × Int)} (h : RunsO T w b sb mb v l) (k : PK T b sb mb w w') : RunsO T w' b sb mb v l := by
 obtain ⟨⟨lo, hi, h1⟩, h2⟩ := h
 exact ⟨⟨lo, hi, h1.pk h2 k⟩, h2.pk k h1.blk_lt⟩
theorem RunsO.kept0 {T : List Nat} {w w' : World} {b sb mb : Nat} {v : Value} {l : List (Int × Int)} (h : RunsO T w b sb mb v l) (k : Kept [] w w') (hb : b < w.heap.size) : RunsO T w' b sb mb v l := h.pk (k.pk0 hb)
theorem RunsO.nil {T : List Nat} {w : World} {b sb mb : Nat} (a : Option Addr) (c : Nat) : RunsO T w b sb mb (.slice a 0 c) [] := ⟨⟨0, 0, Or.inl ⟨rfl, a, c, rfl⟩⟩, fun g off sp n' c e hn => by simp at hn⟩
theorem RunsIn.offs {S : Nat → Prop} {w : World} {v : Value} {l : List (Int × Int)} {lo hi : Nat} (h : RunsIn w v l lo hi) (hS : ∀ x, S x → x < lo) : OffV S v l.length := by
 intro g off sp n c e hn hg
 rcases h with ⟨h, _⟩ | ⟨b, off', c', e', _, h3, _⟩
 ·rw [h] at hn; simp at hn
 ·rw [e'] at e
  injection e with e
  injection e with e
  injection e with e
  subst e
  have := hS _ hg
  omega
theorem RunsIn.new {T : List Nat} {w w' : World} {b sb mb lo lo1 hi : Nat} {d : DK} {v : Value} {l : List (Int × Int)} (h : RunsIn w' v l lo1 hi) (hD : DA w b sb mb lo d) (hT : ∀ x ∈ T, x < w.heap.size) (k : Kept [] w w') (hlo : w.heap.size ≤ lo1) : RunsO T w' b sb mb v l :=
 ⟨⟨lo1, hi, h⟩, h.offs (fun x hx => by
  rw [SD.kept k hD.b_lt] at hx
  have := hD.sd_lt hT x hx
  omega)⟩
theorem RunsO.mono {S T : List Nat} {w : World} {b sb mb : Nat} {v : Value} {l : List (Int × Int)} (h : RunsO T w b sb mb v l) (hST : ∀ x ∈ S, x ∈ T) : RunsO S w b sb mb v l := ⟨h.1, h.2.weaken (fun x hx hy => hx (hy.mono hST))⟩
theorem RawIn.pk {T : List Nat} {w w' : World} {b sb mb n k : Nat} {v : Value} {xs : List Value} (h : RawIn w v n k xs) (ho : OffV (SD T w b sb mb) v n) (q : PK T b sb mb w w') : RawIn w' v n k xs := by
 obtain ⟨h1, h⟩ := h
 refine ⟨h1, ?_⟩
 rcases h with h | ⟨g, off, c, e, h2, h3, h4, h5⟩
 ·exact Or.inl h
 ·subst e
  have hg := q.same (ho.offd h4) h3
  refine Or.inr ⟨g, off, c, rfl, fun j u hj => ?_, Nat.lt_of_lt_of_le h3 q.size, h4, h5⟩
  rw [World.cell?_of_block (w := w) (a := ⟨g, _, none⟩) hg]
  exact h2 j u hj
theorem RawIn.blk_lt {w : World} {v : Value} {n k : Nat} {xs : List Value} (h : RawIn w v n k xs) : ∀ g off sp n' c, v = .slice (some ⟨g, off, sp⟩) n' c → 0 < n → g < w.heap.size := by
 intro g off sp n' c e hn
 subst e
 rcases h.2 with ⟨h0, _⟩ | ⟨b, off', c', e, h3, h4, _⟩
 ·omega
 ·injection e with e
  injection e with e
  injection e with e
  subst e
  exact h4
theorem ItemsOff.pk {T : List Nat} {w w' : World} {b sb mb : Nat} {v : Value} {l : List JItem} (h : ItemsOff (SD T w b sb mb) w v l) (k : PK T b sb mb w w') : ItemsOff (SD T w' b sb mb) w' v l := by
 obtain ⟨vs, h1, h2, h3, h4⟩ := h
 refine ⟨vs, h1, h2.pk h4 k, fun x hx => ⟨⟨((h3 x hx).1.1.pk (h3 x hx).2 k).upto, (h3 x hx).1.2⟩, (h3 x hx).2.pk k (h3 x hx).1.1.blk_lt⟩, h4.pk k h2.blk_lt⟩
def CatO (T : List Nat) (w : World) (b sb mb : Nat) (v : Value) (c : JCat) : Prop := CatOff (SD T w b sb mb) w v c
theorem CatO.pk {T : List Nat} {w w' : World} {b sb mb : Nat} {v : Value} {c : JCat} (h : CatO T w b sb mb v c) (k : PK T b sb mb w w') : CatO T w' b sb mb v c := by
 obtain ⟨va, vb, vc, e, h1, h2, h3, h4⟩ := h
 exact ⟨va, vb, vc, e, h1.pk k, h2.pk k, h3.pk k, h4⟩
theorem CatO.kept0 {T : List Nat} {w w' : World} {b sb mb : Nat} {v : Value} {c : JCat} (h : CatO T w b sb mb v c) (k : Kept [] w w') (hb : b < w.heap.size) : CatO T w' b sb mb v c := h.pk (k.pk0 hb)
theorem CatO.plain {T : List Nat} {w : World} {b sb mb : Nat} {v : Value} {c : JCat} (h : CatO T w b sb mb v c) : CatIn w v c := CatOff.plain h
theorem CatO.empty (T : List Nat) (w : World) (b sb mb : Nat) : CatO T w b sb mb (.agg #[.int .u32 1, .int .u32 1, .slice none 0 0, .slice none 0 0, .slice none 0 0]) ⟨1, 1, [], [], []⟩ := ⟨_, _, _, rfl, ItemsOff.nil _ _, ItemsOff.nil _ _, ItemsOff.nil _ _, by decide, by decide⟩
theorem CatOff.cato {T : List Nat} {w w' : World} {b sb mb : Nat} {v : Value} {c : JCat} (h : CatOff (SD T w b sb mb) w' v c) (k : Kept [] w w') (hb : b < w.heap.size) : CatO T w' b sb mb v c := by
 unfold CatO
 rw [SD.kept k hb]
 exact h
def stp (x : Nat) : Nat := if x % 2 = 1 then x / 2 ^^^ 3988292384 else x / 2
def stpN : Nat → Nat → Nat
 | 0, x => x
 | k + 1, x => stp (stpN k x)
def crcB (x : Nat) (b : UInt8) : Nat := stpN 8 (x ^^^ b.toNat)
def crcX (x : Nat) (l : List UInt8) : Nat := l.foldl crcB x
def crc (l : List UInt8) : Nat := 4294967295 - crcX 4294967295 l
theorem stp_lt {x : Nat} (h : x < 2 ^ 32) : stp x < 2 ^ 32 := by
 unfold stp
 split
 ·exact Nat.xor_lt_two_pow (by omega) (by decide)
 ·omega
theorem stpN_lt {x : Nat} (k : Nat) (h : x < 2 ^ 32) : stpN k x < 2 ^ 32 := by
 induction k with
 | zero => exact h
 | succ k ih => exact stp_lt ih
theorem u8_lt (b : UInt8) : b.toNat < 2 ^ 32 := Nat.lt_trans b.toNat_lt (by decide)
theorem crcB_lt {x : Nat} (b : UInt8) (h : x < 2 ^ 32) : crcB x b < 2 ^ 32 := stpN_lt 8 (Nat.xor_lt_two_pow h (u8_lt b))
theorem crcX_lt {x : Nat} (l : List UInt8) (h : x < 2 ^ 32) : crcX x l < 2 ^ 32 := by
 induction l generalizing x with
 | nil => exact h
 | cons b l ih => exact ih (crcB_lt b h)
theorem crc_lt (l : List UInt8) : crc l < 4294967296 := by unfold crc; omega
theorem crcX_snoc (x : Nat) (l : List UInt8) (b : UInt8) : crcX x (l ++ [b]) = crcB (crcX x l) b := by simp [crcX, List.foldl_append]
def mb (l : List UInt8) (i : Nat) : Bool := match l[i / 8]? with | some b => b.toNat.testBit (i % 8) | none => false
def pb (j : Nat) : Bool := Nat.testBit 4374732215 (32 - j)
def fs (l : List UInt8) : Nat → Nat → Bool
 | 0, i => if i < 32 then !(mb l i) else mb l i
 | a + 1, i => if fs l a a && decide (a ≤ i ∧ i < a + 33) then (fs l a i != pb (i - a)) else fs l a i
theorem stp_bits (x : Nat) (hx : x < 4294967296) : bits .xor .u32 (x / 2 : Int) (bits .and .u32 3988292384 (IntKind.u32.wrap (-(bits .and .u32 x 1)))) = (stp x : Int) := by
 have e1 : bits .and .u32 (x : Int) 1 = ((x % 2 : Nat) : Int) := by
  have := u32_and_nat x 1 hx (by decide)
  rw [Nat.and_one_is_mod] at this
  exact this
 rw [e1, IntKind.wrap_u32]
 have e2 : ((x : Int) / 2) = ((x / 2 : Nat) : Int) := by omega
 rw [e2]
 unfold stp
 by_cases h : x % 2 = 1
 ·rw [if_pos h, h]
  have e3 : (-((1 : Nat) : Int)) % 4294967296 = ((4294967295 : Nat) : Int) := by decide
  rw [e3, show (3988292384 : Int) = ((3988292384 : Nat) : Int) from rfl, u32_and_nat _ _ (by decide) (by decide)]
  rw [show 3988292384 &&& 4294967295 = 3988292384 from by decide, u32_xor_nat _ _ (by omega) (by decide)]
 ·have h0 : x % 2 = 0 := by omega
  rw [if_neg h, h0]
  have e3 : (-((0 : Nat) : Int)) % 4294967296 = ((0 : Nat) : Int) := by decide
  rw [e3, show (3988292384 : Int) = ((3988292384 : Nat) : Int) from rfl, u32_and_nat _ _ (by decide) (by decide)]
  rw [show 3988292384 &&& 0 = 0 from by decide, u32_xor_nat _ _ (by omega) (by decide), Nat.xor_zero]
theorem ret_u32 {a b : Int} (h : a = b) : Ending.returned (.int .u32 a) = .returned (.int .u32 b) := by rw [h]
set_option maxRecDepth 100000 in
theorem cstep (x : Nat) (w : World) (hx : x < 4294967296) :
  Calls Tryz.prog 237 #[.int .u32 x] w fun e w' => e = .returned (.int .u32 (stp x)) ∧ w = w' := by
 have H := Lib.hid (stp_bits x hx)
 go_enter Tryz.func237, Tryz.ntmps237
 go_wp2_with fail
 go_ret
 exact ⟨ret_u32 H.out, rfl⟩
theorem xor_ones (x : Nat) (h : x < 4294967296) : 4294967295 ^^^ x = 4294967295 - x := by
 apply Nat.eq_of_testBit_eq
 intro k
 have h1 := Nat.testBit_two_pow_sub_succ (n := 32) (show x < 2 ^ 32 from h) k
 have e : 2 ^ 32 - (x + 1) = 4294967295 - x := by omega
 rw [e] at h1
 have h2 : Nat.testBit 4294967295 k = decide (k < 32) := Nat.testBit_two_pow_sub_one 32 k
 rw [Nat.testBit_xor, h1, h2]
 by_cases hk : k < 32
 ·rw [decide_eq_true hk]; cases x.testBit k <;> rfl
 ·rw [decide_eq_false hk]
  have : x.testBit k = false := Nat.testBit_lt_two_pow (Nat.lt_of_lt_of_le (show x < 2 ^ 32 from h) (Nat.pow_le_pow_right (by decide) (by omega)))
  rw [this]; rfl
theorem not_u32 (x : Nat) (h : x < 4294967296) : bits .xor .u32 IntKind.u32.max (x : Int) = ((4294967295 - x : Nat) : Int) := by
 rw [show IntKind.u32.max = ((4294967295 : Nat) : Int) from rfl, u32_xor_nat _ _ (by decide) h, xor_ones x h]
set_option maxRecDepth 100000 in
theorem cmore (s0 : Nat) (s : ByteArray) (w : World) (h0 : s0 < 4294967296) (hs : s.size ≤ maxLen) :
  Calls Tryz.prog 176 #[.int .u32 s0, .string s] w fun e w' => e = .returned (.int .u32 ((4294967295 - crcX (4294967295 - s0) s.data.toList : Nat) : Int)) ∧ w = w' := by
 unfold maxLen at hs
 have hsl : s.data.toList.length = s.size := by simp
 have HSL := Lib.hid hsl
 clear hsl
 have e0 := not_u32 s0 h0
 have hlt : 4294967295 - s0 < 4294967296 := by omega
 generalize 4294967295 - s0 = x0 at *
 go_enter Tryz.func176, Tryz.ntmps176
 go_wp2_with fail
 go_loop [5, 11] (fun x i => ∃ k : Nat, k ≤ s.size ∧ i = .int .i64 k ∧ x = .int .u32 (crcX x0 (s.data.toList.take k))) (fun _ i => s.size - (intOf i).toNat)
 case atStart => exact ⟨0, by omega, rfl, rfl⟩
 case round =>
  obtain ⟨k, hk, rfl, rfl⟩ := hrel
  have hb : crcX x0 (s.data.toList.take k) < 4294967296 := crcX_lt _ hlt
  by_cases hlt : k < s.size
  ·have hg : s.data.toList[k]'(by rw [HSL.out]; exact hlt) = s[k] := rfl
   have hv : Hid (crcX x0 (s.data.toList.take (k + 1)) = stpN 8 (crcX x0 (s.data.toList.take k) ^^^ s[k].toNat)) := by
    show _ = _
    rw [List.take_succ_eq_append_getElem (by rw [HSL.out]; exact hlt), crcX_snoc, hg]; rfl
   have hc : s[k].toNat < 256 := s[k].toNat_lt
   have e1 : bits .xor .u32 (crcX x0 (s.data.toList.take k)) (s[k].toNat : Int) = ((crcX x0 (s.data.toList.take k) ^^^ s[k].toNat : Nat) : Int) := u32_xor_nat _ _ hb (by omega)
   have hb2 : (crcX x0 (s.data.toList.take k) ^^^ s[k].toNat) < 2 ^ 32 := Nat.xor_lt_two_pow (n := 32) hb (by omega)
   generalize crcX x0 (s.data.toList.take k) ^^^ s[k].toNat = y at *
   generalize crcX x0 (s.data.toList.take k) = x at *
   clear hg
   go_wp2_with fail
   go_loop [5, 20] (fun x j => ∃ m : Nat, m ≤ 8 ∧ j = .int .i64 m ∧ x = .int .u32 (stpN m y)) (fun _ j => 8 - (intOf j).toNat)
   case atStart => exact ⟨0, by omega, rfl, rfl⟩
   case round =>
    obtain ⟨m, hm, rfl, rfl⟩ := hrel
    have hb3 : stpN m y < 4294967296 := stpN_lt m hb2
    by_cases hm8 : m < 8
    ·have hv2 : Hid (stpN (m + 1) y = stp (stpN m y)) := rfl
     generalize stpN m y = z at *
     go_wp2_with fail
     refine (cstep _ _ hb3).mono ?_; rintro e w' ⟨rfl, rfl⟩
     go_wp2_with fail
     go_round
     case rel => exact ⟨m + 1, by omega, by go_num, by rw [hv2.out]⟩
     case measure => simp [intOf]; omega
    ·obtain rfl : m = 8 := by omega
     go_wp2_with fail
     go_round
     case rel => exact ⟨k + 1, by omega, by go_num, by rw [hv.out]⟩
     case measure => simp [intOf]; omega
  ·obtain rfl : k = s.size := by omega
   have hw : s.data.toList.take s.size = s.data.toList := List.take_of_length_le (by rw [HSL.out]; exact Nat.le_refl _)
   have HW := Lib.hid hw
   clear hw
   have e2 := not_u32 _ hb
   have HF : Hid (((4294967295 - crcX x0 (s.data.toList.take s.size) : Nat) : Int) = ((4294967295 - crcX x0 s.data.toList : Nat) : Int)) := by show _ = _; rw [HW.out]
   generalize 4294967295 - crcX x0 (s.data.toList.take s.size) = r at *
   go_wp2_with fail
   go_ret
   exact ⟨ret_u32 HF.out, rfl⟩
set_option maxRecDepth 100000 in
theorem csum (s : ByteArray) (w : World) (hs : s.size ≤ maxLen) :
  Calls Tryz.prog 103 #[.string s] w fun e w' => e = .returned (.int .u32 (crc s.data.toList)) ∧ w = w' := by
 have h := fun w => cmore 0 s w (by omega) hs
 have e : 4294967295 - crcX (4294967295 - 0) s.data.toList = crc s.data.toList := rfl
 rw [e] at h
 go_enter Tryz.func103, Tryz.ntmps103
 go_wp2_with fail
 refine (h _).mono ?_; rintro e w' ⟨rfl, rfl⟩
 go_wp2_with fail
 go_ret
 exact ⟨rfl, rfl⟩
def sealL (l : List UInt8) : List UInt8 := l ++ numL (crc l) 4
set_option maxRecDepth 100000 in
theorem cseal (l : List UInt8) (w : World) (hs : l.length ≤ 1000000) :
  Calls Tryz.prog 111 #[.string (bs l)] w fun e w' => e = .returned (.string (bs (sealL l))) ∧ Kept [] w w' := by
 have hz : (bs l).size = l.length := bs_size l
 have h := fun w => csum (bs l) w (by unfold maxLen; omega)
 rw [bs_data] at h
 have hc := crc_lt l
 have hu := fun w => packU32 (crc l) w hc
 have hz2 : (bs (numL (crc l) 4)).size ≤ 4 := by rw [bs_size, numL_len]; omega
 have hfin : Hid (bs l ++ bs (numL (crc l) 4) = bs (sealL l)) := by show bs l ++ bs _ = _; rw [bs_append]; rfl
 generalize crc l = c at *
 go_enter Tryz.func111, Tryz.ntmps111
 go_wp2_with fail
 refine (h _).mono ?_; rintro e w' ⟨rfl, rfl⟩
 go_wp2_with fail
 refine (hu _).mono ?_; rintro e w1 ⟨rfl, hk⟩
 go_wp2_with fail
 go_ret
 exact ⟨by rw [← hfin.out]; rfl, hk⟩
set_option maxRecDepth 100000 in
theorem pslot (n : Nat) (w : World) (hn : n < 18446744073709551616) :
  Calls Tryz.prog 94 #[.int .u64 n] w fun e w' => e = .returned (.int .i64 ((n % 2 : Nat) : Int)) ∧ w = w' := by
 have e1 : 0 ≤ (n : Int) % 2 := by omega
 have e2 : (n : Int) % 2 ≤ 1 := by omega
 go_enter Tryz.func94, Tryz.ntmps94
 go_wp2_with fail
 go_ret
 refine ⟨?_, rfl⟩
 show Ending.returned (Value.int .i64 ((n : Int) % 2)) = Ending.returned (Value.int .i64 ((n % 2 : Nat) : Int))
 rw [Int.natCast_emod]; rfl
set_option maxRecDepth 100000 in
theorem pnext (s : SB) (v : Value) (lo hi : Nat) (w : World) (h : RunsIn w v s.runs lo hi) (hl : s.runs.length ≤ 1000000) (hq : s.seq ≤ 9223372036854775808) :
  Calls Tryz.prog 108 #[.agg (s.cells v)] w fun e w' => (∃ v', e = .returned (.agg (SB.cells { s with seq := s.seq + 1 } v')) ∧ RunsIn w' v' s.runs w.heap.size w'.heap.size) ∧ Kept [] w w' := by
 have hC := fun w' (hk : Kept [] w w') => pclone v s.runs lo hi w' (h.kept0 hk) hl
 have HC := Lib.hid hC
 obtain ⟨p, c, rfl⟩ := h.shape
 obtain ⟨o1, o2⟩ := own_two w (s.cells (.slice p s.runs.length c)) (SB.cells ⟨0, 0, 0, 0, 0, []⟩ (.slice none 0 0)) 58 58
 clear hC h
 unfold SB.cells at *
 obtain ⟨c0, c1, c2, c3, c4, c5⟩ := o1.c6
 have z0 := o1.z6
 obtain ⟨p1, p2⟩ := own_two w #[.int .u64 ((s.seq : Int) + 1), .int .i64 s.sectors, .int .i64 s.journal, .int .i64 s.used, .int .i64 s.size, .slice p s.runs.length c] #[.int .u64 0, .int .i64 0, .int .i64 0, .int .i64 0, .int .i64 0, .slice none 0 0] 58 58
 go_enter Tryz.func108, Tryz.ntmps108
 go_wp2_with fail
 refine (HC.out _ (((Kept.refl _ _).alloc _).alloc _)).mono ?_; rintro e w1 ⟨⟨v', rfl, hr⟩, hk⟩
 obtain ⟨pp, cc, rfl⟩ := hr.shape
 have q1 := hk.own p1 (by simp)
 have q2 := hk.own p2 (by simp)
 have hkk : Kept [] w w1 := (((Kept.refl _ _).alloc _).alloc _).trans hk
 obtain ⟨d0, d1, d2, d3, d4, d5⟩ := q1.c6
 have z1 := q1.z6
 have z2 := q2.z6
 obtain ⟨f0, f1, f2, f3, f4, f5⟩ := q2.c6
 go_wp2_with fail
 have hS := Kept.set6 ((Kept.refl [w.heap.size, w.heap.size + 1] w1).setCell (p := ⟨w.heap.size, 5, none⟩) (Or.inl (by simp)) (.slice pp s.runs.length cc)) (b := w.heap.size + 1) (Or.inl (by simp)) (.int .u64 ((s.seq : Int) + 1)) (.int .i64 s.sectors) (.int .i64 s.journal) (.int .i64 s.used) (.int .i64 s.size) (.slice pp s.runs.length cc)
 have hr2 := hr.kept hS (fun x hx => by simp at hx ⊢; omega)
 refine bodyPost_ret (v := .agg #[.int .u64 ((s.seq : Int) + 1), .int .i64 s.sectors, .int .i64 s.journal, .int .i64 s.used, .int .i64 s.size, .slice pp s.runs.length cc]) ?_ ?_ ?_
 ·exact ret_row Tryz.results108 rfl ((q2.other (p := ⟨w.heap.size, 5, none⟩) (by simp) _).set6 _ _ _ _ _ _) Tryz.underlying58 rfl (by kernel_rfl)
 ·rfl
 ·refine ⟨⟨_, rfl, hr2.weaken (by simp; omega) (by simp [World.setCell]) (Nat.le_refl _)⟩, ?_⟩
  exact hkk.call hS (fun x hx => by simp at hx; omega)
def chainD : List (DK → DK × Int) → DK → DK × Int
 | [], d => (d, 0)
 | f :: fs, d => if (f d).2 = 0 then chainD fs (f d).1 else f d
def stepW (i : Int) (s : List UInt8) (d : DK) : DK × Int := (wNext d i s, wCode d i s)
def stepF (d : DK) : DK × Int := (fNext d, fCode d)
def stN (fs : List (DK → DK × Int)) (d : DK) (k : Nat) : DK := (fs.take k).foldl (fun x f => (f x).1) d
theorem stN_succ (fs : List (DK → DK × Int)) (d : DK) (k : Nat) (h : k < fs.length) : stN fs d (k + 1) = (fs[k] (stN fs d k)).1 := by
 unfold stN
 rw [List.take_succ_eq_append_getElem h, List.foldl_append]
 rfl
theorem chain_stop : ∀ (fs : List (DK → DK × Int)) (d : DK) (k : Nat) (h : k < fs.length), (∀ i (hi : i < k), ((fs[i]'(by omega)) (stN fs d i)).2 = 0) → (fs[k] (stN fs d k)).2 ≠ 0 → chainD fs d = fs[k] (stN fs d k)
 | [], d, k, h, _, _ => by simp at h
 | f :: fs, d, 0, h, _, h2 => by
  have h2' : (f d).2 ≠ 0 := h2
  show (if (f d).2 = 0 then _ else f d) = f d
  rw [if_neg h2']
 | f :: fs, d, k + 1, h, h1, h2 => by
  have h3 : (f d).2 = 0 := h1 0 (by omega)
  show (if (f d).2 = 0 then chainD fs (f d).1 else f d) = _
  rw [if_pos h3]
  exact chain_stop fs (f d).1 k (by simpa using h) (fun i hi => h1 (i + 1) (by omega)) h2
theorem chain_end : ∀ (fs : List (DK → DK × Int)) (d : DK), (∀ i (hi : i < fs.length), (fs[i] (stN fs d i)).2 = 0) → chainD fs d = (stN fs d fs.length, 0)
 | [], d, _ => rfl
 | f :: fs, d, h1 => by
  have h3 : (f d).2 = 0 := h1 0 (by simp)
  show (if (f d).2 = 0 then chainD fs (f d).1 else f d) = _
  rw [if_pos h3]
  exact chain_end fs (f d).1 (fun i hi => h1 (i + 1) (by simpa using hi))
theorem uallD {T : List Nat} (fs : List (DK → DK × Int)) (us : List (Nat × Array Value × Array Value)) (hl : us.length = fs.length) (g off c : Nat) {w : World} {b sb mb lo : Nat} {d : DK} (hD : DA w b sb mb lo d) (hn : us.length ≤ 1000)
  (hen : ∀ (i : Nat) (h : i < us.length), Enters Tryz.prog us[i].1)
  (hg : g < w.heap.size) (ho : OffD T w b sb mb g)
  (hcell : ∀ (i : Nat) (h : i < us.length), w.cell? ⟨g, off + i, none⟩ = some (.func (.func us[i].1) us[i].2.1 us[i].2.2))
  (hstep : ∀ (k : Nat) (h : k < us.length) W, DA W b sb mb lo (stN fs d k) → PK T b sb mb w W → (∀ i (hi : i < k), ((fs[i]'(by omega)) (stN fs d i)).2 = 0) → Calls Tryz.prog us[k].1 (us[k].2.1 ++ us[k].2.2) W fun e W' => e = .returned (.int .i64 ((fs[k]'(hl ▸ h)) (stN fs d k)).2) ∧ DA W' b sb mb lo ((fs[k]'(hl ▸ h)) (stN fs d k)).1 ∧ PK T b sb mb W W') :
  Calls Tryz.prog 37 #[.slice (some ⟨g, off, none⟩) us.length c] w fun e w' => e = .returned (.int .i64 (chainD fs d).2) ∧ DA w' b sb mb lo (chainD fs d).1 ∧ PK T b sb mb w w' := by
 refine (uall us (fun k => if h : k < fs.length then (fs[k] (stN fs d k)).2 else 0) (fun k W => DA W b sb mb lo (stN fs d k) ∧ PK T b sb mb w W) g off c w hn hen ⟨hD, PK.refl _ _ _ _ _⟩ (fun k W hI i h => ?_) (fun k h W hI hz => ?_)).mono ?_
 ·rw [World.cell?_of_block (w := w) (a := ⟨g, _, none⟩) (hI.2.same ho hg)]
  exact hcell i h
 ·have hk : k < fs.length := hl ▸ h
  refine (hstep k h W hI.1 hI.2 (fun i hi => ?_)).mono ?_
  ·have := hz i hi
   rw [dif_pos (by omega)] at this
   exact this
  ·rintro e W' ⟨h1, h2, h3⟩
   rw [dif_pos hk, stN_succ fs d k hk]
   exact ⟨h1, h2, hI.2.trans h3⟩
 ·rintro e w' (⟨k, h1, h2, h3, h4, h5, h6⟩ | ⟨h2, h4, h5, h6⟩)
  ·have hk : k < fs.length := hl ▸ h1
   rw [dif_pos hk] at h3 h4
   rw [stN_succ fs d k hk] at h5
   rw [chain_stop fs d k hk (fun i hi => by
    have := h2 i hi
    rw [dif_pos (by omega)] at this
    exact this) h3]
   exact ⟨h4, h5, h6⟩
  ·rw [chain_end fs d (fun i hi => by
    have := h2 i (by omega)
    rw [dif_pos hi] at this
    exact this)]
   rw [hl] at h5
   exact ⟨h4, h5, h6⟩
theorem uwrite (b : Nat) (i : Int) (s : List UInt8) (w : World) :
  Calls Tryz.prog 38 #[.pointer (some ⟨b, 0, none⟩), .int .i64 i, .string (bs s)] w fun e w' => e = .returned (.func (.func 87) #[] #[.pointer (some ⟨w.heap.size, 0, none⟩), .pointer (some ⟨w.heap.size + 1, 0, none⟩), .pointer (some ⟨w.heap.size + 2, 0, none⟩)]) ∧ ((w.alloc (.cells #[.pointer (some ⟨b, 0, none⟩)] 23)).alloc (.cells #[.int .i64 i] 3)).alloc (.cells #[.string (bs s)] 9) = w' := by
 go_enter Tryz.func38, Tryz.ntmps38
 go_wp2_with fail
 go_ret
 exact ⟨rfl, rfl⟩
theorem uwrite1 {T : List Nat} (g1 g2 g3 : Nat) (i : Int) (s : List UInt8) {w : World} {b sb mb lo : Nat} {d : DK} (hD : DA w b sb mb lo d) (h1 : Own w g1 #[.pointer (some ⟨b, 0, none⟩)] 23) (h2 : Own w g2 #[.int .i64 i] 3) (h3 : Own w g3 #[.string (bs s)] 9) (ho : d.ops < 100000) (hw : d.waits.length ≤ 10000) :
  Calls Tryz.prog 87 #[.pointer (some ⟨g1, 0, none⟩), .pointer (some ⟨g2, 0, none⟩), .pointer (some ⟨g3, 0, none⟩)] w fun e w' => e = .returned (.int .i64 (stepW i s d).2) ∧ DA w' b sb mb lo (stepW i s d).1 ∧ PK T b sb mb w w' := by
 have hW := hD.write i s ho hw
 have c1 := h1.cell 0 (by simp)
 have c2 := h2.cell 0 (by simp)
 have c3 := h3.cell 0 (by simp)
 simp only [List.getElem_toArray, List.getElem_cons_zero] at c1 c2 c3
 clear hD h1 h2 h3
 unfold stepW
 go_enter Tryz.func87, Tryz.ntmps87
 go_wp2_with fail
 refine hW.mono ?_; rintro e w2 ⟨rfl, h4, h5⟩
 go_wp2_with fail
 go_ret
 exact ⟨rfl, h4, h5.mono (by simp)⟩
set_option maxRecDepth 100000 in
theorem fword (n : Int) (w : World) :
  Calls Tryz.prog 224 #[.int .i64 n] w fun e w' => e = .returned (.func (.func 225) #[] #[.pointer (some ⟨w.heap.size, 0, none⟩)]) ∧ w.alloc (.cells #[.int .i64 n] 3) = w' := by
 go_enter Tryz.func224, Tryz.ntmps224
 go_wp2_with fail
 go_ret
 exact ⟨rfl, rfl⟩
set_option maxRecDepth 100000 in
theorem fhalf (n : Int) (w : World) :
  Calls Tryz.prog 226 #[.int .i64 n] w fun e w' => e = .returned (.func (.func 227) #[] #[.pointer (some ⟨w.heap.size, 0, none⟩)]) ∧ w.alloc (.cells #[.int .i64 n] 3) = w' := by
 go_enter Tryz.func226, Tryz.ntmps226
 go_wp2_with fail
 go_ret
 exact ⟨rfl, rfl⟩
inductive Ly
 | hd (s : SB) (v : Value)
 | wd (n : Nat)
 | hf (n : Nat)
def magicL : List UInt8 := [83, 72, 69, 65, 70, 48, 48, 49]
def Ly.txt : Ly → List UInt8
 | .hd s _ => magicL ++ numL s.seq 8
 | .wd n => numL n 4
 | .hf n => numL n 2
def LayAt (w : World) (lo : Nat) (v : Value) : Ly → Prop
 | .hd s u => ∃ g, lo ≤ g ∧ v = .func (.func 228) #[] #[.pointer (some ⟨g, 0, none⟩)] ∧ Own w g (s.cells u) 58 ∧ s.seq < 18446744073709551616
 | .wd n => ∃ g, lo ≤ g ∧ v = .func (.func 225) #[] #[.pointer (some ⟨g, 0, none⟩)] ∧ Own w g #[.int .i64 n] 3 ∧ n < 4294967296
 | .hf n => ∃ g, lo ≤ g ∧ v = .func (.func 227) #[] #[.pointer (some ⟨g, 0, none⟩)] ∧ Own w g #[.int .i64 n] 3 ∧ n < 65536
theorem LayAt.kept {S : List Nat} {w w' : World} {lo : Nat} {v : Value} {y : Ly} (h : LayAt w lo v y) (k : Kept S w w') (hS : ∀ x ∈ S, x < lo) : LayAt w' lo v y := by
 have key : ∀ g, lo ≤ g → g ∉ S := fun g hg hx => by have := hS g hx; omega
 cases y with
 | hd s u => obtain ⟨g, h1, h2, h3, h4⟩ := h; exact ⟨g, h1, h2, k.own h3 (key g h1), h4⟩
 | wd n => obtain ⟨g, h1, h2, h3, h4⟩ := h; exact ⟨g, h1, h2, k.own h3 (key g h1), h4⟩
 | hf n => obtain ⟨g, h1, h2, h3, h4⟩ := h; exact ⟨g, h1, h2, k.own h3 (key g h1), h4⟩
set_option maxRecDepth 100000 in
theorem cl_wd (g n : Nat) (w : World) (h : Own w g #[.int .i64 n] 3) (hn : n < 4294967296) :
  Calls Tryz.prog 225 #[.pointer (some ⟨g, 0, none⟩)] w fun e w' => e = .returned (.string (bs (numL n 4))) ∧ Kept [] w w' := by
 have hu := fun w => packU32 n w hn
 have c0 : w.cell? ⟨g, 0, none⟩ = some (.int .i64 (n : Int)) := h.cell 0 (by simp)
 have e1 : IntKind.u32.wrap (n : Int) = (n : Int) := by rw [IntKind.wrap_u32]; omega
 go_enter Tryz.func225, Tryz.ntmps225
 go_wp2_with fail
 refine (hu _).mono ?_; rintro e w1 ⟨rfl, hk⟩
 go_wp2_with fail
 go_ret
 exact ⟨rfl, hk⟩
set_option maxRecDepth 100000 in
theorem cl_hf (g n : Nat) (w : World) (h : Own w g #[.int .i64 n] 3) (hn : n < 65536) :
  Calls Tryz.prog 227 #[.pointer (some ⟨g, 0, none⟩)] w fun e w' => e = .returned (.string (bs (numL n 2))) ∧ Kept [] w w' := by
 have hu := fun w => packU16 n w hn
 have c0 : w.cell? ⟨g, 0, none⟩ = some (.int .i64 (n : Int)) := h.cell 0 (by simp)
 go_enter Tryz.func227, Tryz.ntmps227
 go_wp2_with fail
 refine (hu _).mono ?_; rintro e w1 ⟨rfl, hk⟩
 go_wp2_with fail
 go_ret
 exact ⟨rfl, hk⟩
set_option maxRecDepth 100000 in
theorem cl_hd (g : Nat) (s : SB) (u : Value) (w : World) (h : Own w g (s.cells u) 58) (hn : s.seq < 18446744073709551616) :
  Calls Tryz.prog 228 #[.pointer (some ⟨g, 0, none⟩)] w fun e w' => e = .returned (.string (bs (magicL ++ numL s.seq 8))) ∧ Kept [] w w' := by
 have hu := fun w => packU64 s.seq w hn
 have c0 : w.cell? ⟨g, 0, none⟩ = some (.int .u64 (s.seq : Int)) := Own.cell h 0 (by simp [SB.cells])
 have hz : (bs (numL s.seq 8)).size ≤ 8 := by rw [bs_size, numL_len]; omega
 have hfin : Hid (bs magicL ++ bs (numL s.seq 8) = bs (magicL ++ numL s.seq 8)) := by show bs magicL ++ _ = _; rw [bs_append]
 generalize numL s.seq 8 = N at *
 go_enter Tryz.func228, Tryz.ntmps228
 go_wp2_with fail
 refine (hu _).mono ?_; rintro e w1 ⟨rfl, hk⟩
 go_wp2_with fail
 go_ret
 exact ⟨by rw [← hfin.out]; rfl, hk⟩
end Go.Proofs.YtdkimcnlhmhpgaaGreat
