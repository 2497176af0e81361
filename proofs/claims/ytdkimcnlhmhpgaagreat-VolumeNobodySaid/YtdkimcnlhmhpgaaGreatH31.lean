/- -/
import Derived.Test.YtdkimcnlhmhpgaaGreatH05
import Derived.Test.YtdkimcnlhmhpgaaGreatH29
import Derived.Test.YtdkimcnlhmhpgaaGreatH30
set_option linter.unusedVariables false
set_option linter.unusedSimpArgs false
namespace Go.Proofs.YtdkimcnlhmhpgaaGreat
open Go.RowKit
theorem chain_few (m : Nat) : ∀ (fs : List (DK → DK × Int)), (∀ f ∈ fs, ∀ d, (f d).1.ops ≤ d.ops + m ∧ (f d).1.waits.length ≤ d.waits.length + m ∧ (f d).1.stand.length = d.stand.length) → ∀ d, (chainD fs d).1.ops ≤ d.ops + fs.length * m ∧ (chainD fs d).1.waits.length ≤ d.waits.length + fs.length * m ∧ (chainD fs d).1.stand.length = d.stand.length
 | [], _, d => ⟨by simp [chainD], by simp [chainD], rfl⟩
 | f :: fs, h, d => by
  have h1 := h f (by simp) d
  have h2 := chain_few m fs (fun g hg => h g (by simp [hg])) (f d).1
  unfold chainD
  rw [List.length_cons, Nat.add_mul]
  split
  ·exact ⟨by omega, by omega, h2.2.2.trans h1.2.2⟩
  ·exact ⟨by omega, by omega, h1.2.2⟩
theorem stepW_few (i : Int) (s : List UInt8) (d : DK) : (stepW i s d).1.ops ≤ d.ops + 1 ∧ (stepW i s d).1.waits.length ≤ d.waits.length + 1 ∧ (stepW i s d).1.stand.length = d.stand.length := wNext_ops d i s
theorem stepF_few (d : DK) : (stepF d).1.ops ≤ d.ops + 1 ∧ (stepF d).1.waits.length ≤ d.waits.length + 1 ∧ (stepF d).1.stand.length = d.stand.length := by
 obtain ⟨h1, h2, h3⟩ := fNext_ops d
 exact ⟨h1, by show (fNext d).waits.length ≤ _; omega, h3⟩
theorem layD_few (s : SB) (d : DK) : (layD s d).1.ops ≤ d.ops + 2 ∧ (layD s d).1.waits.length ≤ d.waits.length + 2 ∧ (layD s d).1.stand.length = d.stand.length := by
 refine chain_few 1 [stepW ((s.seq % 2 : Nat) : Int) s.sector, stepF] (fun f hf d => ?_) d
 simp only [List.mem_cons, List.not_mem_nil, or_false] at hf
 rcases hf with rfl | rfl
 ·exact stepW_few _ _ _
 ·exact stepF_few _
structure VS where
 d : DK
 s : SB
 c : JCat
 dead : Bool
def volCells (b : Nat) (s : SB) (sv : Value) (c : JCat) (vb vm vn : Value) (dead : Bool) : Array Value := #[.pointer (some ⟨b, 0, none⟩), .int .u64 s.seq, .int .i64 s.sectors, .int .i64 s.journal, .int .i64 s.used, .int .i64 s.size, sv, .int .u32 c.nextBox, .int .u32 c.nextMan, vb, vm, vn, .bool dead]
structure VolAt (T : List Nat) (w : World) (B b sb mb lo : Nat) (v : VS) : Prop where
 da : DA w b sb mb lo v.d
 vol : ∃ sv vb vm vn, Own w B (volCells b v.s sv v.c vb vm vn v.dead) 90 ∧ RunsO T w b sb mb sv v.s.runs ∧ CatO T w b sb mb (.agg #[.int .u32 v.c.nextBox, .int .u32 v.c.nextMan, vb, vm, vn]) v.c
 hB : B ∈ T
 hT : ∀ x ∈ T, x < w.heap.size
 off : OffD [] w b sb mb B
theorem VolAt.pk {S T : List Nat} {w w' : World} {B b sb mb lo : Nat} {v : VS} {d' : DK} (h : VolAt T w B b sb mb lo v) (k : PK S b sb mb w w') (hD : DA w' b sb mb lo d') (hS : ∀ x ∈ S, x ∈ T) (hBS : B ∉ S) : VolAt T w' B b sb mb lo ⟨d', v.s, v.c, v.dead⟩ := by
 obtain ⟨sv, vb, vm, vn, h1, h2, h3⟩ := h.vol
 have hoff : OffD S w b sb mb B := ⟨hBS, h.off.2⟩
 exact ⟨hD, ⟨sv, vb, vm, vn, k.own h1 hoff, h2.pk (k.mono hS), h3.pk (k.mono hS)⟩, h.hB, fun x hx => Nat.lt_of_lt_of_le (h.hT x hx) k.size, ⟨by simp, (hoff.pk k h1.lt).2⟩⟩
def sb0 (n j : Int) : SB := ⟨1, n, j, 0, 0, []⟩
theorem sb0_may {n j : Int} (h1 : 1 ≤ j) (h2 : 4 ≤ n) (h3 : j ≤ n - 2) (h4 : n ≤ 8192) : (sb0 n j).may :=
 ⟨⟨Nat.le_refl _, h2, h4, h1, h3, Int.le_refl _, by show (0 : Int) ≤ j * 128; omega, Int.le_refl _, by show (0 : Int) ≤ 1048576; omega, by show 0 ≤ 16; omega⟩, rfl, rfl⟩
def fmtD (j : Int) (d : DK) : DK × Int := chainD [stepW 0 zeroS, stepW 1 zeroS, stepF, layD (sb0 d.stand.length j)] d
theorem ufmtall {T : List Nat} (n g1 g2 g3 g4 g5 g6 gS gD : Nat) (j : Int) (rv : Value) {w : World} {b sb mb lo : Nat} {d : DK} (hD : DA w b sb mb lo d) (hT : ∀ x ∈ T, x < w.heap.size)
  (on : Own w n #[.func (.func 87) #[] #[.pointer (some ⟨g1, 0, none⟩), .pointer (some ⟨g2, 0, none⟩), .pointer (some ⟨g3, 0, none⟩)], .func (.func 87) #[] #[.pointer (some ⟨g4, 0, none⟩), .pointer (some ⟨g5, 0, none⟩), .pointer (some ⟨g6, 0, none⟩)], .func (.func 39) #[.pointer (some ⟨b, 0, none⟩)] #[], .func (.func 92) #[] #[.pointer (some ⟨gS, 0, none⟩), .pointer (some ⟨gD, 0, none⟩)]] 42)
  (h1 : Own w g1 #[.pointer (some ⟨b, 0, none⟩)] 23) (h2 : Own w g2 #[.int .i64 0] 3) (h3 : Own w g3 #[.string (bs zeroS)] 9)
  (h4 : Own w g4 #[.pointer (some ⟨b, 0, none⟩)] 23) (h5 : Own w g5 #[.int .i64 1] 3) (h6 : Own w g6 #[.string (bs zeroS)] 9)
  (hS : Own w gS ((sb0 d.stand.length j).cells (.slice none 0 0)) 58) (hd : Own w gD #[.pointer (some ⟨b, 0, none⟩)] 23)
  (f0 : OffD T w b sb mb n) (f1 : OffD T w b sb mb g1) (f2 : OffD T w b sb mb g2) (f3 : OffD T w b sb mb g3) (f4 : OffD T w b sb mb g4) (f5 : OffD T w b sb mb g5) (f6 : OffD T w b sb mb g6) (fS : OffD T w b sb mb gS) (fD : OffD T w b sb mb gD)
  (hm : (sb0 d.stand.length j).may) (ho : d.ops ≤ 80000) (hw : d.waits.length ≤ 8000) :
  Calls Tryz.prog 37 #[.slice (some ⟨n, 0, none⟩) 4 4] w fun e w' => e = .returned (.int .i64 (fmtD j d).2) ∧ DA w' b sb mb lo (fmtD j d).1 ∧ PK T b sb mb w w' := by
 refine uallD [stepW 0 zeroS, stepW 1 zeroS, stepF, layD (sb0 d.stand.length j)] [(87, #[], #[.pointer (some ⟨g1, 0, none⟩), .pointer (some ⟨g2, 0, none⟩), .pointer (some ⟨g3, 0, none⟩)]), (87, #[], #[.pointer (some ⟨g4, 0, none⟩), .pointer (some ⟨g5, 0, none⟩), .pointer (some ⟨g6, 0, none⟩)]), (39, #[.pointer (some ⟨b, 0, none⟩)], #[]), (92, #[], #[.pointer (some ⟨gS, 0, none⟩), .pointer (some ⟨gD, 0, none⟩)])] rfl n 0 4 hD (by simp) (fun k h => ?_) on.lt f0 (fun k h => ?_) (fun k h W hW hk _ => ?_)
 ·match k, h with
  | 0, _ => exact enters_of Tryz.func87 (by kernel_rfl) rfl
  | 1, _ => exact enters_of Tryz.func87 (by kernel_rfl) rfl
  | 2, _ => exact enters_of Tryz.func39 (by kernel_rfl) rfl
  | 3, _ => exact enters_of Tryz.func92 (by kernel_rfl) rfl
 ·match k, h with
  | 0, _ => exact on.cell 0 (by simp)
  | 1, _ => exact on.cell 1 (by simp)
  | 2, _ => exact on.cell 2 (by simp)
  | 3, _ => exact on.cell 3 (by simp)
 ·have e1 := stepW_few 0 zeroS d
  have e2 := stepW_few 1 zeroS (stepW 0 zeroS d).1
  have e3 := stepF_few (stepW 1 zeroS (stepW 0 zeroS d).1).1
  match k, h with
  | 0, _ =>
   have := uwrite1 (T := T) g1 g2 g3 0 zeroS hW (hk.own h1 f1) (hk.own h2 f2) (hk.own h3 f3) (by show d.ops < _; omega) (by show d.waits.length ≤ _; omega)
   exact this
  | 1, _ =>
   have := uwrite1 (T := T) g4 g5 g6 1 zeroS hW (hk.own h4 f4) (hk.own h5 f5) (hk.own h6 f6) (by show (stepW 0 zeroS d).1.ops < _; omega) (by show (stepW 0 zeroS d).1.waits.length ≤ _; omega)
   exact this
  | 2, _ => exact uflush hW (by show (stepW 1 zeroS (stepW 0 zeroS d).1).1.ops < _; omega) (by show (stepW 1 zeroS (stepW 0 zeroS d).1).1.waits.length ≤ _; omega)
  | 3, _ =>
   have := ulaid1 (T := T) gS gD (sb0 d.stand.length j) (.slice none 0 0) hW (fun x hx => Nat.lt_of_lt_of_le (hT x hx) hk.size) (hk.own hS fS) (hk.own hd fD) (RunsO.nil none 0) hm (by show 1 < _; omega) (fS.pk hk hS.lt) (fD.pk hk hd.lt) (by show (stepF (stepW 1 zeroS (stepW 0 zeroS d).1).1).1.ops ≤ _; omega) (by show (stepF (stepW 1 zeroS (stepW 0 zeroS d).1).1).1.waits.length ≤ _; omega)
   exact this
def FmtSays (T : List Nat) (b sb mb lo : Nat) (d : DK) (j : Int) (w : World) (e : Ending) (w' : World) : Prop :=
 ((j < 1 ∨ (d.stand.length : Int) < 4 ∨ (d.stand.length : Int) - 2 < j) ∧ e = .returned (.tuple #[.pointer none, .int .i64 1]) ∧ w = w') ∨
 ((1 ≤ j ∧ 4 ≤ (d.stand.length : Int) ∧ j ≤ (d.stand.length : Int) - 2) ∧ DA w' b sb mb lo (fmtD j d).1 ∧ PK T b sb mb w w' ∧
  (((fmtD j d).2 ≠ 0 ∧ e = .returned (.tuple #[.pointer none, .int .i64 (fmtD j d).2])) ∨
  ((fmtD j d).2 = 0 ∧ ∃ B, w.heap.size ≤ B ∧ OffD [] w' b sb mb B ∧ Own w' B (volCells b (sb0 d.stand.length j) (.slice none 0 0) ⟨1, 1, [], [], []⟩ (.slice none 0 0) (.slice none 0 0) (.slice none 0 0) false) 90 ∧ e = .returned (.tuple #[.pointer (some ⟨B, 0, none⟩), .int .i64 0]))))
set_option maxRecDepth 100000 in
set_option maxHeartbeats 8000000 in
theorem uformat {T : List Nat} (j : Int) {w : World} {b sb mb lo : Nat} {d : DK} (hD : DA w b sb mb lo d) (hT : ∀ x ∈ T, x < w.heap.size) (hj : (Lit.int .i64 j).wf = true) (ho : d.ops ≤ 80000) (hw : d.waits.length ≤ 8000) :
  Calls Tryz.prog 10 #[.pointer (some ⟨b, 0, none⟩), .int .i64 j] w (FmtSays T b sb mb lo d j w) := by
 have hlen := hD.len
 have hdl := dLen b sb mb lo d w hD.disk
 obtain ⟨j1, j2⟩ := bd64 hj
 obtain ⟨n, hn⟩ : ∃ n, d.stand.length = n := ⟨_, rfl⟩
 have HA : Hid (1 ≤ j → 4 ≤ (n : Int) → j ≤ (n : Int) - 2 → ∀ W, Kept [] w W → ∀ n1 g1 g2 g3 g4 g5 g6 gS gD, w.heap.size ≤ n1 → w.heap.size ≤ g1 → w.heap.size ≤ g2 → w.heap.size ≤ g3 → w.heap.size ≤ g4 → w.heap.size ≤ g5 → w.heap.size ≤ g6 → w.heap.size ≤ gS → w.heap.size ≤ gD →
   Own W n1 #[.func (.func 87) #[] #[.pointer (some ⟨g1, 0, none⟩), .pointer (some ⟨g2, 0, none⟩), .pointer (some ⟨g3, 0, none⟩)], .func (.func 87) #[] #[.pointer (some ⟨g4, 0, none⟩), .pointer (some ⟨g5, 0, none⟩), .pointer (some ⟨g6, 0, none⟩)], .func (.func 39) #[.pointer (some ⟨b, 0, none⟩)] #[], .func (.func 92) #[] #[.pointer (some ⟨gS, 0, none⟩), .pointer (some ⟨gD, 0, none⟩)]] 42 →
   Own W g1 #[.pointer (some ⟨b, 0, none⟩)] 23 → Own W g2 #[.int .i64 0] 3 → Own W g3 #[.string (bs zeroS)] 9 →
   Own W g4 #[.pointer (some ⟨b, 0, none⟩)] 23 → Own W g5 #[.int .i64 1] 3 → Own W g6 #[.string (bs zeroS)] 9 →
   Own W gS #[.int .u64 1, .int .i64 n, .int .i64 j, .int .i64 0, .int .i64 0, .slice none 0 0] 58 → Own W gD #[.pointer (some ⟨b, 0, none⟩)] 23 →
   Calls Tryz.prog 37 #[.slice (some ⟨n1, 0, none⟩) 4 4] W fun e w' => e = .returned (.int .i64 (fmtD j d).2) ∧ DA w' b sb mb lo (fmtD j d).1 ∧ PK T b sb mb W w') := Lib.hid (fun c1 c2 c3 W k n1 g1 g2 g3 g4 g5 g6 gS gD a0 a1 a2 a3 a4 a5 a6 a7 a8 o0 o1 o2 o3 o4 o5 o6 o7 o8 =>
  ufmtall n1 g1 g2 g3 g4 g5 g6 gS gD j (.slice none 0 0) (hD.keep0 k) (fun x hx => Nat.lt_of_lt_of_le (hT x hx) k.size) o0 o1 o2 o3 o4 o5 o6 (by rw [hn]; exact o7) o8 (hD.off_new hT k a0) (hD.off_new hT k a1) (hD.off_new hT k a2) (hD.off_new hT k a3) (hD.off_new hT k a4) (hD.off_new hT k a5) (hD.off_new hT k a6) (hD.off_new hT k a7) (hD.off_new hT k a8) (by rw [hn]; exact sb0_may c1 c2 c3 (by omega)) ho hw)
 have HW : Hid (∀ i W, Calls Tryz.prog 38 #[.pointer (some ⟨b, 0, none⟩), .int .i64 i, .string (bs zeroS)] W fun e w' => e = .returned (.func (.func 87) #[] #[.pointer (some ⟨W.heap.size, 0, none⟩), .pointer (some ⟨W.heap.size + 1, 0, none⟩), .pointer (some ⟨W.heap.size + 2, 0, none⟩)]) ∧ ((W.alloc (.cells #[.pointer (some ⟨b, 0, none⟩)] 23)).alloc (.cells #[.int .i64 i] 3)).alloc (.cells #[.string (bs zeroS)] 9) = w') := Lib.hid (fun i W => uwrite b i zeroS W)
 have HL : Hid (∀ W, Calls Tryz.prog 40 #[.pointer (some ⟨b, 0, none⟩), .agg #[.int .u64 1, .int .i64 n, .int .i64 j, .int .i64 0, .int .i64 0, .slice none 0 0]] W fun e w' => e = .returned (.func (.func 92) #[] #[.pointer (some ⟨W.heap.size + 1, 0, none⟩), .pointer (some ⟨W.heap.size, 0, none⟩)]) ∧ (W.alloc (.cells #[.pointer (some ⟨b, 0, none⟩)] 23)).alloc (.cells #[.int .u64 1, .int .i64 n, .int .i64 j, .int .i64 0, .int .i64 0, .slice none 0 0] 58) = w') := Lib.hid (fun W => ulaid b (sb0 n j) (.slice none 0 0) W)
 have HD := Lib.hid hD
 have HT := Lib.hid hT
 rw [hn] at hdl
 have i1 : (1 : Int) ≤ n := by omega
 have i2 : (n : Int) ≤ 8192 := by omega
 have g0 : ((n : Int) == 0) = false := by rw [beq_eq_false_iff_ne]; omega
 unfold FmtSays
 rw [hn]
 have HDL := Lib.hid hdl
 have hmk := run_make_bytes128
 have hcv := run_conv128
 have hHN := Lib.hid hn
 clear hD hT hdl hj hlen hn ho hw
 generalize hF : fmtD j d = F at *
 generalize zeroS = Z at *
 rcases (by omega : j < 1 ∨ (1 ≤ j ∧ (n : Int) < 4) ∨ (1 ≤ j ∧ 4 ≤ (n : Int) ∧ (n : Int) - 2 < j) ∨ (1 ≤ j ∧ 4 ≤ (n : Int) ∧ j ≤ (n : Int) - 2)) with c1 | ⟨c1, c2⟩ | ⟨c1, c2, c3⟩ | ⟨c1, c2, c3⟩
 ·go_enter Tryz.func10, Tryz.ntmps10
  go_wp2_with fail
  refine HDL.out.mono ?_; rintro e w' ⟨rfl, rfl⟩
  go_wp2_with fail
  go_ret2
  exact Or.inl ⟨by omega, rfl, rfl⟩
 ·go_enter Tryz.func10, Tryz.ntmps10
  go_wp2_with fail
  refine HDL.out.mono ?_; rintro e w' ⟨rfl, rfl⟩
  go_wp2_with fail
  go_ret2
  exact Or.inl ⟨by omega, rfl, rfl⟩
 ·go_enter Tryz.func10, Tryz.ntmps10
  go_wp2_with fail
  refine HDL.out.mono ?_; rintro e w' ⟨rfl, rfl⟩
  go_wp2_with fail
  go_ret2
  exact Or.inl ⟨by omega, rfl, rfl⟩
 ·have HALL := Lib.hid (HA.out c1 c2 c3)
  have hcv2 := hcv (w.alloc (.cells #[.int .u64 1, .int .i64 n, .int .i64 j, .int .i64 0, .int .i64 0, .slice none 0 0] 58))
  rw [World.size_alloc] at hcv2
  clear HA
  go_enter Tryz.func10, Tryz.ntmps10
  go_wp2_with fail
  refine HDL.out.mono ?_; rintro e w' ⟨rfl, rfl⟩
  go_upto_region 8 with fail
  have hs1 : ((w.alloc (.cells #[.int .u64 1, .int .i64 n, .int .i64 j, .int .i64 0, .int .i64 0, .slice none 0 0] 58)).alloc (.cells (Array.replicate 128 (.int .u8 0)) 5)).heap.size = w.heap.size + 1 + 1 := by simp only [World.size_alloc]
  have os1 : Own ((w.alloc (.cells #[.int .u64 1, .int .i64 n, .int .i64 j, .int .i64 0, .int .i64 0, .slice none 0 0] 58)).alloc (.cells (Array.replicate 128 (.int .u8 0)) 5)) w.heap.size #[.int .u64 1, .int .i64 n, .int .i64 j, .int .i64 0, .int .i64 0, .slice none 0 0] 58 := (own_two w #[.int .u64 1, .int .i64 n, .int .i64 j, .int .i64 0, .int .i64 0, .slice none 0 0] (Array.replicate 128 (.int .u8 0)) _ _).1
  have k1 : Kept [] w ((w.alloc (.cells #[.int .u64 1, .int .i64 n, .int .i64 j, .int .i64 0, .int .i64 0, .slice none 0 0] 58)).alloc (.cells (Array.replicate 128 (.int .u8 0)) 5)) := ((Kept.refl [] w).alloc _).alloc _
  generalize ((w.alloc (.cells #[.int .u64 1, .int .i64 n, .int .i64 j, .int .i64 0, .int .i64 0, .slice none 0 0] 58)).alloc (.cells (Array.replicate 128 (.int .u8 0)) 5)) = w1 at *
  have hoff : OffD T w1 b sb mb w.heap.size := HD.out.off_new HT.out k1 (Nat.le_refl _)
  have HB1 : Hid (b < w1.heap.size) := Lib.hid (Nat.lt_of_lt_of_le HD.out.b_lt k1.size)
  have HOS : Hid (∀ W, PK T b sb mb w1 W → Own W w.heap.size #[.int .u64 1, .int .i64 n, .int .i64 j, .int .i64 0, .int .i64 0, .slice none 0 0] 58) := Lib.hid (fun W k => k.own os1 hoff)
  obtain ⟨x0, x1, x2, x3, x4, x5⟩ := os1.c6
  have K1 := Lib.hid k1
  have HS1 := Lib.hid hs1
  have HOFF := Lib.hid hoff
  clear k1 hs1 os1 hoff hmk hcv hcv2
  go_cut [9] from 33 to 45 (fun v9 wx => v9 = .int .i64 F.2 ∧ DA wx b sb mb lo F.1 ∧ PK T b sb mb w wx ∧ Own wx w.heap.size #[.int .u64 1, .int .i64 n, .int .i64 j, .int .i64 0, .int .i64 0, .slice none 0 0] 58)
  case first =>
   refine wp_region_held_drew (S := (fun W => W.cell? ⟨w.heap.size, 0, none⟩ = some (.int .u64 1) ∧ W.cell? ⟨w.heap.size, 1, none⟩ = some (.int .i64 n) ∧ W.cell? ⟨w.heap.size, 2, none⟩ = some (.int .i64 j) ∧ W.cell? ⟨w.heap.size, 3, none⟩ = some (.int .i64 0) ∧ W.cell? ⟨w.heap.size, 4, none⟩ = some (.int .i64 0) ∧ W.cell? ⟨w.heap.size, 5, none⟩ = some (.slice none 0 0))) (by kernel_rfl) (by exact (HOS.out _ (((Kept.refl [] w1).drew).pk0 HB1.out)).c6) (fun hHeld => ?_)
   refine take_at (i := 0) (d := some 33) (v := ?_) rfl rfl (by kernel_rfl) (by kernel_rfl) (by kernel_rfl) (fun _ _ _ h => h) (Or.inl ⟨by rfl, ?_⟩) (by assumption) ?_
   rotate_left
   ·(intro w hSw; (try dsimp only at hSw); go_simp; try with_reducible rfl)
   try simp only [Act.put, List.setIfInBounds_toArray, List.set_cons_zero, List.set_cons_succ]
   refine take_at (i := 1) (d := some 34) (v := ?_) rfl rfl (by kernel_rfl) (by kernel_rfl) (by kernel_rfl) (fun _ _ _ h => h) (Or.inl ⟨by rfl, ?_⟩) (by assumption) ?_
   rotate_left
   ·(intro w hSw; (try dsimp only at hSw); go_simp; try with_reducible rfl)
   try simp only [Act.put, List.setIfInBounds_toArray, List.set_cons_zero, List.set_cons_succ]
   refine take_at (i := 3) (d := some 36) (v := ?_) rfl rfl (by kernel_rfl) (by kernel_rfl) (by kernel_rfl) (fun _ _ _ h => h) (Or.inl ⟨by rfl, ?_⟩) (by assumption) ?_
   rotate_left
   ·(intro w hSw; (try dsimp only at hSw); go_simp; try with_reducible rfl)
   try simp only [Act.put, List.setIfInBounds_toArray, List.set_cons_zero, List.set_cons_succ]
   refine take_at (i := 4) (d := some 37) (v := ?_) rfl rfl (by kernel_rfl) (by kernel_rfl) (by kernel_rfl) (fun _ _ _ h => h) (Or.inl ⟨by rfl, ?_⟩) (by assumption) ?_
   rotate_left
   ·(intro w hSw; (try dsimp only at hSw); go_simp; try with_reducible rfl)
   try simp only [Act.put, List.setIfInBounds_toArray, List.set_cons_zero, List.set_cons_succ]
   refine take_at (i := 6) (d := some 39) (v := ?_) rfl rfl (by kernel_rfl) (by kernel_rfl) (by kernel_rfl) (fun _ _ _ h => h) (Or.inl ⟨by rfl, ?_⟩) (by assumption) ?_
   rotate_left
   ·(intro w hSw; (try dsimp only at hSw); go_simp; try with_reducible rfl)
   try simp only [Act.put, List.setIfInBounds_toArray, List.set_cons_zero, List.set_cons_succ]
   refine take_at (i := 7) (d := some 40) (v := ?_) rfl rfl (by kernel_rfl) (by kernel_rfl) (by kernel_rfl) (fun _ _ _ h => h) (Or.inl ⟨by rfl, ?_⟩) (by assumption) ?_
   rotate_left
   ·(intro w hSw; (try dsimp only at hSw); go_simp; try with_reducible rfl)
   try simp only [Act.put, List.setIfInBounds_toArray, List.set_cons_zero, List.set_cons_succ]
   refine take_at (i := 8) (d := some 41) (v := ?_) rfl rfl (by kernel_rfl) (by kernel_rfl) (by kernel_rfl) (fun _ _ _ h => h) (Or.inl ⟨by rfl, ?_⟩) (by assumption) ?_
   rotate_left
   ·(intro w hSw; (try dsimp only at hSw); go_simp; try with_reducible rfl)
   try simp only [Act.put, List.setIfInBounds_toArray, List.set_cons_zero, List.set_cons_succ]
   refine take_at (i := 9) (d := some 42) (v := ?_) rfl rfl (by kernel_rfl) (by kernel_rfl) (by kernel_rfl) (fun _ _ _ h => h) (Or.inl ⟨by rfl, ?_⟩) (by assumption) ?_
   rotate_left
   ·(intro w hSw; (try dsimp only at hSw); go_simp; try with_reducible rfl)
   try simp only [Act.put, List.setIfInBounds_toArray, List.set_cons_zero, List.set_cons_succ]
   refine wpAnyH_ready (rs := [2]) (by kernel_rfl) (by simp) ?_
   refine (AllReadyH.cons rfl (fun K hK => ?_) AllReadyH.nil)
   go_simp
   ((with_reducible refine (HW.out _ _).mono ?_)); rintro e w2 ⟨rfl, rfl⟩
   go_wp2_with fail
   refine hK.out _ _ ?_ (fun hHeld => ?_)
   ·exact (HOS.out _ (((((Kept.refl [] w1).alloc (.cells #[.pointer (some ⟨b, 0, none⟩)] 23)).alloc (.cells #[.int .i64 0] 3)).alloc (.cells #[.string (bs Z)] 9)).drew.pk0 HB1.out)).c6
   clear hK K
   try simp only [Act.put, List.setIfInBounds_toArray, List.set_cons_zero, List.set_cons_succ]
   refine wpAnyH_ready (rs := [5]) (by kernel_rfl) (by simp) ?_
   refine (AllReadyH.cons rfl (fun K hK => ?_) AllReadyH.nil)
   go_simp
   ((with_reducible refine (HW.out _ _).mono ?_)); rintro e w2 ⟨rfl, rfl⟩
   go_wp2_with fail
   refine hK.out _ _ ?_ (fun hHeld => ?_)
   ·exact (HOS.out _ ((((((((Kept.refl [] w1).alloc (.cells #[.pointer (some ⟨b, 0, none⟩)] 23)).alloc (.cells #[.int .i64 0] 3)).alloc (.cells #[.string (bs Z)] 9)).alloc (.cells #[.pointer (some ⟨b, 0, none⟩)] 23)).alloc (.cells #[.int .i64 1] 3)).alloc (.cells #[.string (bs Z)] 9)).drew.pk0 HB1.out)).c6
   clear hK K
   try simp only [Act.put, List.setIfInBounds_toArray, List.set_cons_zero, List.set_cons_succ]
   refine wpAnyH_ready (rs := [10]) (by kernel_rfl) (by simp) ?_
   refine (AllReadyH.cons rfl (fun K hK => ?_) AllReadyH.nil)
   go_simp
   ((with_reducible refine (HL.out _).mono ?_)); rintro e w2 ⟨rfl, rfl⟩
   go_wp2_with fail
   refine hK.out _ _ ?_ (fun hHeld => ?_)
   ·exact (HOS.out _ ((((((((((Kept.refl [] w1).alloc (.cells #[.pointer (some ⟨b, 0, none⟩)] 23)).alloc (.cells #[.int .i64 0] 3)).alloc (.cells #[.string (bs Z)] 9)).alloc (.cells #[.pointer (some ⟨b, 0, none⟩)] 23)).alloc (.cells #[.int .i64 1] 3)).alloc (.cells #[.string (bs Z)] 9)).alloc (.cells #[.pointer (some ⟨b, 0, none⟩)] 23)).alloc (.cells #[.int .u64 1, .int .i64 n, .int .i64 j, .int .i64 0, .int .i64 0, .slice none 0 0] 58)).drew.pk0 HB1.out)).c6
   clear hK K
   try simp only [Act.put, List.setIfInBounds_toArray, List.set_cons_zero, List.set_cons_succ]
   refine wpAnyH_ready (rs := [11]) (by kernel_rfl) (by simp) ?_
   refine (AllReadyH.cons rfl (fun K hK => ?_) AllReadyH.nil)
   go_simp
   refine hK.out _ _ ?_ (fun hHeld => ?_)
   ·exact (HOS.out _ (((((((((((Kept.refl [] w1).alloc (.cells #[.pointer (some ⟨b, 0, none⟩)] 23)).alloc (.cells #[.int .i64 0] 3)).alloc (.cells #[.string (bs Z)] 9)).alloc (.cells #[.pointer (some ⟨b, 0, none⟩)] 23)).alloc (.cells #[.int .i64 1] 3)).alloc (.cells #[.string (bs Z)] 9)).alloc (.cells #[.pointer (some ⟨b, 0, none⟩)] 23)).alloc (.cells #[.int .u64 1, .int .i64 n, .int .i64 j, .int .i64 0, .int .i64 0, .slice none 0 0] 58)).alloc (.cells #[.func (.func 87) #[] #[.pointer (some ⟨w1.heap.size, 0, none⟩), .pointer (some ⟨w1.heap.size + 1, 0, none⟩), .pointer (some ⟨w1.heap.size + 1 + 1, 0, none⟩)], .func (.func 87) #[] #[.pointer (some ⟨w1.heap.size + 1 + 1 + 1, 0, none⟩), .pointer (some ⟨w1.heap.size + 1 + 1 + 1 + 1, 0, none⟩), .pointer (some ⟨w1.heap.size + 1 + 1 + 1 + 1 + 1, 0, none⟩)], .func (.func 39) #[.pointer (some ⟨b, 0, none⟩)] #[], .func (.func 92) #[] #[.pointer (some ⟨w1.heap.size + 1 + 1 + 1 + 1 + 1 + 1 + 1, 0, none⟩), .pointer (some ⟨w1.heap.size + 1 + 1 + 1 + 1 + 1 + 1, 0, none⟩)]] 42)).drew.pk0 HB1.out)).c6
   clear hK K
   try simp only [Act.put, List.setIfInBounds_toArray, List.set_cons_zero, List.set_cons_succ]
   obtain ⟨o1, o2, o3, o4, o5, o6, o7, o8⟩ := own_eight w1 #[.pointer (some ⟨b, 0, none⟩)] #[.int .i64 0] #[.string (bs Z)] #[.pointer (some ⟨b, 0, none⟩)] #[.int .i64 1] #[.string (bs Z)] #[.pointer (some ⟨b, 0, none⟩)] #[.int .u64 1, .int .i64 n, .int .i64 j, .int .i64 0, .int .i64 0, .slice none 0 0] 23 3 9 23 3 9 23 58
   have o9 : Own (((((((((w1.alloc (.cells #[.pointer (some ⟨b, 0, none⟩)] 23)).alloc (.cells #[.int .i64 0] 3)).alloc (.cells #[.string (bs Z)] 9)).alloc (.cells #[.pointer (some ⟨b, 0, none⟩)] 23)).alloc (.cells #[.int .i64 1] 3)).alloc (.cells #[.string (bs Z)] 9)).alloc (.cells #[.pointer (some ⟨b, 0, none⟩)] 23)).alloc (.cells #[.int .u64 1, .int .i64 n, .int .i64 j, .int .i64 0, .int .i64 0, .slice none 0 0] 58)).alloc (.cells #[.func (.func 87) #[] #[.pointer (some ⟨w1.heap.size, 0, none⟩), .pointer (some ⟨w1.heap.size + 1, 0, none⟩), .pointer (some ⟨w1.heap.size + 1 + 1, 0, none⟩)], .func (.func 87) #[] #[.pointer (some ⟨w1.heap.size + 1 + 1 + 1, 0, none⟩), .pointer (some ⟨w1.heap.size + 1 + 1 + 1 + 1, 0, none⟩), .pointer (some ⟨w1.heap.size + 1 + 1 + 1 + 1 + 1, 0, none⟩)], .func (.func 39) #[.pointer (some ⟨b, 0, none⟩)] #[], .func (.func 92) #[] #[.pointer (some ⟨w1.heap.size + 1 + 1 + 1 + 1 + 1 + 1 + 1, 0, none⟩), .pointer (some ⟨w1.heap.size + 1 + 1 + 1 + 1 + 1 + 1, 0, none⟩)]] 42)) (w1.heap.size + 1 + 1 + 1 + 1 + 1 + 1 + 1 + 1) #[.func (.func 87) #[] #[.pointer (some ⟨w1.heap.size, 0, none⟩), .pointer (some ⟨w1.heap.size + 1, 0, none⟩), .pointer (some ⟨w1.heap.size + 1 + 1, 0, none⟩)], .func (.func 87) #[] #[.pointer (some ⟨w1.heap.size + 1 + 1 + 1, 0, none⟩), .pointer (some ⟨w1.heap.size + 1 + 1 + 1 + 1, 0, none⟩), .pointer (some ⟨w1.heap.size + 1 + 1 + 1 + 1 + 1, 0, none⟩)], .func (.func 39) #[.pointer (some ⟨b, 0, none⟩)] #[], .func (.func 92) #[] #[.pointer (some ⟨w1.heap.size + 1 + 1 + 1 + 1 + 1 + 1 + 1, 0, none⟩), .pointer (some ⟨w1.heap.size + 1 + 1 + 1 + 1 + 1 + 1, 0, none⟩)]] 42 := by have := Own.new ((((((((w1.alloc (.cells #[.pointer (some ⟨b, 0, none⟩)] 23)).alloc (.cells #[.int .i64 0] 3)).alloc (.cells #[.string (bs Z)] 9)).alloc (.cells #[.pointer (some ⟨b, 0, none⟩)] 23)).alloc (.cells #[.int .i64 1] 3)).alloc (.cells #[.string (bs Z)] 9)).alloc (.cells #[.pointer (some ⟨b, 0, none⟩)] 23)).alloc (.cells #[.int .u64 1, .int .i64 n, .int .i64 j, .int .i64 0, .int .i64 0, .slice none 0 0] 58)) #[.func (.func 87) #[] #[.pointer (some ⟨w1.heap.size, 0, none⟩), .pointer (some ⟨w1.heap.size + 1, 0, none⟩), .pointer (some ⟨w1.heap.size + 1 + 1, 0, none⟩)], .func (.func 87) #[] #[.pointer (some ⟨w1.heap.size + 1 + 1 + 1, 0, none⟩), .pointer (some ⟨w1.heap.size + 1 + 1 + 1 + 1, 0, none⟩), .pointer (some ⟨w1.heap.size + 1 + 1 + 1 + 1 + 1, 0, none⟩)], .func (.func 39) #[.pointer (some ⟨b, 0, none⟩)] #[], .func (.func 92) #[] #[.pointer (some ⟨w1.heap.size + 1 + 1 + 1 + 1 + 1 + 1 + 1, 0, none⟩), .pointer (some ⟨w1.heap.size + 1 + 1 + 1 + 1 + 1 + 1, 0, none⟩)]] 42; simpa only [World.size_alloc] using this
   refine wpAnyH_ready (rs := [12]) (by kernel_rfl) (by simp) ?_
   refine (AllReadyH.cons rfl (fun K hK => ?_) AllReadyH.nil)
   go_simp
   ((with_reducible refine (HALL.out _ ((K1.out.trans ((((((((((Kept.refl [] w1).alloc (.cells #[.pointer (some ⟨b, 0, none⟩)] 23)).alloc (.cells #[.int .i64 0] 3)).alloc (.cells #[.string (bs Z)] 9)).alloc (.cells #[.pointer (some ⟨b, 0, none⟩)] 23)).alloc (.cells #[.int .i64 1] 3)).alloc (.cells #[.string (bs Z)] 9)).alloc (.cells #[.pointer (some ⟨b, 0, none⟩)] 23)).alloc (.cells #[.int .u64 1, .int .i64 n, .int .i64 j, .int .i64 0, .int .i64 0, .slice none 0 0] 58)).alloc (.cells #[.func (.func 87) #[] #[.pointer (some ⟨w1.heap.size, 0, none⟩), .pointer (some ⟨w1.heap.size + 1, 0, none⟩), .pointer (some ⟨w1.heap.size + 1 + 1, 0, none⟩)], .func (.func 87) #[] #[.pointer (some ⟨w1.heap.size + 1 + 1 + 1, 0, none⟩), .pointer (some ⟨w1.heap.size + 1 + 1 + 1 + 1, 0, none⟩), .pointer (some ⟨w1.heap.size + 1 + 1 + 1 + 1 + 1, 0, none⟩)], .func (.func 39) #[.pointer (some ⟨b, 0, none⟩)] #[], .func (.func 92) #[] #[.pointer (some ⟨w1.heap.size + 1 + 1 + 1 + 1 + 1 + 1 + 1, 0, none⟩), .pointer (some ⟨w1.heap.size + 1 + 1 + 1 + 1 + 1 + 1, 0, none⟩)]] 42))).drew) _ w1.heap.size (w1.heap.size + 1) (w1.heap.size + 1 + 1) (w1.heap.size + 1 + 1 + 1) (w1.heap.size + 1 + 1 + 1 + 1) (w1.heap.size + 1 + 1 + 1 + 1 + 1) (w1.heap.size + 1 + 1 + 1 + 1 + 1 + 1 + 1) (w1.heap.size + 1 + 1 + 1 + 1 + 1 + 1) (by have := HS1.out; omega) (by have := HS1.out; omega) (by have := HS1.out; omega) (by have := HS1.out; omega) (by have := HS1.out; omega) (by have := HS1.out; omega) (by have := HS1.out; omega) (by have := HS1.out; omega) (by have := HS1.out; omega) o9.drew (o1.alloc _).drew (o2.alloc _).drew (o3.alloc _).drew (o4.alloc _).drew (o5.alloc _).drew (o6.alloc _).drew (o8.alloc _).drew (o7.alloc _).drew).mono ?_)); rintro e w5 ⟨rfl, hD5, k5⟩
   have kk1 := ((((((((((((Kept.refl [] w1).alloc (.cells #[.pointer (some ⟨b, 0, none⟩)] 23)).alloc (.cells #[.int .i64 0] 3)).alloc (.cells #[.string (bs Z)] 9)).alloc (.cells #[.pointer (some ⟨b, 0, none⟩)] 23)).alloc (.cells #[.int .i64 1] 3)).alloc (.cells #[.string (bs Z)] 9)).alloc (.cells #[.pointer (some ⟨b, 0, none⟩)] 23)).alloc (.cells #[.int .u64 1, .int .i64 n, .int .i64 j, .int .i64 0, .int .i64 0, .slice none 0 0] 58)).alloc (.cells #[.func (.func 87) #[] #[.pointer (some ⟨w1.heap.size, 0, none⟩), .pointer (some ⟨w1.heap.size + 1, 0, none⟩), .pointer (some ⟨w1.heap.size + 1 + 1, 0, none⟩)], .func (.func 87) #[] #[.pointer (some ⟨w1.heap.size + 1 + 1 + 1, 0, none⟩), .pointer (some ⟨w1.heap.size + 1 + 1 + 1 + 1, 0, none⟩), .pointer (some ⟨w1.heap.size + 1 + 1 + 1 + 1 + 1, 0, none⟩)], .func (.func 39) #[.pointer (some ⟨b, 0, none⟩)] #[], .func (.func 92) #[] #[.pointer (some ⟨w1.heap.size + 1 + 1 + 1 + 1 + 1 + 1 + 1, 0, none⟩), .pointer (some ⟨w1.heap.size + 1 + 1 + 1 + 1 + 1 + 1, 0, none⟩)]] 42)).drew).pk0 (T := T) (sb := sb) (mb := mb) HB1.out).trans k5
   have KK1 := Lib.hid kk1
   have HD5 := Lib.hid hD5
   clear hD5 kk1 k5 o1 o2 o3 o4 o5 o6 o7 o8 o9
   go_wp2_with fail
   refine hK.out _ _ ?_ (fun hHeld => ?_)
   ·exact (HOS.out _ KK1.out).c6
   clear hK K
   try simp only [Act.put, List.setIfInBounds_toArray, List.set_cons_zero, List.set_cons_succ]
   refine take_at (i := 13) (d := some 9) (v := ?_) rfl rfl (by kernel_rfl) (by kernel_rfl) (by kernel_rfl) (fun _ _ _ h => h) (Or.inl ⟨by rfl, ?_⟩) (by assumption) ?_
   rotate_left
   ·(intro w hSw; (try dsimp only at hSw); go_simp; try with_reducible rfl)
   try simp only [Act.put, List.setIfInBounds_toArray, List.set_cons_zero, List.set_cons_succ]
   refine wpAnyH_done (by kernel_rfl) ?_ _
   try simp only [List.set_cons_succ, List.set_cons_zero]
   go_wp2_with fail
   go_meet
   exact ⟨rfl, HD5.out, (K1.out.pk0 HD.out.b_lt).trans KK1.out, HOS.out _ KK1.out⟩
  case rest =>
   obtain ⟨rfl, hD2, kk, os2⟩ := hcut
   rename World => w2
   have HD2 := Lib.hid hD2
   have KK := Lib.hid kk
   have HOS2 : Hid (∀ W, Kept [] w2 W → Own W w.heap.size #[.int .u64 1, .int .i64 n, .int .i64 j, .int .i64 0, .int .i64 0, .slice none 0 0] 58) := Lib.hid (fun W k => k.own os2 (by simp))
   have HEM : Hid (∀ W, Calls Tryz.prog 41 #[] W fun e w' => e = .returned (.agg #[.int .u32 1, .int .u32 1, .slice none 0 0, .slice none 0 0, .slice none 0 0]) ∧ Kept [] W w') := Lib.hid (fun W => zempty W)
   have HC : Hid (1 ≤ j ∧ 4 ≤ (n : Int) ∧ j ≤ (n : Int) - 2) := Lib.hid ⟨c1, c2, c3⟩
   clear hD2 kk x0 x1 x2 x3 x4 x5 HALL HW HL HDL HT HOS K1 HS1 HOFF HB1 c1 c2 c3
   by_cases h0 : F.2 = 0
   ·have e0 : (F.2 == 0) = true := by rw [h0]; rfl
    have H0 := Lib.hid h0
    clear h0
    have hn2 : ∀ x ∈ ([] : List Nat), x < w2.heap.size := fun x hx => by cases hx
    have HN2 := Lib.hid hn2
    clear hn2
    obtain ⟨x0, x1, x2, x3, x4, x5⟩ := os2.c6
    clear os2
    go_upto_region 11 with fail
    refine wp_region_held_drew (S := (fun W => W.cell? ⟨w.heap.size, 0, none⟩ = some (.int .u64 1) ∧ W.cell? ⟨w.heap.size, 1, none⟩ = some (.int .i64 n) ∧ W.cell? ⟨w.heap.size, 2, none⟩ = some (.int .i64 j) ∧ W.cell? ⟨w.heap.size, 3, none⟩ = some (.int .i64 0) ∧ W.cell? ⟨w.heap.size, 4, none⟩ = some (.int .i64 0) ∧ W.cell? ⟨w.heap.size, 5, none⟩ = some (.slice none 0 0))) (by kernel_rfl) (by exact (HOS2.out _ (Kept.refl [] w2).drew).c6) (fun hHeld => ?_)
    refine take_at (i := 0) (d := some 49) (v := ?_) rfl rfl (by kernel_rfl) (by kernel_rfl) (by kernel_rfl) (fun _ _ _ h => h) (Or.inl ⟨by rfl, ?_⟩) (by assumption) ?_
    rotate_left
    ·(intro w hSw; (try dsimp only at hSw); go_simp; try with_reducible rfl)
    try simp only [Act.put, List.setIfInBounds_toArray, List.set_cons_zero, List.set_cons_succ]
    refine take_at (i := 1) (d := some 50) (v := ?_) rfl rfl (by kernel_rfl) (by kernel_rfl) (by kernel_rfl) (fun _ _ _ h => h) (Or.inl ⟨by rfl, ?_⟩) (by assumption) ?_
    rotate_left
    ·(intro w hSw; (try dsimp only at hSw); go_simp; try with_reducible rfl)
    try simp only [Act.put, List.setIfInBounds_toArray, List.set_cons_zero, List.set_cons_succ]
    refine wpAnyH_ready (rs := [2]) (by kernel_rfl) (by simp) ?_
    refine (AllReadyH.cons rfl (fun K hK => ?_) AllReadyH.nil)
    go_simp
    ((with_reducible refine (HEM.out _).mono ?_)); rintro e w3 ⟨rfl, k3⟩
    have kk3 := ((Kept.refl [] w2).drew).trans k3
    have K3 := Lib.hid kk3
    clear k3 kk3
    go_wp2_with fail
    refine hK.out _ _ ?_ (fun hHeld => ?_)
    ·exact (HOS2.out _ K3.out).c6
    clear hK K
    try simp only [Act.put, List.setIfInBounds_toArray, List.set_cons_zero, List.set_cons_succ]
    refine take_at (i := 3) (d := some 52) (v := ?_) rfl rfl (by kernel_rfl) (by kernel_rfl) (by kernel_rfl) (fun _ _ _ h => h) (Or.inl ⟨by rfl, ?_⟩) (by assumption) ?_
    rotate_left
    ·(intro w hSw; (try dsimp only at hSw); go_simp; try with_reducible rfl)
    try simp only [Act.put, List.setIfInBounds_toArray, List.set_cons_zero, List.set_cons_succ]
    refine wpAnyH_ready (rs := [4]) (by kernel_rfl) (by simp) ?_
    refine (AllReadyH.cons rfl (fun K hK => ?_) AllReadyH.nil)
    go_simp
    refine hK.out _ _ ?_ (fun hHeld => ?_)
    ·exact (HOS2.out _ ((K3.out.drew).alloc _)).c6
    clear hK K
    try simp only [Act.put, List.setIfInBounds_toArray, List.set_cons_zero, List.set_cons_succ]
    refine take_at (i := 5) (d := some 4) (v := ?_) rfl rfl (by kernel_rfl) (by kernel_rfl) (by kernel_rfl) (fun _ _ _ h => h) (Or.inl ⟨by rfl, ?_⟩) (by assumption) ?_
    rotate_left
    ·(intro w hSw; (try dsimp only at hSw); go_simp; try with_reducible rfl)
    try simp only [Act.put, List.setIfInBounds_toArray, List.set_cons_zero, List.set_cons_succ]
    refine take_at (i := 6) (d := some 5) (v := ?_) rfl rfl (by kernel_rfl) (by kernel_rfl) (by kernel_rfl) (fun _ _ _ h => h) (Or.inl ⟨by rfl, ?_⟩) (by assumption) ?_
    rotate_left
    ·(intro w hSw; (try dsimp only at hSw); go_simp; try with_reducible rfl)
    try simp only [Act.put, List.setIfInBounds_toArray, List.set_cons_zero, List.set_cons_succ]
    refine wpAnyH_done (by kernel_rfl) ?_ _
    try simp only [List.set_cons_succ, List.set_cons_zero]
    go_wp2_with fail
    go_ret2
    have k4 := (K3.out).alloc (.cells (volCells b (sb0 n j) (.slice none 0 0) ⟨1, 1, [], [], []⟩ (.slice none 0 0) (.slice none 0 0) (.slice none 0 0) false) 90)
    refine Or.inr ⟨HC.out, HD2.out.keep0 k4, KK.out.trans (k4.pk0 HD2.out.b_lt), Or.inr ⟨H0.out, _, Nat.le_trans KK.out.size K3.out.size, HD2.out.off_new (T := []) (w' := _) HN2.out k4 K3.out.size, Own.new _ _ _, rfl⟩⟩
   ·have e0 : (F.2 == 0) = false := by rw [beq_eq_false_iff_ne]; exact h0
    have H0 := Lib.hid h0
    clear h0 os2
    go_wp2_with fail
    go_ret2
    exact Or.inr ⟨HC.out, HD2.out, KK.out, Or.inl ⟨H0.out, rfl⟩⟩
end Go.Proofs.YtdkimcnlhmhpgaaGreat
