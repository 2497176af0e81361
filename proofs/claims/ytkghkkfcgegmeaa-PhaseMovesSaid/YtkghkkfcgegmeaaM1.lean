/- The walk of the statement on rows that are moved, and added: the rows, made number by number. -/
import Derived.Test.YtkghkkfcgegmeaaM2
import Derived.Test.YtkghkkfcgegmeaaIn2
import Derived.Maps.AppendAt
import Derived.Deep.AppendLies
import Derived.Laws.AppendOwnNone
import Derived.Deep.OwnRows
import Derived.Laws.OwnMore
import Derived.Deep.CutBlock
import Derived.Deep.RegionHeld3
namespace Go.Proofs.Ytkghkkfcgegmeaa
open Go.RowKit Fl
set_option linter.unusedVariables false
set_option linter.unusedSimpArgs false
attribute [local go_sem] eqC4 eqI4 neqI4 neqC4
attribute [local go_sem ↓] Go.wp_at_zero Go.wp_at_succ

theorem infoInt : (Try.prog.info? 3).map (fun i => (i.zero, i.size, i.bytes)) = some (some (.int .i64 0), 1, 8) := by kernel_rfl
/-- the halves of the first k numbers; the sums of such. -/
def hlf (l : List Int) (k : Nat) : List Int := (List.range k).map fun i => (l.getD i 0).tdiv 2
def smm (l m : List Int) (k : Nat) : List Int := (List.range k).map fun i => (l.getD i 0).tdiv 2 + (m.getD i 0).tdiv 2
theorem hlf_len (l : List Int) (k : Nat) : (hlf l k).length = k := by simp [hlf]
theorem smm_len (l m : List Int) (k : Nat) : (smm l m k).length = k := by simp [smm]
theorem hlf_succ (l : List Int) (k : Nat) : hlf l (k + 1) = hlf l k ++ [(l.getD k 0).tdiv 2] := by simp [hlf, List.range_succ]
theorem smm_succ (l m : List Int) (k : Nat) : smm l m (k + 1) = smm l m k ++ [(l.getD k 0).tdiv 2 + (m.getD k 0).tdiv 2] := by simp [smm, List.range_succ]
/-- the slice v reads as l, on memory of the call's own from B on. -/
def Row (B : Nat) (w : World) (v : Value) (l : List Int) : Prop := w.ownsRow B 3 1 v l.length (l.map (Value.int .i64))
def Apart (a b : Value) : Prop := ∀ g, a.ownBlock = some g → b.ownBlock ≠ some g
theorem Apart.symm {a b : Value} (h : Apart a b) : Apart b a := fun g hb ha => h g ha hb
/-- what becomes of two other rows where one is appended to. -/
theorem rows_step {B : Nat} {w w1 : World} {v v' u1 u2 : Value} {m1 m2 : List Int} (h1 : Row B w u1 m1) (h2 : Row B w u2 m2) (a1 : Apart v u1) (a2 : Apart v u2)
    (hg : w.grownBy w1 v.ownBlock) (hat : v'.ownBlock = v.ownBlock ∨ v'.ownBlock = some w.heap.size) : Row B w1 u1 m1 ∧ Row B w1 u2 m2 ∧ Apart v' u1 ∧ Apart v' u2 := by
  have hk : ∀ {u m}, Row B w u m → Apart v u → Row B w1 u m ∧ Apart v' u := fun {u m} h a => by
    refine ⟨World.ownsRow.kept h hg ?_, fun g hg' hu => ?_⟩
    · cases e : u.ownBlock with
      | none => exact Or.inl rfl
      | some g => exact Or.inr (fun e2 => a g e2.symm e)
    · rcases hat with e | e
      · exact a g (e ▸ hg') hu
      · rw [e] at hg'; injection hg' with hg'
        have := (World.ownsRow.lt h g hu).2; omega
  obtain ⟨b1, c1⟩ := hk h1 a1
  obtain ⟨b2, c2⟩ := hk h2 a2
  exact ⟨b1, b2, c1, c2⟩
theorem made_row {B : Nat} {w : World} {s : Nat} (hb : B ≤ w.heap.size) (hs : s ≤ 255) : Row B (w.alloc (.cells (madeCells #[.int .i64 0] s) 3)) (.slice (some ⟨w.heap.size, 0, none⟩) s s) (List.replicate s 0) := by
  refine ⟨by simp, Or.inr ⟨w.heap.size, s, madeCells #[.int .i64 0] s, by simp, hb, heap_alloc_new w _, by simp, by unfold maxLen; omega, ?_, ?_⟩⟩
  · rw [← Array.length_toList, toList_madeCells_one]; simp
  · rw [toList_madeCells_one]; simp
theorem IntsAt.of_row {B : Nat} {w : World} {v : Value} {l : List Int} (h : Row B w v l) (hwf : ∀ n ∈ l, (Lit.int .i64 n).wf = true) (hlen : l.length ≤ maxLen) : IntsAt .i64 w v l := by
  obtain ⟨h1, h2⟩ := h
  refine ⟨hwf, ?_⟩
  rcases h2 with ⟨rfl, h0⟩ | ⟨g, cap, cur, rfl, hb, hg, hnc, hcm, hcs, htake⟩
  · exact Or.inl ⟨List.eq_nil_of_length_eq_zero h0, _, _, rfl⟩
  · by_cases h0 : l.length = 0
    · exact Or.inl ⟨List.eq_nil_of_length_eq_zero h0, _, _, by rw [h0]⟩
    · refine Or.inr ⟨g, 0, cap, rfl, hnc, hcm, fun i hi => ?_, lt_of_block hg, fun h => by rw [h] at h0; exact h0 rfl⟩
      have hc : cur.toList[i]? = some (.int .i64 l[i]) := by
        have := congrArg (fun x => x[i]?) htake
        simp only [Nat.mul_one] at this
        rw [List.getElem?_take_of_lt (by omega)] at this
        rw [this]
        simp [hi]
      rw [Nat.zero_add, cell_of_row w g i cur 3 (0, 0) hg]
      rw [← hc]; simp
/-- the three rows, k numbers in. -/
structure Rows3 (l m : List Int) (w wr : World) (k : Nat) (va vb vc : Value) : Prop where
  a : Row w.heap.size wr va (hlf l k)
  b : Row w.heap.size wr vb (hlf m k)
  c : Row w.heap.size wr vc (smm l m k)
  ab : Apart va vb
  ac : Apart va vc
  bc : Apart vb vc
  kk : Kept [] w wr
def in32 (x : Int) : Prop := -2147483648 ≤ x ∧ x ≤ 2147483647
theorem half_bd {x : Int} (h1 : -2147483648 ≤ x) (h2 : x ≤ 2147483647) : -1073741824 ≤ x.tdiv 2 ∧ x.tdiv 2 ≤ 1073741824 := by
  have h : (x.tdiv 2).natAbs ≤ 1073741824 := by rw [Int.natAbs_tdiv]; exact Nat.div_le_of_le_mul (by simp; omega)
  generalize x.tdiv 2 = t at *
  omega
theorem in32_of {x : Int} (h : (Lit.int .i32 x).wf = true) : in32 x := by
  have e1 : IntKind.i32.min = -2147483648 := by decide
  have e2 : IntKind.i32.max = 2147483647 := by decide
  simp only [Lit.wf, decide_eq_true_eq, Bool.and_eq_true, e1, e2] at h
  exact h

theorem P4.z_of {p : P4} {z : Z4} (hz : IsZ p z) (hb : z.Bd) : p.z = z := by
  obtain ⟨f0, g0, f1, g1, f2, g2, f3, g3⟩ := hz
  obtain ⟨d0, c0, d1, c1, d2, c2, d3, c3⟩ := hb
  obtain ⟨n0, m0, n1, m1, n2, m2, n3, m3⟩ := z
  simp only [P4.z, Z4.mk.injEq]
  simp only at d0 c0 d1 c1 d2 c2 d3 c3
  exact ⟨tr_FW f0 (by omega), tr_FW g0 (by omega), tr_FW f1 (by omega), tr_FW g1 (by omega), tr_FW f2 (by omega), tr_FW g2 (by omega), tr_FW f3 (by omega), tr_FW g3 (by omega)⟩
theorem Q4.p_p4 (q : Q4) : q.p = q.z.p4 := by simp [Q4.p, Z4.p4, Q4.z, Q4.phat, F0]
theorem Q4.p_zz {q : Q4} (h : q.bd (2 ^ 43)) : q.p.ok = true ∧ q.p.zz = q.z := by
  obtain ⟨hz, hb⟩ := Q4.p_isZ h
  have e := P4.z_of hz hb
  have ho : q.p.ok = true := by simp [P4.ok, okW_of hz hb, e, q.z_ok]
  exact ⟨ho, by simp [P4.zz, ho, e]⟩
theorem Q4.p_lt {q : Q4} (h : q.bd (2 ^ 43)) : q.p.lt := by
  obtain ⟨a, b, c, d⟩ := h
  have k : ∀ n : Int, n.natAbs ≤ 2 ^ 53 → F n < 2 ^ 64 := fun n hn => FW_lt (FW_F hn) hn
  have z : (0 : Nat) < 2 ^ 64 := by decide
  exact ⟨k _ (by omega), z, k _ (by omega), k _ (by omega), k _ (by omega), z, k _ (by omega), k _ (by omega)⟩
theorem quarter_nat (s : Nat) : quarter (s : Int) = s % 4 := by unfold quarter; omega
theorem mayL_of {l : List Int} (h : l.length ≤ 4096) (h2 : ∀ n ∈ l, -2147483648 ≤ n ∧ n ≤ 2147483648) : mayL l = true := by
  simp only [mayL, Bool.and_eq_true, decide_eq_true_eq, List.all_eq_true]
  exact ⟨h, fun x hx => inR_iff.2 (h2 x hx)⟩
theorem of_row_says (l : List Int) (hm : mayL l = true) (u : Value) (w : World) (hu : IntsAt .i64 w u l) : Calls Try.prog 32 #[u] w fun e w' => e = .returned (.tuple #[(qsum l l.length).p.v, .int .i64 0]) ∧ Kept [] w w' := by
  have := pof _ u w hu; unfold OfSays at this; rw [hm] at this; exact this
theorem shift_row (s : Nat) (A : List Int) (hs : s ≤ 255) (ha : mayL A = true) (w : World) : Calls Try.prog 51 #[(qsum A A.length).p.v, .int .i64 (s : Int)] w fun e w' => e = .returned (qsum (List.replicate s 0 ++ A) (List.replicate s (0 : Int) ++ A).length).p.v ∧ Kept [] w w' := by
  have hb := qsum_bd46 ha
  have := pshift' (qsum A A.length).p (s : Int) w (Q4.p_lt hb) (WalkArith.wf_i64 (by omega))
  have e : turnP (qsum A A.length).p (s : Int) = (qsum (List.replicate s 0 ++ A) (List.replicate s (0 : Int) ++ A).length).p := by
    obtain ⟨ho, hz⟩ := Q4.p_zz hb
    rw [turnP_yes ho, hz, quarter_nat, ← moved_z, ← Q4.p_p4]
  rwa [e] at this
theorem add_row (A B C : List Int) (ha : mayL A = true) (hb : mayL B = true) (h : ∀ i, i < C.length → C.getD i 0 = A.getD i 0 + B.getD i 0) (la : A.length = C.length) (lb : B.length = C.length) (w : World) : Calls Try.prog 52 #[(qsum A A.length).p.v, (qsum B B.length).p.v] w fun e w' => e = .returned (qsum C C.length).p.v ∧ Kept [] w w' := by
  have hba := qsum_bd46 ha
  have hbb := qsum_bd46 hb
  have := padd' (qsum A A.length).p (qsum B B.length).p w (Q4.p_lt hba) (Q4.p_lt hbb)
  have e : sumP (qsum A A.length).p (qsum B B.length).p = (qsum C C.length).p := by
    obtain ⟨ho, hz⟩ := Q4.p_zz hba
    obtain ⟨ho2, hz2⟩ := Q4.p_zz hbb
    rw [sumP_yes ho ho2, hz, hz2, ← added_z A B C h la lb, ← Q4.p_p4]
  rwa [e] at this
theorem self_row {l : List Int} (hm : mayL l = true) : Op.floatEq .f64 (qsum l l.length).p.a0 (qsum l l.length).p.a0 = true ∧ Op.floatEq .f64 (qsum l l.length).p.b0 (qsum l l.length).p.b0 = true ∧ Op.floatEq .f64 (qsum l l.length).p.a1 (qsum l l.length).p.a1 = true ∧ Op.floatEq .f64 (qsum l l.length).p.b1 (qsum l l.length).p.b1 = true ∧ Op.floatEq .f64 (qsum l l.length).p.a2 (qsum l l.length).p.a2 = true ∧ Op.floatEq .f64 (qsum l l.length).p.b2 (qsum l l.length).p.b2 = true ∧ Op.floatEq .f64 (qsum l l.length).p.a3 (qsum l l.length).p.a3 = true ∧ Op.floatEq .f64 (qsum l l.length).p.b3 (qsum l l.length).p.b3 = true := by
  rw [Q4.p_p4]; exact feq_p4 (Q4.p_isZ (qsum_bd46 hm)).2.le

theorem own_S4444 {w : World} {b1 b2 b3 b4 : Nat} {va0 va1 va2 va3 vb0 vb1 vb2 vb3 vc0 vc1 vc2 vc3 vd0 vd1 vd2 vd3 : Value} {t : TypeId} (h1 : Own w b1 #[va0, va1, va2, va3] t) (h2 : Own w b2 #[vb0, vb1, vb2, vb3] t) (h3 : Own w b3 #[vc0, vc1, vc2, vc3] t) (h4 : Own w b4 #[vd0, vd1, vd2, vd3] t) : w.cell? ⟨b1, 0, none⟩ = some va0 ∧ w.cell? ⟨b1, 1, none⟩ = some va1 ∧ w.cell? ⟨b1, 2, none⟩ = some va2 ∧ w.cell? ⟨b1, 3, none⟩ = some va3 ∧ w.cell? ⟨b2, 0, none⟩ = some vb0 ∧ w.cell? ⟨b2, 1, none⟩ = some vb1 ∧ w.cell? ⟨b2, 2, none⟩ = some vb2 ∧ w.cell? ⟨b2, 3, none⟩ = some vb3 ∧ w.cell? ⟨b3, 0, none⟩ = some vc0 ∧ w.cell? ⟨b3, 1, none⟩ = some vc1 ∧ w.cell? ⟨b3, 2, none⟩ = some vc2 ∧ w.cell? ⟨b3, 3, none⟩ = some vc3 ∧ w.cell? ⟨b4, 0, none⟩ = some vd0 ∧ w.cell? ⟨b4, 1, none⟩ = some vd1 ∧ w.cell? ⟨b4, 2, none⟩ = some vd2 ∧ w.cell? ⟨b4, 3, none⟩ = some vd3 :=
  ⟨h1.cell 0 (by simp), h1.cell 1 (by simp), h1.cell 2 (by simp), h1.cell 3 (by simp), h2.cell 0 (by simp), h2.cell 1 (by simp), h2.cell 2 (by simp), h2.cell 3 (by simp), h3.cell 0 (by simp), h3.cell 1 (by simp), h3.cell 2 (by simp), h3.cell 3 (by simp), h4.cell 0 (by simp), h4.cell 1 (by simp), h4.cell 2 (by simp), h4.cell 3 (by simp)⟩
set_option maxRecDepth 100000 in
set_option maxHeartbeats 8000000 in
theorem moves_walk (vl : Value) (l : List Int) (vm : Value) (m : List Int) (s : Int) (w : World) (hl : IntsAt .i32 w vl l) (hm : IntsAt .i32 w vm m) (hs0 : 0 ≤ s) (hs1 : s ≤ 255) :
    Calls Try.prog 11 #[vl, vm, .int .u8 s] w fun e w' => e = .returned (.bool true) ∧ Below w.heap.size w w' := by
  have hlw : ∀ k, k < l.length → in32 (l.getD k 0) := fun k hk => by
    have := hl.1 _ (List.getElem_mem hk); rw [← getD_of hk] at this; exact in32_of this
  have hmw : ∀ k, k < m.length → in32 (m.getD k 0) := fun k hk => by
    have := hm.1 _ (List.getElem_mem hk); rw [← getD_of hk] at this; exact in32_of this
  obtain ⟨al, cl, bl, ol, rfl, hlenl, habl, hcelll⟩ := hl.any
  obtain ⟨am, cm, bm, om, rfl, hlenm, habm, hcellm⟩ := hm.any
  clear hl hm
  unfold maxLen at hlenl hlenm
  obtain ⟨i0, hi0, hz0, hz1, hz2⟩ := info_parts infoInt
  have HL := Lib.hid hlw
  have HM := Lib.hid hmw
  have HC := Lib.hid hcelll
  have HD := Lib.hid hcellm
  have HA := Lib.hid habl
  have HB := Lib.hid habm
  clear hlw hmw hcelll hcellm habl habm
  go_enter Try.func11, Try.ntmps11
  go_upto_block 0 with fail
  go_cut [7, 8, 9] (fun va vb vc wx => ∃ k : Nat, k ≤ 60 ∧ k ≤ l.length ∧ k ≤ m.length ∧ Rows3 l m w wx k va vb vc)
  case first =>
    go_wp2_with fail
    go_loopw [7, 8, 9, 10] (fun va vb vc i wr => ∃ k : Nat, k ≤ 60 ∧ k ≤ l.length ∧ k ≤ m.length ∧ i = .int .i64 k ∧ Rows3 l m w wr k va vb vc) (fun _ _ _ i _ => 60 - (intOf i).toNat)
    case atStart => exact ⟨0, by omega, by omega, by omega, rfl, ⟨World.ownsRow_nil _ _ _ _, World.ownsRow_nil _ _ _ _, World.ownsRow_nil _ _ _ _, (fun g hg => by cases hg), (fun g hg => by cases hg), (fun g hg => by cases hg), Kept.refl _ _⟩⟩
    case round =>
      obtain ⟨k, hk, hkl, hkm, rfl, hR⟩ := hrel
      by_cases hlt : k < l.length ∧ k < m.length ∧ k < 60
      · obtain ⟨h1, h2, h3⟩ := hlt
        obtain ⟨rfl, hbl⟩ := HA.out (by omega)
        obtain ⟨rfl, hbm⟩ := HB.out (by omega)
        have xc : wr.cell? ⟨bl, ol + k, none⟩ = some (.int .i32 (l.getD k 0)) := by rw [hR.kk.cell (by exact hbl) (by simp), HC.out k h1, getD_of h1]
        have yc : wr.cell? ⟨bm, om + k, none⟩ = some (.int .i32 (m.getD k 0)) := by rw [hR.kk.cell (by exact hbm) (by simp), HD.out k h2, getD_of h2]
        obtain ⟨x1, x2⟩ := HL.out k h1
        obtain ⟨y1, y2⟩ := HM.out k h2
        have ES := hlf_succ l k
        have ET := hlf_succ m k
        have EU := smm_succ l m k
        have HES := Lib.hid ES
        have HET := Lib.hid ET
        have HEU := Lib.hid EU
        clear ES ET EU
        obtain ⟨ra, rb, rc, ab, ac, bc, kk⟩ := hR
        have la : (hlf l k).length ≤ 60 := by rw [hlf_len]; omega
        have lb : (hlf m k).length ≤ 60 := by rw [hlf_len]; omega
        have lc : (smm l m k).length ≤ 60 := by rw [smm_len]; omega
        generalize hlf l k = A at *
        generalize hlf m k = B at *
        generalize smm l m k = C at *
        generalize l.getD k 0 = x at *
        generalize m.getD k 0 = y at *
        have hsz := kk.size
        have hxb := half_bd x1 x2
        have hyb := half_bd y1 y2
        obtain ⟨hxb1, hxb2⟩ := hxb
        obtain ⟨hyb1, hyb2⟩ := hyb
        go_wp2_with (at_builtin; go_must (refine wpList_append_own_at _ rfl (.tmp 36) (.tmp 43) 62 rfl w.heap.size 3 i0 (.int .i64 0) 1 8 Try.underlying62 hi0 hz0 hz1 hz2 rfl (by decide) _ _ _ rfl (World.ownsRow.alloc ra _) ⟨wr.heap.size, 0, none⟩ 1 1 [.int .i64 (x.tdiv 2)] rfl rfl ?c1 ?c2 ?c3 ?c4 ?c5 ?_))
        case c2 => first | rfl | (intro u hu; simp at hu; subst hu; rfl)
        case c3 => unfold maxLen; omega
        case c4 => omega
        case c5 => first | omega | (simp; omega)
        intro v1 w1 o1 g1 _ at1
        have R1 : Row w.heap.size w1 v1 (A ++ [x.tdiv 2]) := by unfold Row; simpa using o1
        obtain ⟨rb1, rc1, ab1, ac1⟩ := rows_step (World.ownsRow.alloc rb _ : Row _ _ u8 B) (World.ownsRow.alloc rc _ : Row _ _ u9 C) ab ac g1 (by simpa using at1)
        have kk1 : Kept [] w w1 := (kk.alloc _).grown g1 (fun g hg => Or.inr (World.ownsRow.lt ra g hg).1)
        have yc1 : w1.cell? ⟨bm, om + k, none⟩ = some (.int .i32 y) := by rw [kk1.cell (by exact hbm) (by simp), ← kk.cell (by exact hbm) (by simp)]; exact yc
        have xc1 : w1.cell? ⟨bl, ol + k, none⟩ = some (.int .i32 x) := by rw [kk1.cell (by exact hbl) (by simp), ← kk.cell (by exact hbl) (by simp)]; exact xc
        have hsz1 := kk1.size
        clear ra rb rc ab ac g1 at1 o1 kk xc yc hsz
        go_wp2_with (at_builtin; go_must (refine wpList_append_own_at _ rfl (.tmp 45) (.tmp 52) 62 rfl w.heap.size 3 i0 (.int .i64 0) 1 8 Try.underlying62 hi0 hz0 hz1 hz2 rfl (by decide) _ _ _ rfl (World.ownsRow.alloc rb1 _) ⟨w1.heap.size, 0, none⟩ 1 1 [.int .i64 (y.tdiv 2)] rfl rfl ?d1 ?d2 ?d3 ?d4 ?d5 ?_))
        case d1 => exact cell_one_new _ _ _
        case d2 => first | rfl | (intro u hu; simp at hu; subst hu; rfl)
        case d3 => unfold maxLen; omega
        case d4 => omega
        case d5 => first | omega | (simp; omega)
        intro v2 w2 o2 g2 _ at2
        have R2 : Row w.heap.size w2 v2 (B ++ [y.tdiv 2]) := by unfold Row; simpa using o2
        obtain ⟨ra2, rc2, ab2, bc2⟩ := rows_step (World.ownsRow.alloc R1 _ : Row _ _ v1 (A ++ [x.tdiv 2])) (World.ownsRow.alloc rc1 _ : Row _ _ u9 C) ab1.symm bc g2 (by simpa using at2)
        have kk2 : Kept [] w w2 := (kk1.alloc _).grown g2 (fun g hg => Or.inr (World.ownsRow.lt rb1 g hg).1)
        have yc2 : w2.cell? ⟨bm, om + k, none⟩ = some (.int .i32 y) := by rw [kk2.cell (by exact hbm) (by simp), ← kk1.cell (by exact hbm) (by simp)]; exact yc1
        have xc2 : w2.cell? ⟨bl, ol + k, none⟩ = some (.int .i32 x) := by rw [kk2.cell (by exact hbl) (by simp), ← kk1.cell (by exact hbl) (by simp)]; exact xc1
        have hsz2 := kk2.size
        clear R1 rb1 rc1 ab1 bc g2 at2 o2 kk1 xc1 yc1 hsz1
        go_wp2_with fail
        have e1 : IntKind.i64.wrap (x.tdiv 2) = x.tdiv 2 := IntWalk.i64_in _ (by omega)
        have e2 : IntKind.i64.wrap (y.tdiv 2) = y.tdiv 2 := IntWalk.i64_in _ (by omega)
        have e3 : IntKind.i64.wrap (x.tdiv 2 + y.tdiv 2) = x.tdiv 2 + y.tdiv 2 := IntWalk.i64_in _ (by omega)
        have e4 : IntKind.i64.wrap x = x := IntWalk.i64_in _ (by omega)
        have e5 : IntKind.i64.wrap y = y := IntWalk.i64_in _ (by omega)
        have b1 : (0 : Int) ≤ (k : Int) := Int.natCast_nonneg k
        have b2 : (k : Int) < (l.length : Int) := by omega
        have b3 : (k : Int) < (m.length : Int) := by omega
        have b4 : bl < w2.heap.size := by omega
        have b5 : bm < w2.heap.size := by omega
        have b6 : bl < w2.heap.size + 1 := by omega
        have b7 : bm < w2.heap.size + 1 := by omega
        have q3 : C.length + 1 ≤ maxLen := by unfold maxLen; omega
        have q4 : (C.length + 1) * 8 ≤ 140737488355328 := by omega
        go_region_held3 (fun w' => w'.cell? ⟨bl, ol + k, none⟩ = some (.int .i32 x) ∧ w'.cell? ⟨bm, om + k, none⟩ = some (.int .i32 y)) (go_keep) ((refine step_append_lies _ (by rfl) (.tmp 54) (.tmp 68) 62 (by rfl) w.heap.size 3 i0 (.int .i64 0) 1 8 Try.underlying62 hi0 hz0 hz1 hz2 rfl (by decide) _ _ _ (by rfl) (World.ownsRow.drew (World.ownsRow.alloc rc2 _)) ⟨w2.heap.size, 0, none⟩ 1 1 [.int .i64 (x.tdiv 2 + y.tdiv 2)] (by rfl) rfl (cell_one_new _ _ _) (by intro u hu; simp at hu; subst hu; rfl) (by decide) q3 q4 (by simp; omega) (w2.heap.size + 1) (by simp) ?_; intro g3 cap3 w3 o3 gr3 at3 lt3; have kk3 : Kept [] w w3 := (kk2.alloc _).drew.grown gr3 (fun g hg => Or.inr (World.ownsRow.lt rc2 g hg).1); have yc3 : w3.cell? ⟨bm, om + k, none⟩ = some (.int .i32 y) := (by rw [kk3.cell (by exact hbm) (by simp), ← kk2.cell (by exact hbm) (by simp)]; exact yc2); have xc3 : w3.cell? ⟨bl, ol + k, none⟩ = some (.int .i32 x) := (by rw [kk3.cell (by exact hbl) (by simp), ← kk2.cell (by exact hbl) (by simp)]; exact xc2)))
        have R3 : Row w.heap.size w3 (.slice (some ⟨g3, 0, none⟩) (C.length + 1) cap3) (C ++ [x.tdiv 2 + y.tdiv 2]) := by unfold Row; simpa using o3
        have hat : (Value.slice (some ⟨g3, 0, none⟩) (C.length + 1) cap3).ownBlock = Value.ownBlock u9 ∨ (Value.slice (some ⟨g3, 0, none⟩) (C.length + 1) cap3).ownBlock = some (w2.alloc (.cells #[.int .i64 (x.tdiv 2 + y.tdiv 2)] 3)).drew.heap.size := by
          rcases at3 with e | e
          · exact Or.inl e.symm
          · refine Or.inr ?_; rw [e]; simp [Value.ownBlock]
        obtain ⟨ra3, rb3, ac3, bc3⟩ := rows_step (World.ownsRow.drew (World.ownsRow.alloc ra2 _) : Row _ _ v1 (A ++ [x.tdiv 2])) (World.ownsRow.drew (World.ownsRow.alloc R2 _) : Row _ _ v2 (B ++ [y.tdiv 2])) ac1.symm bc2.symm gr3 hat
        clear e1 e2 e3 e4 e5 ra2 R2 rc2 gr3 o3 hat xc2 yc2 kk2 xc3 yc3
        go_wp2_with fail
        go_roundw
        case rel => exact ⟨k + 1, by omega, by omega, by omega, by go_num, ⟨by rw [HES.out]; exact ra3, by rw [HET.out]; exact rb3, by rw [HEU.out]; exact R3, ab2.symm, ac3.symm, bc3.symm, kk3⟩⟩
        case measure => simp [intOf]; omega
      · clear HL HM HC HD HA HB
        go_wp2_with fail
        all_goals go_meet
        all_goals exact ⟨k, hk, hkl, hkm, hR⟩
  case rest =>
    obtain ⟨k, hk, hkl, hkm, hR⟩ := hcut
    obtain ⟨s, rfl⟩ := Int.eq_ofNat_of_zero_le hs0
    have hmk := fun w => run_make_row' (P := Try.prog) 62 3 (.int .i64 0) 8 Try.underlying62 infoInt rfl .i64 .i64 s (by omega) (by omega) w
    obtain ⟨ra, rb, rc, ab, ac, bc, kk⟩ := hR
    have la := hlf_len l k
    have lb := hlf_len m k
    have lc := smm_len l m k
    have HLA := Lib.hid la
    have la' : (hlf l k).length ≤ 60 := by omega
    have lb' : (hlf m k).length ≤ 60 := by omega
    have lc' : (smm l m k).length ≤ 60 := by omega
    have hfa : ∀ n ∈ hlf l k, -1073741824 ≤ n ∧ n ≤ 1073741824 := fun n hn => by
      simp only [hlf, List.mem_map, List.mem_range] at hn
      obtain ⟨i, hi, rfl⟩ := hn
      have := HL.out i (by omega); exact half_bd this.1 this.2
    have hfb : ∀ n ∈ hlf m k, -1073741824 ≤ n ∧ n ≤ 1073741824 := fun n hn => by
      simp only [hlf, List.mem_map, List.mem_range] at hn
      obtain ⟨i, hi, rfl⟩ := hn
      have := HM.out i (by omega); exact half_bd this.1 this.2
    have hfc : ∀ n ∈ smm l m k, -2147483648 ≤ n ∧ n ≤ 2147483648 := fun n hn => by
      simp only [smm, List.mem_map, List.mem_range] at hn
      obtain ⟨i, hi, rfl⟩ := hn
      have h1 := HL.out i (by omega)
      have h2 := HM.out i (by omega)
      have h3 := half_bd h1.1 h1.2
      have h4 := half_bd h2.1 h2.2
      omega
    have wfa : ∀ n ∈ hlf l k, (Lit.int .i64 n).wf = true := fun n hn => WalkArith.wf_i64 (by have := hfa n hn; omega)
    have wfb : ∀ n ∈ hlf m k, (Lit.int .i64 n).wf = true := fun n hn => WalkArith.wf_i64 (by have := hfb n hn; omega)
    have wfc : ∀ n ∈ smm l m k, (Lit.int .i64 n).wf = true := fun n hn => WalkArith.wf_i64 (by have := hfc n hn; omega)
    have wfz : ∀ n ∈ List.replicate s 0 ++ hlf l k, (Lit.int .i64 n).wf = true := fun n hn => by
      rcases List.mem_append.1 hn with h | h
      · rw [List.eq_of_mem_replicate h]; exact WalkArith.wf_i64 (by omega)
      · exact wfa n h
    have FA : Hid (∀ n ∈ hlf l k, -1073741824 ≤ n ∧ n ≤ 1073741824) := hfa
    have FB : Hid (∀ n ∈ hlf m k, -1073741824 ≤ n ∧ n ≤ 1073741824) := hfb
    have FC : Hid (∀ n ∈ smm l m k, -2147483648 ≤ n ∧ n ≤ 2147483648) := hfc
    have WA := Lib.hid wfa
    have WB := Lib.hid wfb
    have WC := Lib.hid wfc
    have WZ := Lib.hid wfz
    have hBw := kk.size
    clear HL HM HC HD HA HB hfa hfb hfc wfa wfb wfc wfz la lb lc hs0
    have hs1 : s ≤ 255 := by omega
    go_upto_region 10 with fail
    go_cut [11] (fun v11 wx => IntsAt .i64 wx u7 (hlf l k) ∧ IntsAt .i64 wx u8 (hlf m k) ∧ IntsAt .i64 wx u9 (smm l m k) ∧ IntsAt .i64 wx v11 (List.replicate s 0 ++ hlf l k) ∧ Kept [] w wx)
    case first =>
      have hz := made_row (B := w.heap.size) (w := wc) (s := s) hBw hs1
      have hra := ra
      obtain ⟨_, ⟨rfl, h0⟩ | ⟨g, cap, cur, rfl, hb, hg, hnc, hcm, hcs, htake⟩⟩ := hra
      · go_wp2_with (at_builtin; go_must (refine wpList_append_own_none rfl (.tmp 72) (.tmp 73) 62 rfl w.heap.size 3 i0 1 Try.underlying62 hi0 _ _ _ rfl hz rfl ?_))
        go_meet
        have hnil : hlf l k = [] := List.eq_nil_of_length_eq_zero h0
        refine ⟨IntsAt.of_row (World.ownsRow.alloc ra _) WA.out (by unfold maxLen; omega), IntsAt.of_row (World.ownsRow.alloc rb _) WB.out (by unfold maxLen; omega), IntsAt.of_row (World.ownsRow.alloc rc _) WC.out (by unfold maxLen; omega), ?_, kk.alloc _⟩
        have := IntsAt.of_row hz (fun n hn => WZ.out n (List.mem_append_left _ hn)) (by simp [maxLen]; omega)
        rw [hnil, List.append_nil]; simpa using this
      · have hcl := World.ownsRow.cells ra (g := g) rfl
        have hsz : wc.heap.size ≤ (wc.alloc (.cells (madeCells #[.int .i64 0] s) 3)).heap.size := by simp
        have hlt := lt_of_block hg
        have hcl2 : ∀ j u, ((hlf l k).map (Value.int .i64))[j]? = some u → (wc.alloc (.cells (madeCells #[.int .i64 0] s) 3)).cell? ((⟨g, 0, none⟩ : Addr).add j) = some u := fun j u hj => by
          have h1 := World.ownsRow.cells (World.ownsRow.alloc ra (.cells (madeCells #[.int .i64 0] s) 3)) (g := g) rfl j u hj
          exact h1
        have HCL := Lib.hid hcl2
        clear hcl hcl2 hsz hcs htake hg
        go_wp2_with (at_builtin; go_must (refine wpList_append_own_at _ rfl (.tmp 72) (.tmp 73) 62 rfl w.heap.size 3 i0 (.int .i64 0) 1 8 Try.underlying62 hi0 hz0 hz1 hz2 rfl (by decide) _ _ _ rfl hz ⟨g, 0, none⟩ (hlf l k).length cap ((hlf l k).map (Value.int .i64)) rfl (by simp) HCL.out ?f2 ?f3 ?f4 ?f5 ?_))
        case f2 => first | (intro u hu; obtain ⟨n, _, rfl⟩ := List.mem_map.1 hu; rfl) | simp
        case f3 => first | (simp [maxLen]; omega) | (unfold maxLen; omega)
        case f4 => first | omega | (simp; omega)
        case f5 => first | omega | (simp; omega)
        intro v11 w11 o11 g11 _ at11
        obtain ⟨ra2, rb2, _, _⟩ := rows_step (World.ownsRow.alloc ra _ : Row _ _ (.slice (some ⟨g, 0, none⟩) (hlf l k).length cap) (hlf l k)) (World.ownsRow.alloc rb _ : Row _ _ u8 (hlf m k)) (v := .slice (some ⟨wc.heap.size, 0, none⟩) s s) (fun q hq h => by have e1 : wc.heap.size = q := Option.some.inj hq; have e2 : g = q := Option.some.inj h; omega) (fun q hq h => by have e1 : wc.heap.size = q := Option.some.inj hq; have := (World.ownsRow.lt rb q h).2; omega) (v' := v11) g11 (by simpa using at11)
        obtain ⟨rc2, _, _, _⟩ := rows_step (World.ownsRow.alloc rc _ : Row _ _ u9 (smm l m k)) (World.ownsRow.alloc rb _ : Row _ _ u8 (hlf m k)) (v := .slice (some ⟨wc.heap.size, 0, none⟩) s s) (fun q hq h => by have e1 : wc.heap.size = q := Option.some.inj hq; have := (World.ownsRow.lt rc q h).2; omega) (fun q hq h => by have e1 : wc.heap.size = q := Option.some.inj hq; have := (World.ownsRow.lt rb q h).2; omega) (v' := v11) g11 (by simpa using at11)
        have kk11 : Kept [] w w11 := (kk.alloc _).grown g11 (fun q hq => Or.inr (by have e1 : wc.heap.size = q := Option.some.inj hq; omega))
        have r11 : Row w.heap.size w11 v11 (List.replicate s 0 ++ hlf l k) := by unfold Row; simpa using o11
        go_wp2_with fail
        go_meet
        exact ⟨IntsAt.of_row ra2 WA.out (by unfold maxLen; omega), IntsAt.of_row rb2 WB.out (by unfold maxLen; omega), IntsAt.of_row rc2 WC.out (by unfold maxLen; omega), IntsAt.of_row r11 WZ.out (by simp [maxLen]; omega), kk11⟩
    case rest =>
      obtain ⟨ia, ib, ic, iz, kk2⟩ := hcut
      have mA : mayL (hlf l k) = true := mayL_of (by omega) (fun n hn => by have := FA.out n hn; omega)
      have mB : mayL (hlf m k) = true := mayL_of (by omega) (fun n hn => by have := FB.out n hn; omega)
      have mC : mayL (smm l m k) = true := mayL_of (by omega) (fun n hn => FC.out n hn)
      have mZ : mayL (List.replicate s 0 ++ hlf l k) = true := mayL_of (by simp; omega) (fun n hn => by
        rcases List.mem_append.1 hn with h | h
        · rw [List.eq_of_mem_replicate h]; omega
        · have := FA.out n h; omega)
      have hgC : ∀ i, i < (smm l m k).length → (smm l m k).getD i 0 = (hlf l k).getD i 0 + (hlf m k).getD i 0 := fun i hi => by
        rw [smm_len] at hi
        simp [smm, hlf, List.getD, hi]
      have hofA := of_row_says _ mA
      have hofB := of_row_says _ mB
      have hofC := of_row_says _ mC
      have hofZ := of_row_says _ mZ
      have hsh := shift_row s _ hs1 mA
      have had := add_row _ _ _ mA mB hgC (by rw [hlf_len, smm_len]) (by rw [hlf_len, smm_len])
      have sZ := self_row mZ
      have sC := self_row mC
      have haw := fun w => lawake34 w
      generalize (qsum (List.replicate s 0 ++ hlf l k) (List.replicate s (0 : Int) ++ hlf l k).length).p = PZ at *
      generalize (qsum (hlf l k) (hlf l k).length).p = PA at *
      generalize (qsum (hlf m k) (hlf m k).length).p = PB at *
      generalize (qsum (smm l m k) (smm l m k).length).p = PC at *
      obtain ⟨pa0, pa1, pa2, pa3, pa4, pa5, pa6, pa7⟩ := PA
      obtain ⟨pb0, pb1, pb2, pb3, pb4, pb5, pb6, pb7⟩ := PB
      obtain ⟨pc0, pc1, pc2, pc3, pc4, pc5, pc6, pc7⟩ := PC
      obtain ⟨pz0, pz1, pz2, pz3, pz4, pz5, pz6, pz7⟩ := PZ
      simp only [P4.v] at hofA hofB hofC hofZ hsh had sZ sC
      obtain ⟨gz0, gz1, gz2, gz3, gz4, gz5, gz6, gz7⟩ := sZ
      obtain ⟨gc0, gc1, gc2, gc3, gc4, gc5, gc6, gc7⟩ := sC
      have OA := Lib.hid hofA
      have OB := Lib.hid hofB
      have OC := Lib.hid hofC
      have OZ := Lib.hid hofZ
      have SH := Lib.hid hsh
      have AD := Lib.hid had
      have AW := Lib.hid haw
      have IA := Lib.hid ia
      have IB := Lib.hid ib
      have IC := Lib.hid ic
      have IZ := Lib.hid iz
      have es : IntKind.i64.wrap (s : Int) = (s : Int) := IntWalk.i64_in _ (by omega)
      have es1 : (0 : Int) ≤ (s : Int) := Int.natCast_nonneg s
      have es2 : (s : Int) ≤ 255 := by omega
      clear ia ib ic iz hofA hofB hofC hofZ hsh had haw mA mB mC mZ hgC FA FB FC WA WB WC WZ ra rb rc ab ac bc hmk HLA
      go_wp2_with fail
      refine (OA.out _ _ IA.out).mono ?_; rintro e x1 ⟨rfl, k1⟩
      have kkX := kk2.trans k1
      have IB1 := Lib.hid ((IB.out.kept k1).kept ((Kept.refl _ _).alloc (.cells #[.complex .f64 pa0 pa1, .complex .f64 pa2 pa3, .complex .f64 pa4 pa5, .complex .f64 pa6 pa7] 48)))
      have IC1 := Lib.hid ((IC.out.kept k1).kept ((Kept.refl _ _).alloc (.cells #[.complex .f64 pa0 pa1, .complex .f64 pa2 pa3, .complex .f64 pa4 pa5, .complex .f64 pa6 pa7] 48)))
      have IZ1 := Lib.hid ((IZ.out.kept k1).kept ((Kept.refl _ _).alloc (.cells #[.complex .f64 pa0 pa1, .complex .f64 pa2 pa3, .complex .f64 pa4 pa5, .complex .f64 pa6 pa7] 48)))
      clear IA IB IC IZ k1
      go_wp2_with fail
      refine (OZ.out _ _ IZ1.out).mono ?_; rintro e x2 ⟨rfl, k2⟩
      have oa := k2.own (Own.new x1 _ _) (by simp)
      have kkX := (kkX.alloc _).trans k2
      have IB2 := Lib.hid ((IB1.out.kept k2).kept ((Kept.refl _ _).alloc (.cells #[.complex .f64 pz0 pz1, .complex .f64 pz2 pz3, .complex .f64 pz4 pz5, .complex .f64 pz6 pz7] 48)))
      have IC2 := Lib.hid ((IC1.out.kept k2).kept ((Kept.refl _ _).alloc (.cells #[.complex .f64 pz0 pz1, .complex .f64 pz2 pz3, .complex .f64 pz4 pz5, .complex .f64 pz6 pz7] 48)))
      clear IB1 IC1 IZ1 k2
      go_wp2_with fail
      refine (OB.out _ _ IB2.out).mono ?_; rintro e x3 ⟨rfl, k3⟩
      have oz := k3.own (Own.new x2 _ _) (by simp)
      have oa := k3.own (oa.alloc _) (by simp)
      have kkX := (kkX.alloc _).trans k3
      have IC3 := Lib.hid ((IC2.out.kept k3).kept ((Kept.refl _ _).alloc (.cells #[.complex .f64 pb0 pb1, .complex .f64 pb2 pb3, .complex .f64 pb4 pb5, .complex .f64 pb6 pb7] 48)))
      clear IB2 IC2 k3
      go_wp2_with fail
      refine (OC.out _ _ IC3.out).mono ?_; rintro e x4 ⟨rfl, k4⟩
      have ob := k4.own (Own.new x3 _ _) (by simp)
      have oz := k4.own (oz.alloc _) (by simp)
      have oa := k4.own (oa.alloc _) (by simp)
      have kkX := (kkX.alloc _).trans k4
      clear IC3 k4 OA OB OC OZ
      have oc : Own (x4.alloc (.cells #[.complex .f64 pc0 pc1, .complex .f64 pc2 pc3, .complex .f64 pc4 pc5, .complex .f64 pc6 pc7] 48)) x4.heap.size #[.complex .f64 pc0 pc1, .complex .f64 pc2 pc3, .complex .f64 pc4 pc5, .complex .f64 pc6 pc7] 48 := Own.new _ _ _
      have la := oa.lt
      have lz := oz.lt
      have lb := ob.lt
      go_wp2_with fail
      go_region_held3 (fun w' => w'.cell? ⟨x1.heap.size, 0, none⟩ = some (.complex .f64 pa0 pa1) ∧ w'.cell? ⟨x1.heap.size, 1, none⟩ = some (.complex .f64 pa2 pa3) ∧ w'.cell? ⟨x1.heap.size, 2, none⟩ = some (.complex .f64 pa4 pa5) ∧ w'.cell? ⟨x1.heap.size, 3, none⟩ = some (.complex .f64 pa6 pa7) ∧ w'.cell? ⟨x2.heap.size, 0, none⟩ = some (.complex .f64 pz0 pz1) ∧ w'.cell? ⟨x2.heap.size, 1, none⟩ = some (.complex .f64 pz2 pz3) ∧ w'.cell? ⟨x2.heap.size, 2, none⟩ = some (.complex .f64 pz4 pz5) ∧ w'.cell? ⟨x2.heap.size, 3, none⟩ = some (.complex .f64 pz6 pz7) ∧ w'.cell? ⟨x3.heap.size, 0, none⟩ = some (.complex .f64 pb0 pb1) ∧ w'.cell? ⟨x3.heap.size, 1, none⟩ = some (.complex .f64 pb2 pb3) ∧ w'.cell? ⟨x3.heap.size, 2, none⟩ = some (.complex .f64 pb4 pb5) ∧ w'.cell? ⟨x3.heap.size, 3, none⟩ = some (.complex .f64 pb6 pb7) ∧ w'.cell? ⟨x4.heap.size, 0, none⟩ = some (.complex .f64 pc0 pc1) ∧ w'.cell? ⟨x4.heap.size, 1, none⟩ = some (.complex .f64 pc2 pc3) ∧ w'.cell? ⟨x4.heap.size, 2, none⟩ = some (.complex .f64 pc4 pc5) ∧ w'.cell? ⟨x4.heap.size, 3, none⟩ = some (.complex .f64 pc6 pc7)) ((refine own_S4444 (t := 48) ?_ ?_ ?_ ?_ <;> (repeat' first | exact oaC | exact ozC | exact obC | exact ocC | exact oaB | exact ozB | exact obB | exact ocB | exact oaA | exact ozA | exact obA | exact ocA | exact oa | exact oz | exact ob | exact oc | refine Own.drew ?_ | refine Own.alloc ?_ _))) (first | (go_at_call 51; refine (SH.out _).mono ?_; rintro e x6 ⟨rfl, k6⟩; have oaA := k6.own (b := x1.heap.size) (cs := #[.complex .f64 pa0 pa1, .complex .f64 pa2 pa3, .complex .f64 pa4 pa5, .complex .f64 pa6 pa7]) (t := 48) (by repeat' first | exact oaC | exact oaB | exact oaA | exact oa | refine Own.drew ?_ | refine Own.alloc ?_ _) (by simp); have ozA := k6.own (b := x2.heap.size) (cs := #[.complex .f64 pz0 pz1, .complex .f64 pz2 pz3, .complex .f64 pz4 pz5, .complex .f64 pz6 pz7]) (t := 48) (by repeat' first | exact ozC | exact ozB | exact ozA | exact oz | refine Own.drew ?_ | refine Own.alloc ?_ _) (by simp); have obA := k6.own (b := x3.heap.size) (cs := #[.complex .f64 pb0 pb1, .complex .f64 pb2 pb3, .complex .f64 pb4 pb5, .complex .f64 pb6 pb7]) (t := 48) (by repeat' first | exact obC | exact obB | exact obA | exact ob | refine Own.drew ?_ | refine Own.alloc ?_ _) (by simp); have ocA := k6.own (b := x4.heap.size) (cs := #[.complex .f64 pc0 pc1, .complex .f64 pc2 pc3, .complex .f64 pc4 pc5, .complex .f64 pc6 pc7]) (t := 48) (by repeat' first | exact ocC | exact ocB | exact ocA | exact oc | refine Own.drew ?_ | refine Own.alloc ?_ _) (by simp); have kkA : Kept [] w x6 := Kept.trans (by repeat' first | exact kkC | exact kkB | exact kkA | exact kkX | refine Kept.drew ?_ | refine Kept.alloc ?_ _) k6) | (go_at_call 52; refine (AD.out _).mono ?_; rintro e x7 ⟨rfl, k7⟩; have oaB := k7.own (b := x1.heap.size) (cs := #[.complex .f64 pa0 pa1, .complex .f64 pa2 pa3, .complex .f64 pa4 pa5, .complex .f64 pa6 pa7]) (t := 48) (by repeat' first | exact oaC | exact oaB | exact oaA | exact oa | refine Own.drew ?_ | refine Own.alloc ?_ _) (by simp); have ozB := k7.own (b := x2.heap.size) (cs := #[.complex .f64 pz0 pz1, .complex .f64 pz2 pz3, .complex .f64 pz4 pz5, .complex .f64 pz6 pz7]) (t := 48) (by repeat' first | exact ozC | exact ozB | exact ozA | exact oz | refine Own.drew ?_ | refine Own.alloc ?_ _) (by simp); have obB := k7.own (b := x3.heap.size) (cs := #[.complex .f64 pb0 pb1, .complex .f64 pb2 pb3, .complex .f64 pb4 pb5, .complex .f64 pb6 pb7]) (t := 48) (by repeat' first | exact obC | exact obB | exact obA | exact ob | refine Own.drew ?_ | refine Own.alloc ?_ _) (by simp); have ocB := k7.own (b := x4.heap.size) (cs := #[.complex .f64 pc0 pc1, .complex .f64 pc2 pc3, .complex .f64 pc4 pc5, .complex .f64 pc6 pc7]) (t := 48) (by repeat' first | exact ocC | exact ocB | exact ocA | exact oc | refine Own.drew ?_ | refine Own.alloc ?_ _) (by simp); have kkB : Kept [] w x7 := Kept.trans (by repeat' first | exact kkC | exact kkB | exact kkA | exact kkX | refine Kept.drew ?_ | refine Kept.alloc ?_ _) k7) | (go_at_call 29; refine (AW.out _).mono ?_; rintro e x8 ⟨rfl, k8⟩; have oaC := k8.own (b := x1.heap.size) (cs := #[.complex .f64 pa0 pa1, .complex .f64 pa2 pa3, .complex .f64 pa4 pa5, .complex .f64 pa6 pa7]) (t := 48) (by repeat' first | exact oaC | exact oaB | exact oaA | exact oa | refine Own.drew ?_ | refine Own.alloc ?_ _) (by simp); have ozC := k8.own (b := x2.heap.size) (cs := #[.complex .f64 pz0 pz1, .complex .f64 pz2 pz3, .complex .f64 pz4 pz5, .complex .f64 pz6 pz7]) (t := 48) (by repeat' first | exact ozC | exact ozB | exact ozA | exact oz | refine Own.drew ?_ | refine Own.alloc ?_ _) (by simp); have obC := k8.own (b := x3.heap.size) (cs := #[.complex .f64 pb0 pb1, .complex .f64 pb2 pb3, .complex .f64 pb4 pb5, .complex .f64 pb6 pb7]) (t := 48) (by repeat' first | exact obC | exact obB | exact obA | exact ob | refine Own.drew ?_ | refine Own.alloc ?_ _) (by simp); have ocC := k8.own (b := x4.heap.size) (cs := #[.complex .f64 pc0 pc1, .complex .f64 pc2 pc3, .complex .f64 pc4 pc5, .complex .f64 pc6 pc7]) (t := 48) (by repeat' first | exact ocC | exact ocB | exact ocA | exact oc | refine Own.drew ?_ | refine Own.alloc ?_ _) (by simp); have kkC : Kept [] w x8 := Kept.trans (by repeat' first | exact kkC | exact kkB | exact kkA | exact kkX | refine Kept.drew ?_ | refine Kept.alloc ?_ _) k8))
      go_wp2_with fail
      go_ret
      exact ⟨rfl, kkC.below⟩
end Go.Proofs.Ytkghkkfcgegmeaa
