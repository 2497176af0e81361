/- Walks of layer 4 (weigh): the reference's weights of texts. -/
import Derived.Test.YtkghkkfcgegmeaaL8
namespace Go.Proofs.Ytkghkkfcgegmeaa
open Go.RowKit Fl
set_option linter.unusedVariables false
set_option linter.unusedSimpArgs false

set_option maxRecDepth 100000 in
set_option maxHeartbeats 800000 in
theorem rparse_yes (S A D1 D2 : ByteArray) (K : Nat) (p q : Int) (w : World) (hS : S.size ≤ 1000) (hK1 : 1 ≤ K) (hK2 : K + 1 < S.size)
    (hdig : ∀ (k : Nat) (h : k < S.size), 1 ≤ k → k < K → 48 ≤ (S[k].toNat : Int) ∧ (S[k].toNat : Int) ≤ 57)
    (hlast : ((S[S.size - 1]'(by omega)).toNat : Int) = 105)
    (hA : S.extract 0 K = A) (hA0 : 0 < A.size)
    (hneg : (p < 0 ∧ ((A[0]'hA0).toNat : Int) = 45 ∧ A.extract 1 A.size = D1) ∨ (0 ≤ p ∧ (((A[0]'hA0).toNat : Int) == 45) = false ∧ D1 = A))
    (hsg : (q < 0 ∧ ((S[K]'(by omega)).toNat : Int) = 45) ∨ (0 ≤ q ∧ ((S[K]'(by omega)).toNat : Int) = 43))
    (hD2 : S.extract (K + 1) (S.size - 1) = D2)
    (s1 : ∀ w, Calls Try.prog 70 #[.string D1] w fun e w' => e = .returned (.tuple #[.int .i64 (p.natAbs : Int), .bool true]) ∧ w = w')
    (s2 : ∀ w, Calls Try.prog 70 #[.string D2] w fun e w' => e = .returned (.tuple #[.int .i64 (q.natAbs : Int), .bool true]) ∧ w = w')
    (ht : ∀ w, Calls Try.prog 58 #[.agg #[.int .i64 p, .int .i64 q]] w fun e w' => e = .returned (.string S) ∧ Kept [] w w')
    (hp : p.natAbs ≤ 9007199254740992) (hq : q.natAbs ≤ 9007199254740992) :
    Calls Try.prog 57 #[.string S] w fun e w' => e = .returned (.tuple #[.agg #[.int .i64 p, .int .i64 q], .int .i64 0]) ∧ Kept [] w w' := by
  have o := Own.new w #[.int .i64 0, .int .i64 0] 31
  go_enter Try.func57, Try.ntmps57
  go_wp2_with fail
  go_loop [4] (fun i => ∃ k : Nat, 1 ≤ k ∧ k ≤ K ∧ i = .int .i64 k) (fun i => S.size - (intOf i).toNat)
  case atStart => exact ⟨1, by omega, hK1, rfl⟩
  case round =>
    obtain ⟨k, h1, h2, rfl⟩ := hrel
    by_cases hlt : k < K
    · obtain ⟨d1, d2⟩ := hdig k (by omega) h1 hlt
      clear hdig hneg hsg hD2 hA
      go_wp2_with fail
      go_round
      case rel => exact ⟨k + 1, by omega, by omega, by go_num⟩
      case measure => simp [intOf]; omega
    · obtain rfl : k = K := by omega
      clear hdig hlt
      rcases hneg with ⟨e1, e2, e3⟩ | ⟨e1, e2, rfl⟩ <;> rcases hsg with ⟨g1, g2⟩ | ⟨g1, g2⟩
      all_goals first | have x1 : -(p.natAbs : Int) = p := (by omega) | (have x1 : (p.natAbs : Int) = p := (by omega))
      all_goals first | have x2 : -(q.natAbs : Int) = q := (by omega) | (have x2 : (q.natAbs : Int) = q := (by omega))
      all_goals
        go_wp2_with fail
        refine (s1 _).mono ?_; rintro e w1 ⟨rfl, rfl⟩
        go_wp2_with fail
        refine (s2 _).mono ?_; rintro e w1 ⟨rfl, rfl⟩
        go_wp2_with fail
        refine (ht _).mono ?_; rintro e w2 ⟨rfl, hk2⟩
        have oo := own_two w #[.int .i64 0, .int .i64 0] #[.int .i64 p, .int .i64 q] 31 31
        have o1 := hk2.own oo.1 (by simp)
        have o2 := hk2.own oo.2 (by simp)
        have c0 := o2.c2
        have z0 := o1.z2
        have d0 := o1.c2
        go_wp2_with fail
        refine bodyPost_ret (v := .tuple #[.agg #[.int .i64 p, .int .i64 q], .int .i64 0]) ?_ ?_ ?_
        · refine ret_row_tmp Try.results57 rfl rfl (cs := #[.int .i64 p, .int .i64 q]) (t := 31) ?_ Try.underlying31 rfl (by kernel_rfl)
          have := (o1.set 0 (.int .i64 p)).set 1 (.int .i64 q)
          simpa using this
        · rfl
        · exact ⟨rfl, ((((Kept.refl _ _).alloc _).alloc _).trans hk2 |>.setCell (Or.inr (Nat.le_refl _)) _).setCell (Or.inr (Nat.le_refl _)) _⟩

set_option maxRecDepth 100000 in
set_option maxHeartbeats 1600000 in
theorem rparse_no (S : ByteArray) (w : World) (hS : S.size ≤ 1000) (hno : ∀ z : Int × Int, Bd (2 ^ 53) z → ((bs (txt z)).toList == S.toList) = false) :
    Calls Try.prog 57 #[.string S] w fun e w' => e = .returned (.tuple #[.agg #[.int .i64 0, .int .i64 0], .int .i64 7]) ∧ Kept [] w w' := by
  have HN := Lib.hid hno
  clear hno
  go_enter Try.func57, Try.ntmps57
  go_wp2_with fail
  go_loopw [4] (fun i wr => ∃ k : Nat, 1 ≤ k ∧ k ≤ S.size + 1 ∧ i = .int .i64 k ∧ Kept [] w wr ∧ Own wr w.heap.size #[.int .i64 0, .int .i64 0] 31) (fun i _ => S.size + 1 - (intOf i).toNat)
  case atStart => exact ⟨1, by omega, by omega, rfl, (Kept.refl _ _).alloc _, Own.new _ _ _⟩
  case round =>
    obtain ⟨k, h1, h2, rfl, hk, ho⟩ := hrel
    by_cases hlt : k + 1 < S.size
    · have hlt' : (k : Int) < (S.size : Int) - 1 := by omega
      have hc : ((S[k]'(by omega)).toNat : Int) < 43 ∨ ((S[k]'(by omega)).toNat : Int) = 44 ∨ 45 < ((S[k]'(by omega)).toNat : Int) ∨ ((S[k]'(by omega)).toNat : Int) = 43 ∨ ((S[k]'(by omega)).toNat : Int) = 45 := by omega
      have hl : ((S[S.size - 1]'(by omega)).toNat : Int) < 105 ∨ 105 < ((S[S.size - 1]'(by omega)).toNat : Int) ∨ ((S[S.size - 1]'(by omega)).toNat : Int) = 105 := by omega
      have hgo : ∀ wr', Kept [] wr wr' → (Kept [] w wr' ∧ Own wr' w.heap.size #[.int .i64 0, .int .i64 0] 31) := fun wr' h => ⟨hk.trans h, h.own ho (by simp)⟩
      have HG := Lib.hid hgo
      clear hgo
      rcases hc with c | c | c | c
      · go_wp2_with fail
        go_roundw
        case rel => exact ⟨k + 1, by omega, by omega, by go_num, HG.out _ (Kept.refl _ _)⟩
        case measure => simp [intOf]; omega
      · go_wp2_with fail
        go_roundw
        case rel => exact ⟨k + 1, by omega, by omega, by go_num, HG.out _ (Kept.refl _ _)⟩
        case measure => simp [intOf]; omega
      · go_wp2_with fail
        go_roundw
        case rel => exact ⟨k + 1, by omega, by omega, by go_num, HG.out _ (Kept.refl _ _)⟩
        case measure => simp [intOf]; omega
      · rcases hl with l1 | l1 | l1
        · rcases c with c | c
          all_goals
            go_wp2_with fail
            go_roundw
            case rel => exact ⟨k + 1, by omega, by omega, by go_num, HG.out _ (Kept.refl _ _)⟩
            case measure => simp [intOf]; omega
        · rcases c with c | c
          all_goals
            go_wp2_with fail
            go_roundw
            case rel => exact ⟨k + 1, by omega, by omega, by go_num, HG.out _ (Kept.refl _ _)⟩
            case measure => simp [intOf]; omega
        · obtain ⟨A, hA⟩ : ∃ A, S.extract 0 k = A := ⟨_, rfl⟩
          have hAs : A.size = k := by rw [← hA, ByteArray.size_extract]; omega
          have hA0 : 0 < A.size := by omega
          obtain ⟨D2, hD2⟩ : ∃ D, S.extract (k + 1) (S.size - 1) = D := ⟨_, rfl⟩
          have hD2s : D2.size ≤ 1000 := by rw [← hD2, ByteArray.size_extract]; omega
          obtain ⟨D3, hD3⟩ : ∃ D, A.extract 1 A.size = D := ⟨_, rfl⟩
          have hD3s : D3.size ≤ 1000 := by rw [← hD3, ByteArray.size_extract]; omega
          have hneg : ((A[0]'hA0).toNat : Int) = 45 ∨ (((A[0]'hA0).toNat : Int) == 45) = false := by
            by_cases h : ((A[0]'hA0).toNat : Int) = 45
            · exact Or.inl h
            · exact Or.inr (by simpa using h)
          have HAs := Lib.hid hAs
          clear hAs
          have hA1 : A.size ≤ 1000 := by have := HAs.out; omega
          have s1 := fun (D : ByteArray) (w : World) (h : D.size ≤ 1000) => rsize D w (by unfold maxLen; omega)
          rcases hneg with e2 | e2 <;> rcases c with c | c
          all_goals
            go_wp2_with fail
            refine (s1 _ _ (by assumption)).mono ?_; rintro e w1 ⟨⟨m1, ok1, rfl, b1, b2, -⟩, rfl⟩
            go_wp2_with fail
            refine (s1 _ _ (by assumption)).mono ?_; rintro e w1 ⟨⟨m2, ok2, rfl, b3, b4, -⟩, rfl⟩
            cases ok1
            case false =>
              clear b2 b4
              go_wp2_with fail
              go_roundw
              case rel => exact ⟨k + 1, by omega, by omega, by go_num, HG.out _ ((Kept.refl _ _).alloc _)⟩
              case measure => simp [intOf]; omega
            cases ok2
            case false =>
              clear b2 b4
              go_wp2_with fail
              go_roundw
              case rel => exact ⟨k + 1, by omega, by omega, by go_num, HG.out _ ((Kept.refl _ _).alloc _)⟩
              case measure => simp [intOf]; omega
            have b5 := b2 rfl
            have b6 := b4 rfl
            clear b2 b4
            have r2 := fun (z : Int × Int) (w : World) (h : Bd (2 ^ 53) z) => (rtext z w h).mono fun e w' hh => (show ∃ T, e = .returned (.string T) ∧ (T.toList == S.toList) = false ∧ Kept [] w w' from ⟨_, hh.1, HN.out z h, hh.2⟩)
            go_wp2_with fail
            refine (r2 (_, _) _ ⟨by simp; omega, by simp; omega⟩).mono ?_; rintro e w2 ⟨T, rfl, hT, hk2⟩
            clear r2
            go_wp2_with fail
            go_roundw
            case rel => exact ⟨k + 1, by omega, by omega, by go_num, HG.out _ (((Kept.refl _ _).alloc _).trans hk2)⟩
            case measure => simp [intOf]; omega
    · have c0 := ho.c2
      have z0 := ho.z2
      have hlt' : ¬ (k : Int) < (S.size : Int) - 1 := by omega
      go_wp2_with fail
      refine bodyPost_ret (v := .tuple #[.agg #[.int .i64 0, .int .i64 0], .int .i64 7]) ?_ ?_ ?_
      · refine ret_row_tmp Try.results57 rfl rfl (cs := #[.int .i64 0, .int .i64 0]) (t := 31) ?_ Try.underlying31 rfl (by kernel_rfl)
        have := (ho.set 0 (.int .i64 0)).set 1 (.int .i64 0)
        simpa using this
      · rfl
      · exact ⟨rfl, (hk.setCell (Or.inr (Nat.le_refl _)) _).setCell (Or.inr (Nat.le_refl _)) _⟩

/-- where the sign between the parts of a text stands, and what stands there. -/
theorem txt_sign (z : Int × Int) (hz : Bd (2 ^ 53) z) : ∃ (K : Nat) (A D1 D2 : List UInt8), 1 ≤ K ∧ K + 1 < (txt z).length ∧ (∀ k (h : k < (txt z).length), 1 ≤ k → k < K → 48 ≤ (txt z)[k].toNat ∧ (txt z)[k].toNat ≤ 57) ∧
    (∃ h : (txt z).length - 1 < (txt z).length, (txt z)[(txt z).length - 1] = 105) ∧ (txt z).take K = A ∧ D1 = digs z.1.natAbs ∧ D2 = digs z.2.natAbs ∧
    ((z.1 < 0 ∧ A = 45 :: D1) ∨ (0 ≤ z.1 ∧ A = D1)) ∧ (∃ h : K < (txt z).length, (z.2 < 0 ∧ (txt z)[K] = 45) ∨ (0 ≤ z.2 ∧ (txt z)[K] = 43)) ∧ ((txt z).drop (K + 1)).take ((txt z).length - 1 - (K + 1)) = D2 := by
  have l1 := digs_len z.1.natAbs hz.1
  have l2 := digs_len z.2.natAbs hz.2
  have d1 := digsF_isD 20 z.1.natAbs
  generalize hA : (if z.1 < 0 then [45] else []) ++ digs z.1.natAbs = A
  have hAl : A.length = (if z.1 < 0 then 1 else 0) + (digs z.1.natAbs).length := by rw [← hA]; split <;> simp <;> omega
  have hAp : 0 < A.length := by rw [hAl]; omega
  generalize hc : (if z.2 < 0 then (45 : UInt8) else 43) = c
  have ht : txt z = A ++ c :: (digs z.2.natAbs ++ [105]) := by
    unfold txt tail1; rw [← List.append_assoc, hA, hc]
  have htl : (txt z).length = A.length + 1 + (digs z.2.natAbs).length + 1 := by rw [ht]; simp; omega
  refine ⟨A.length, A, digs z.1.natAbs, digs z.2.natAbs, by omega, by omega, ?_, ⟨by omega, ?_⟩, by rw [ht, List.take_left], rfl, rfl, ?_, ⟨by omega, ?_⟩, ?_⟩
  · intro k h h1 h2
    have e : (txt z)[k] = A[k] := by simp only [ht]; rw [List.getElem_append_left h2]
    rw [e]
    have hm : A[k] ∈ digs z.1.natAbs := by
      by_cases hz0 : z.1 < 0
      · have e2 : A = 45 :: digs z.1.natAbs := by rw [← hA, if_pos hz0]; rfl
        obtain ⟨m, rfl⟩ : ∃ m, k = m + 1 := ⟨k - 1, by omega⟩
        simp only [e2, List.getElem_cons_succ]
        exact List.getElem_mem _
      · have e2 : A = digs z.1.natAbs := by rw [← hA, if_neg hz0]; rfl
        simp only [e2]
        exact List.getElem_mem _
    exact isD_iff.1 (d1 _ hm)
  · have e : txt z = (A ++ c :: digs z.2.natAbs) ++ [105] := by rw [ht]; simp
    simp only [e, List.length_append, List.length_cons, List.length_nil]
    rw [List.getElem_append_right (by simp)]
    simp
  · by_cases hz0 : z.1 < 0
    · exact Or.inl ⟨hz0, by rw [← hA, if_pos hz0]; rfl⟩
    · exact Or.inr ⟨by omega, by rw [← hA, if_neg hz0]; rfl⟩
  · have e : (txt z)[A.length]'(by omega) = c := by simp only [ht]; rw [List.getElem_append_right (Nat.le_refl _)]; simp
    rw [e]
    by_cases hz0 : z.2 < 0
    · exact Or.inl ⟨hz0, by rw [← hc, if_pos hz0]⟩
    · exact Or.inr ⟨by omega, by rw [← hc, if_neg hz0]⟩
  · have e : (txt z).drop (A.length + 1) = digs z.2.natAbs ++ [105] := by
      rw [ht, show A ++ c :: (digs z.2.natAbs ++ [105]) = (A ++ [c]) ++ (digs z.2.natAbs ++ [105]) by simp, List.drop_left' (by simp)]
    rw [e, List.take_left' (by omega)]

theorem rparse (l : List UInt8) (y : Int × Int) (ec : Int) (w : World) (hl : l.length ≤ 1000) (h : IsW l y ec) :
    Calls Try.prog 57 #[.string (bs l)] w fun e w' => e = .returned (.tuple #[.agg #[.int .i64 y.1, .int .i64 y.2], .int .i64 ec]) ∧ Kept [] w w' := by
  rcases h with ⟨h1, rfl, rfl⟩ | ⟨h1, rfl, rfl⟩
  · obtain ⟨K, A, D1, D2, k1, k2, kd, ⟨g3, kl⟩, ka, rfl, rfl, kn, ⟨g4, ks⟩, k6⟩ := txt_sign y h1
    have l1 := digs_len y.1.natAbs h1.1
    have hz : (bs (txt y)).size = (txt y).length := bs_size _
    have sz : ∀ n : Nat, n ≤ 2 ^ 53 → ∀ w, Calls Try.prog 70 #[.string (bs (digs n))] w fun e w' => e = .returned (.tuple #[.int .i64 (n : Int), .bool true]) ∧ w = w' := fun n hn w => by
      have ln := digs_len n hn
      refine (rsize (bs (digs n)) w (by unfold maxLen; rw [bs_size]; omega)).mono ?_
      rintro e w' ⟨⟨m, ok, rfl, _, _, h5⟩, rfl⟩
      obtain ⟨rfl, rfl⟩ := h5 n hn rfl
      exact ⟨rfl, rfl⟩
    have hA0 : 0 < (bs A).size := by
      rw [bs_size]
      rcases kn with ⟨_, rfl⟩ | ⟨_, rfl⟩
      · simp
      · omega
    refine rparse_yes (bs (txt y)) (bs A) (bs (digs y.1.natAbs)) (bs (digs y.2.natAbs)) K y.1 y.2 w (by omega) k1 (by omega) (fun k h a b => by
        have := kd k (by omega) a b
        show 48 ≤ ((txt y)[k].toNat : Int) ∧ ((txt y)[k].toNat : Int) ≤ 57
        omega) ?_ (by rw [bs_extract, Nat.sub_zero, List.drop_zero, ka]) hA0 ?_ ?_ ?_ (sz _ h1.1) (sz _ h1.2) (fun w => rtext y w h1) h1.1 h1.2
    · have : ((bs (txt y))[(bs (txt y)).size - 1]'(by omega)) = 105 := by
        show (txt y)[(bs (txt y)).size - 1]'_ = 105
        simp only [hz]; exact kl
      rw [this]; rfl
    · rcases kn with ⟨h2, h3⟩ | ⟨h2, h3⟩
      · subst h3
        exact Or.inl ⟨h2, rfl, tail_bs _⟩
      · subst h3
        refine Or.inr ⟨h2, ?_, rfl⟩
        have := isD_iff.1 (digsF_isD 20 y.1.natAbs _ (List.getElem_mem (show 0 < (digsF 20 y.1.natAbs).length from l1.1)))
        show (((digs y.1.natAbs)[0].toNat : Int) == 45) = false
        have e : (digs y.1.natAbs)[0] = (digsF 20 y.1.natAbs)[0]'l1.1 := rfl
        rw [e]; simp; omega
    · rcases ks with ⟨h2, h3⟩ | ⟨h2, h3⟩
      · refine Or.inl ⟨h2, ?_⟩
        show (((txt y)[K]).toNat : Int) = 45
        rw [h3]; rfl
      · refine Or.inr ⟨h2, ?_⟩
        show (((txt y)[K]).toNat : Int) = 43
        rw [h3]; rfl
    · rw [bs_extract, hz, k6]
  · exact rparse_no (bs l) w (by rw [bs_size]; omega) (fun z hz => by rw [bs_toList, bs_toList]; simpa using h1 z hz)
end Go.Proofs.Ytkghkkfcgegmeaa
