/- What is read, laid again. -/
import Derived.Test.YtmghjdhmlaeibaaP6
namespace Go.Proofs.Ytmghjdhmlaeibaa
open Go.RowKit
set_option linter.unusedVariables false
set_option linter.unusedSimpArgs false

theorem keepErr_any {e x : Int} (he : e ≠ 0) : keepErr e x ≠ 0 := by
  unfold keepErr; split <;> assumption
theorem takeR_ok {n : Nat} {l : List UInt8} {x : Int} (h : (takeR n l x).2.2 = 0) : x = 0 ∧ (takeR n l x).1.length = n ∧ (takeR n l x).1 ++ (takeR n l x).2.1 = l := by
  unfold takeR at h ⊢
  split at h
  · exact absurd h (by assumption)
  · split at h
    · simp at h
    · split at h
      · simp at h
      · rename_i h1 h2 h3
        rw [if_neg h1, if_neg h2, if_neg h3]
        refine ⟨by simpa using h1, by simp; omega, by simp⟩
theorem lenR_ok {m : Nat} {l : List UInt8} {x : Int} (h : (lenR m l x).2.2 = 0) : x = 0 ∧ numL (lenR m l x).1 4 ++ (lenR m l x).2.1 = l := by
  unfold lenR at h ⊢
  simp only at h ⊢
  split at h
  · exact absurd h (keepErr_any (by decide))
  · rename_i h1
    rw [if_neg h1]
    unfold numR at h ⊢
    obtain ⟨h2, h3, h4⟩ := takeR_ok (n := 4) h
    refine ⟨h2, ?_⟩
    show numL (leL (takeR (4 : Nat) l x).1) 4 ++ (takeR (4 : Nat) l x).2.1 = l
    have := numL_leL (takeR (4 : Nat) l x).1
    rw [h3] at this
    rw [this, h4]
theorem textR_ok {l : List UInt8} {x : Int} (h : (textR l x).2.2 = 0) : x = 0 ∧ textL (textR l x).1 ++ (textR l x).2.1 = l := by
  unfold textR at h ⊢
  simp only at h ⊢
  obtain ⟨h2, h3, h4⟩ := takeR_ok h
  obtain ⟨h5, h6⟩ := lenR_ok h2
  refine ⟨h5, ?_⟩
  unfold textL
  rw [h3, List.append_assoc, h4, h6]
theorem itemsR_ok {n : Nat} {acc : List (List UInt8)} {l : List UInt8} {x : Int} (h : (itemsR acc n l x).2.2 = 0) : x = 0 ∧ ∃ its : List (List UInt8), (itemsR acc n l x).1 = acc ++ its ∧ its.length = n ∧ (its.map textL).flatten ++ (itemsR acc n l x).2.1 = l := by
  induction n generalizing acc l x with
  | zero => exact ⟨h, [], by simp [itemsR], rfl, by simp [itemsR]⟩
  | succ n ih =>
    rw [itemsR] at h ⊢
    split at h
    · rename_i h1
      rw [if_pos h1]
      obtain ⟨_, its, h2, h3, h4⟩ := ih h
      obtain ⟨h5, h6⟩ := textR_ok h1
      refine ⟨h5, (textR l x).1 :: its, by rw [h2]; simp, by simp [h3], ?_⟩
      rw [List.map_cons, List.flatten_cons, List.append_assoc, h4, h6]
    · rename_i h1
      exact absurd h h1
theorem listR_ok {l : List UInt8} (h : (listR l 0).2.2 = 0) : listL (listR l 0).1 ++ (listR l 0).2.1 = l := by
  unfold listR at h ⊢
  simp only at h ⊢
  obtain ⟨h1, its, h2, h3, h4⟩ := itemsR_ok h
  obtain ⟨_, h6⟩ := lenR_ok h1
  rw [h2, List.nil_append]
  unfold listL
  rw [h3, List.append_assoc, h4, h6]

theorem bs_data_map (l : List (List UInt8)) : (l.map bs).map (fun s => s.data.toList) = l := by
  rw [List.map_map]; conv => rhs; rw [← List.map_id l]
  rfl
theorem textLs_len (l : List (List UInt8)) : ((l.map textL).flatten).length = (l.map fun s => 4 + s.length).sum := by
  rw [List.length_flatten, List.map_map]; congr 1; apply List.map_congr_left; intro s _; simp [textL_len]
theorem lenL_bs (l : List (List UInt8)) : lenL (l.map bs) = (listL l).length := by
  unfold lenL listL
  rw [List.length_append, numL_len, textLs_len, List.map_map]
  congr 2
theorem listL_ge (l : List (List UInt8)) : l.length ≤ (listL l).length ∧ ∀ s ∈ l, s.length ≤ (listL l).length := by
  unfold listL
  rw [List.length_append, numL_len, textLs_len]
  induction l with
  | nil => simp
  | cons a l ih =>
    obtain ⟨h1, h2⟩ := ih
    simp only [List.map_cons, List.sum_cons, List.length_cons, List.mem_cons]
    refine ⟨by omega, fun s hs => ?_⟩
    rcases hs with rfl | hs
    · omega
    · have := h2 s hs; omega

theorem cut_of {s : ByteArray} {A R : List UInt8} (h : A ++ R = s.data.toList) : R.length ≤ s.size ∧ s.extract 0 (s.size - R.length) = bs A ∧ A.length + R.length = s.size := by
  have h1 := congrArg List.length h
  rw [List.length_append, size_data] at h1
  have h3 : s.extract 0 A.length = bs A := by
    have h2 : s = bs (A ++ R) := by rw [h, bs_of]
    rw [h2, bs_extract]; simp
  refine ⟨by omega, ?_, by omega⟩
  rw [show s.size - R.length = A.length from by omega, h3]

set_option maxRecDepth 100000 in
theorem back_walk (s : ByteArray) (w : World) (_hs : s.size ≤ maxLen) :
    Calls Try.prog 3 #[.string s] w fun e w' => e = .returned (.bool true) ∧ Below w.heap.size w w' := by
  by_cases h1 : (2000 : Int) < s.size
  · go_enter Try.func3, Try.ntmps3
    go_wp2_with fail
    refine (pawake _).mono ?_; rintro e w1 ⟨rfl, k⟩
    go_wp2_with fail
    go_ret
    exact ⟨rfl, k.below⟩
  · go_enter Try.func3, Try.ntmps3
    go_wp2_with fail
    refine (packRead s _).mono ?_; rintro e w1 ⟨rfl, hR, k1⟩
    have hsz : s.size ≤ 2000 := by omega
    have hlt1 := Own.lt hR
    have hR' : RdAt w1 w.heap.size s.data.toList 0 := hR
    clear hR
    generalize hbb : w.heap.size = b at *
    go_wp2_with fail
    refine (rdList b _ _ _ hR' hlt1).mono ?_; rintro e w2 ⟨⟨v, rfl, hS⟩, hR2, k2⟩
    have kk2 : Kept [] w w2 := k1.call k2 (by simp; omega)
    have e2 := rdErr b _ _ w2 hR2
    by_cases hu : (listR s.data.toList 0).2.2 = 0
    · have hlaw := listR_ok hu
      rw [hu] at e2
      obtain ⟨g1, he2, g6⟩ := cut_of hlaw
      obtain ⟨g4, g5⟩ := listL_ge (listR s.data.toList 0).1
      have hp := packList v _ _ _ w2 hS (by rw [List.length_map]; omega) (fun x hx => by
        obtain ⟨y, hy, rfl⟩ := List.mem_map.1 hx
        have := g5 y hy
        rw [bs_size]; omega) (by rw [lenL_bs]; omega)
      rw [bs_data_map] at hp
      generalize listL (listR s.data.toList 0).1 = A at *
      generalize listR s.data.toList 0 = u at *
      clear hu hR' g4 g5
      obtain ⟨p, n, c, rfl⟩ : ∃ p n c, v = .slice p n c := by
        rcases hS with ⟨_, a, c, rfl⟩ | ⟨b, off, c, rfl, _⟩
        · exact ⟨a, 0, c, rfl⟩
        · exact ⟨_, _, c, rfl⟩
      go_wp2_with fail
      refine e2.mono ?_; rintro e w' ⟨rfl, rfl⟩
      go_wp2_with fail
      refine hp.mono ?_; rintro e w3 ⟨rfl, k3⟩
      have hR3 : RdAt w3 b _ _ := k3.own hR2 (by simp)
      have l3 := rdLeft b _ _ w3 hR3
      have kk := kk2.trans k3
      clear kk2 k3 hR2 hR3
      go_wp2_with fail
      refine l3.mono ?_; rintro e w' ⟨rfl, rfl⟩
      go_wp2_with fail
      clear l3 he2 g1 hlaw
      refine (packRead s _).mono ?_; rintro e w5 ⟨rfl, hT, k5⟩
      have hT' : RdAt w5 w3.heap.size s.data.toList 0 := hT
      clear hT
      have kk5 := kk.trans k5
      have hle5 : w.heap.size ≤ w3.heap.size := kk.size
      clear kk k5
      generalize w3.heap.size = b2 at *
      go_wp2_with fail
      refine (rdText b2 _ _ _ hT').mono ?_; rintro e w6 ⟨rfl, hT2, k6⟩
      have kk6 : Kept [] w w6 := kk5.call k6 (by simpa using hle5)
      have e6 := rdErr b2 _ _ w6 hT2
      have l6 := rdLeft b2 _ _ w6 hT2
      clear kk5 k6 hT'
      by_cases hu : (textR s.data.toList 0).2.2 = 0
      · have hlaw := (textR_ok hu).2
        rw [hu] at e6
        have hp : ∀ w, Calls Try.prog 19 #[.string (bs (textR s.data.toList 0).1)] w fun e w' => e = .returned (.string (bs (textL (textR s.data.toList 0).1))) ∧ Kept [] w w' := fun w => packText (bs (textR s.data.toList 0).1) w (by
          have := congrArg List.length hlaw
          rw [List.length_append, textL_len, size_data] at this
          rw [bs_size]; omega)
        obtain ⟨g1, he2, g6⟩ := cut_of hlaw
        generalize textL (textR s.data.toList 0).1 = A at *
        generalize textR s.data.toList 0 = u at *
        clear hu hlaw l6
        go_wp2_with fail
        refine e6.mono ?_; rintro e w' ⟨rfl, rfl⟩
        go_wp2_with fail
        refine (hp _).mono ?_; rintro e w7 ⟨rfl, k7⟩
        have hl7 := rdLeft b2 _ _ w7 (k7.own hT2 (by simp) : RdAt w7 b2 _ _)
        go_wp2_with fail
        refine (hl7).mono ?_; rintro e w' ⟨rfl, rfl⟩
        go_wp2_with fail
        refine (pawake _).mono ?_; rintro e w8 ⟨rfl, k8⟩
        go_wp2_with fail
        go_ret
        exact ⟨rfl, ((kk6.trans k7).trans k8).below⟩
      · have hd : ((textR s.data.toList 0).2.2 != 0) = true := by simpa using hu
        generalize textR s.data.toList 0 = u at *
        clear hu hT2 l6
        go_wp2_with fail
        refine e6.mono ?_; rintro e w' ⟨rfl, rfl⟩
        go_wp2_with fail
        refine (pawake _).mono ?_; rintro e w8 ⟨rfl, k8⟩
        go_wp2_with fail
        go_ret
        exact ⟨rfl, (kk6.trans k8).below⟩
    · have hd : ((listR s.data.toList 0).2.2 == 0) = false := by simpa using hu
      generalize listR s.data.toList 0 = u at *
      clear hu hR2 hR'
      have kk := kk2
      clear kk2 hS
      go_wp2_with fail
      refine e2.mono ?_; rintro e w' ⟨rfl, rfl⟩
      go_wp2_with fail
      refine (packRead s _).mono ?_; rintro e w5 ⟨rfl, hT, k5⟩
      have hT' : RdAt w5 w2.heap.size s.data.toList 0 := hT
      clear hT
      have kk5 := kk.trans k5
      have hle5 : w.heap.size ≤ w2.heap.size := kk.size
      clear kk k5
      generalize w2.heap.size = b2 at *
      go_wp2_with fail
      refine (rdText b2 _ _ _ hT').mono ?_; rintro e w6 ⟨rfl, hT2, k6⟩
      have kk6 : Kept [] w w6 := kk5.call k6 (by simpa using hle5)
      have e6 := rdErr b2 _ _ w6 hT2
      have l6 := rdLeft b2 _ _ w6 hT2
      clear kk5 k6 hT'
      by_cases hu : (textR s.data.toList 0).2.2 = 0
      · have hlaw := (textR_ok hu).2
        rw [hu] at e6
        have hp : ∀ w, Calls Try.prog 19 #[.string (bs (textR s.data.toList 0).1)] w fun e w' => e = .returned (.string (bs (textL (textR s.data.toList 0).1))) ∧ Kept [] w w' := fun w => packText (bs (textR s.data.toList 0).1) w (by
          have := congrArg List.length hlaw
          rw [List.length_append, textL_len, size_data] at this
          rw [bs_size]; omega)
        obtain ⟨g1, he2, g6⟩ := cut_of hlaw
        generalize textL (textR s.data.toList 0).1 = A at *
        generalize textR s.data.toList 0 = u at *
        clear hu hlaw l6
        go_wp2_with fail
        refine e6.mono ?_; rintro e w' ⟨rfl, rfl⟩
        go_wp2_with fail
        refine (hp _).mono ?_; rintro e w7 ⟨rfl, k7⟩
        have hl7 := rdLeft b2 _ _ w7 (k7.own hT2 (by simp) : RdAt w7 b2 _ _)
        go_wp2_with fail
        refine (hl7).mono ?_; rintro e w' ⟨rfl, rfl⟩
        go_wp2_with fail
        refine (pawake _).mono ?_; rintro e w8 ⟨rfl, k8⟩
        go_wp2_with fail
        go_ret
        exact ⟨rfl, ((kk6.trans k7).trans k8).below⟩
      · have hd : ((textR s.data.toList 0).2.2 != 0) = true := by simpa using hu
        generalize textR s.data.toList 0 = u at *
        clear hu hT2 l6
        go_wp2_with fail
        refine e6.mono ?_; rintro e w' ⟨rfl, rfl⟩
        go_wp2_with fail
        refine (pawake _).mono ?_; rintro e w8 ⟨rfl, k8⟩
        go_wp2_with fail
        go_ret
        exact ⟨rfl, (kk6.trans k8).below⟩
end Go.Proofs.Ytmghjdhmlaeibaa
