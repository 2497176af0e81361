/- Layer 33 (catalog): which bytes are catalogs', and of which: plain. -/
import Derived.Test.YtakdnchmehmdhaaGreatG03
import Derived.Test.YtakdnchmehmdhaaGreatG20
import Derived.Test.YtakdnchmehmdhaaGreatG25
import Derived.Test.YtakdnchmehmdhaaGreatG26
import Derived.Test.YtakdnchmehmdhaaGreatG27
import Derived.Test.YtakdnchmehmdhaaGreatG31
namespace Go.Proofs.YtakdnchmehmdhaaGreat
open Go.RowKit
set_option linter.unusedVariables false
set_option linter.unusedSimpArgs false

/-- the items of the records of a kind. -/
def kindK (k : Int) (l : List JRec) : List JItem := (l.filter (fun r => decide (r.kind = k))).map (·.item)
theorem kindK_append (k : Int) (l m : List JRec) : kindK k (l ++ m) = kindK k l ++ kindK k m := by unfold kindK; rw [List.filter_append, List.map_append]
theorem kindK_snoc (k : Int) (l : List JRec) (r : JRec) : kindK k (l ++ [r]) = sortK r.kind k r.item (kindK k l) := by
  rw [kindK_append]
  unfold sortK kindK
  by_cases h : r.kind = k <;> simp [h]
theorem kindK_same (k : Int) : ∀ L : List JItem, kindK k (L.map (·.told k)) = L
  | [] => rfl
  | a :: L => by
    have ih := kindK_same k L
    unfold kindK at ih ⊢
    rw [List.map_cons, List.filter_cons_of_pos (by simp [JItem.told]), List.map_cons, ih]
    rfl
theorem kindK_other {k j : Int} (h : j ≠ k) : ∀ L : List JItem, kindK k (L.map (·.told j)) = []
  | [] => rfl
  | a :: L => by
    have ih := kindK_other h L
    unfold kindK at ih ⊢
    rw [List.map_cons, List.filter_cons_of_neg (by simp [JItem.told, h])]
    exact ih
theorem kindK_catR (c : JCat) : kindK 1 (catR c) = c.boxes ∧ kindK 2 (catR c) = c.mans ∧ kindK 3 (catR c) = c.names := by
  unfold catR
  simp only [kindK_append]
  rw [kindK_same 1, kindK_same 2, kindK_same 3, kindK_other (show (2 : Int) ≠ 1 by decide), kindK_other (show (3 : Int) ≠ 1 by decide), kindK_other (show (1 : Int) ≠ 2 by decide), kindK_other (show (3 : Int) ≠ 2 by decide), kindK_other (show (1 : Int) ≠ 3 by decide), kindK_other (show (2 : Int) ≠ 3 by decide)]
  simp
theorem catR_kind {c : JCat} : ∀ r ∈ catR c, r.kind = 1 ∨ r.kind = 2 ∨ r.kind = 3 := by
  intro r hr
  unfold catR at hr
  simp only [List.mem_append, List.mem_map] at hr
  rcases hr with (⟨a, _, rfl⟩ | ⟨a, _, rfl⟩) | ⟨a, _, rfl⟩
  · exact Or.inl rfl
  · exact Or.inr (Or.inl rfl)
  · exact Or.inr (Or.inr rfl)
/-- a catalog whose fields are of their types. -/
def FitC (c : JCat) : Prop := (Lit.int .u32 c.nextBox).wf = true ∧ (Lit.int .u32 c.nextMan).wf = true ∧ ∀ r ∈ catR c, r.fits
theorem CatIn.fit {w : World} {v : Value} {c : JCat} (h : CatIn w v c) : FitC c := by
  obtain ⟨vb, vm, vn, rfl, hb, hm, hn, hwb, hwm⟩ := h
  have hf : ∀ {u : Value} {L : List JItem}, ItemsIn w u L → ∀ a ∈ L, a.fits := fun {u L} hi a ha => by
    obtain ⟨vs, hvs, _, hok⟩ := hi
    rw [← hvs] at ha
    obtain ⟨x, hx, rfl⟩ := List.mem_map.1 ha
    exact (hok x hx).2.1
  refine ⟨hwb, hwm, fun r hr => ?_⟩
  unfold catR at hr
  simp only [List.mem_append, List.mem_map] at hr
  rcases hr with (⟨a, ha, rfl⟩ | ⟨a, ha, rfl⟩) | ⟨a, ha, rfl⟩
  · exact JItem.told_fits (hf hb a ha) (by decide)
  · exact JItem.told_fits (hf hm a ha) (by decide)
  · exact JItem.told_fits (hf hn a ha) (by decide)
def tailC (c : JCat) : List UInt8 := if catR c = [] then [] else txL (catR c)
def lsC (c : JCat) : List (List JRec) := if catR c = [] then [] else [catR c]
theorem lsC_flat (c : JCat) : (lsC c).flatten = catR c := by
  unfold lsC; split
  · rename_i h; rw [h]; rfl
  · simp
theorem lsC_len (c : JCat) : (lsC c).length ≤ 1 := by unfold lsC; split <;> simp
theorem bodyC_eq (c : JCat) : bodyC c = headC c.nextBox.toNat c.nextMan.toNat ++ tailC c := rfl
theorem tail_reads {c : JCat} (hm : mayC c) (hf : FitC c) : readO (tailC c) = some (lsC c) := by
  unfold tailC lsC
  split
  · rfl
  · rename_i h
    have h1 : 1 ≤ (catR c).length := by
      cases e : catR c with
      | nil => exact absurd e h
      | cons a t => simp
    have h2 : (catR c).length ≤ 8192 := by
      have := hm.boxes.1; have := hm.mans.1; have := hm.names.1
      rw [catR_len]; omega
    have := readO_lay [catR c] (fun l hl => by
      have : l = catR c := by simpa using hl
      subst this
      exact ⟨fun r hr => ⟨catR_may hm r hr, hf.2.2 r hr⟩, h1, h2⟩)
    simpa using this
/-- the two numbers ahead. -/
def nbT (u : List UInt8) : Nat := (numR 4 u 0).1
def nmT (u : List UInt8) : Nat := (numR 4 (numR 4 u 0).2.1 (numR 4 u 0).2.2).1
theorem nums_lay (nb nm : Nat) (h1 : nb < 4294967296) (h2 : nm < 4294967296) (rest : List UInt8) : nbT (numL nb 4 ++ (numL nm 4 ++ rest)) = nb ∧ nmT (numL nb 4 ++ (numL nm 4 ++ rest)) = nm := by
  unfold nbT nmT
  rw [numR_lay' _ (by simpa using h1)]
  simp only
  rw [numR_lay' _ (by simpa using h2)]
  refine ⟨?_, ?_⟩ <;> first | rfl | trivial
def catT (u : List UInt8) (ls : List (List JRec)) : JCat := ⟨nbT u, nmT u, kindK 1 ls.flatten, kindK 2 ls.flatten, kindK 3 ls.flatten⟩
theorem fit_nums {c : JCat} (hf : FitC c) : (c.nextBox.toNat : Int) = c.nextBox ∧ c.nextBox.toNat < 4294967296 ∧ (c.nextMan.toNat : Int) = c.nextMan ∧ c.nextMan.toNat < 4294967296 := by
  obtain ⟨b1, b2⟩ := bd32 hf.1
  obtain ⟨b3, b4⟩ := bd32 hf.2.1
  omega
theorem catT_lay {c : JCat} (hf : FitC c) (rest : List UInt8) : catT (numL c.nextBox.toNat 4 ++ (numL c.nextMan.toNat 4 ++ rest)) (lsC c) = c := by
  obtain ⟨e1, e2, e3, e4⟩ := fit_nums hf
  obtain ⟨h1, h2⟩ := nums_lay _ _ e2 e4 rest
  obtain ⟨k1, k2, k3⟩ := kindK_catR c
  unfold catT
  rw [lsC_flat, h1, h2, e1, e3, k1, k2, k3]
theorem body_parts (c : JCat) : 12 ≤ (bodyC c).length ∧ (bodyC c).take 4 = [67, 65, 84, 76] ∧ ((bodyC c).take 12).drop 4 = numL c.nextBox.toNat 4 ++ (numL c.nextMan.toNat 4 ++ []) ∧ (bodyC c).drop 12 = tailC c := by
  rw [bodyC_eq]
  have hl := headC_len c.nextBox.toNat c.nextMan.toNat
  refine ⟨by rw [List.length_append, hl]; omega, ?_, ?_, ?_⟩
  · unfold headC
    simp
  · rw [List.take_append_of_le_length (by omega), List.take_of_length_le (by omega)]
    unfold headC
    simp
  · rw [List.drop_append_of_le_length (by omega), List.drop_of_length_le (by omega)]; simp
/-- what a catalog's bytes are to one who opens them. -/
theorem put_opens {c : JCat} {s t : List UInt8} (hp : putC c = s) (ho : opnL s = some t) : t = bodyC c := by
  subst hp
  unfold putC at ho
  rw [opnL_seal] at ho
  injection ho with ho
  exact ho.symm
theorem put_open {c : JCat} {s : List UInt8} (hp : putC c = s) : opnL s = some (bodyC c) := by subst hp; exact opnL_seal _
/-- no catalog's bytes, or those of the one that is read. -/
theorem get_one {c : JCat} {s t : List UInt8} {ls : List (List JRec)} (hm : mayC c) (hf : FitC c) (hp : putC c = s) (ho : opnL s = some t) (hr : readO (t.drop 12) = some ls) :
    12 ≤ t.length ∧ t.take 4 = [67, 65, 84, 76] ∧ ls = lsC c ∧ catT ((t.take 12).drop 4) ls = c := by
  have e := put_opens hp ho
  subst e
  obtain ⟨h1, h2, h3, h4⟩ := body_parts c
  rw [h4, tail_reads hm hf] at hr
  injection hr with hr
  subst hr
  refine ⟨h1, h2, rfl, ?_⟩
  rw [h3]
  exact catT_lay hf []
/-- what Get tells: the one catalog of these bytes, or that there is none. -/
def NoCat (s : List UInt8) : Prop := ∀ c, mayC c → FitC c → putC c ≠ s
theorem noCat_open {s : List UInt8} (h : opnL s = none) : NoCat s := fun c hm hf hp => by rw [put_open hp] at h; cases h
theorem noCat_head {s t : List UInt8} (ho : opnL s = some t) (h : ¬ (12 ≤ t.length ∧ t.take 4 = [67, 65, 84, 76])) : NoCat s := fun c hm hf hp => by
  have e := put_opens hp ho
  subst e
  exact h ⟨(body_parts c).1, (body_parts c).2.1⟩
theorem noCat_read {s t : List UInt8} (ho : opnL s = some t) (h : readO (t.drop 12) = none) : NoCat s := fun c hm hf hp => by
  have e := put_opens hp ho
  subst e
  rw [(body_parts c).2.2.2, tail_reads hm hf] at h; cases h
theorem noCat_many {s t : List UInt8} {ls : List (List JRec)} (ho : opnL s = some t) (hr : readO (t.drop 12) = some ls) (h : ¬ ls.length ≤ 1) : NoCat s := fun c hm hf hp => by
  obtain ⟨_, _, rfl, _⟩ := get_one hm hf hp ho hr
  exact h (lsC_len c)
theorem noCat_kind {s t : List UInt8} {ls : List (List JRec)} (ho : opnL s = some t) (hr : readO (t.drop 12) = some ls) {r : JRec} (hm' : r ∈ ls.flatten) (h : ¬ (r.kind = 1 ∨ r.kind = 2 ∨ r.kind = 3)) : NoCat s := fun c hm hf hp => by
  obtain ⟨_, _, rfl, _⟩ := get_one hm hf hp ho hr
  rw [lsC_flat] at hm'
  exact h (catR_kind r hm')
theorem noCat_back {s t : List UInt8} {ls : List (List JRec)} (ho : opnL s = some t) (hr : readO (t.drop 12) = some ls) (h : ¬ (mayC (catT ((t.take 12).drop 4) ls) ∧ putC (catT ((t.take 12).drop 4) ls) = s)) : NoCat s := fun c hm hf hp => by
  obtain ⟨_, _, _, e⟩ := get_one hm hf hp ho hr
  rw [e] at h
  exact h ⟨hm, hp⟩
/-- two catalogs of the same bytes. -/
theorem putC_inj {c d : JCat} (hc : mayC c) (fc : FitC c) (hd : mayC d) (fd : FitC d) (h : putC c = putC d) : c = d := by
  have ho := put_open (c := c) rfl
  have hr : readO ((bodyC c).drop 12) = some (lsC c) := by rw [(body_parts c).2.2.2, tail_reads hc fc]
  obtain ⟨_, _, _, e1⟩ := get_one hc fc rfl ho hr
  obtain ⟨_, _, _, e2⟩ := get_one hd fd h.symm ho hr
  rw [← e1, ← e2]
/-! ### the document's way: no sum is looked at ahead -/
theorem put_len {c : JCat} {s : List UInt8} (hp : putC c = s) : 16 ≤ s.length := by
  subst hp
  have := (body_parts c).1
  unfold putC sealL
  rw [List.length_append, numL_len]; omega
theorem put_cut {c : JCat} {s : List UInt8} (hp : putC c = s) : s.take (s.length - 4) = bodyC c := by
  subst hp
  unfold putC sealL
  have : (bodyC c ++ numL (crc (bodyC c)) 4).length - 4 = (bodyC c).length := by rw [List.length_append, numL_len]; omega
  rw [this]; simp
theorem put_drop {c : JCat} {s : List UInt8} (hp : putC c = s) : ∃ rest, s.drop 4 = numL c.nextBox.toNat 4 ++ (numL c.nextMan.toNat 4 ++ rest) := by
  subst hp
  refine ⟨tailC c ++ numL (crc (bodyC c)) 4, ?_⟩
  unfold putC sealL
  rw [bodyC_eq]
  unfold headC
  simp
theorem qget_one {c : JCat} {s : List UInt8} {ls : List (List JRec)} (hm : mayC c) (hf : FitC c) (hp : putC c = s) (hr : readO ((s.take (s.length - 4)).drop 12) = some ls) : ls = lsC c ∧ catT (s.drop 4) ls = c := by
  rw [put_cut hp, (body_parts c).2.2.2, tail_reads hm hf] at hr
  injection hr with hr
  subst hr
  obtain ⟨rest, e⟩ := put_drop hp
  refine ⟨rfl, ?_⟩
  rw [e]
  exact catT_lay hf rest
theorem noCat_short {s : List UInt8} (h : ¬ 16 ≤ s.length) : NoCat s := fun c hm hf hp => h (put_len hp)
theorem noCat_qread {s : List UInt8} (h : readO ((s.take (s.length - 4)).drop 12) = none) : NoCat s := fun c hm hf hp => by
  rw [put_cut hp, (body_parts c).2.2.2, tail_reads hm hf] at h; cases h
theorem noCat_qmany {s : List UInt8} {ls : List (List JRec)} (hr : readO ((s.take (s.length - 4)).drop 12) = some ls) (h : ¬ ls.length ≤ 1) : NoCat s := fun c hm hf hp => by
  obtain ⟨rfl, _⟩ := qget_one hm hf hp hr
  exact h (lsC_len c)
theorem noCat_qback {s : List UInt8} {ls : List (List JRec)} (hr : readO ((s.take (s.length - 4)).drop 12) = some ls) (h : ¬ (mayC (catT (s.drop 4) ls) ∧ putC (catT (s.drop 4) ls) = s)) : NoCat s := fun c hm hf hp => by
  obtain ⟨_, e⟩ := qget_one hm hf hp hr
  rw [e] at h
  exact h ⟨hm, hp⟩
theorem gtakeR_le (n : Int) (l : List UInt8) (x : Int) : (takeR n l x).2.1.length ≤ l.length := by
  unfold takeR
  split
  · exact Nat.le_refl _
  · split
    · exact Nat.zero_le _
    · split
      · exact Nat.zero_le _
      · simp
theorem gnumR_le (k : Nat) (l : List UInt8) (x : Int) : (numR k l x).2.1.length ≤ l.length := gtakeR_le _ _ _
theorem glenR_le (m : Nat) (l : List UInt8) (x : Int) : (lenR m l x).2.1.length ≤ l.length := by
  unfold lenR
  simp only
  split
  · exact Nat.zero_le _
  · exact gnumR_le _ _ _
theorem gtextR_le (l : List UInt8) (x : Int) : (textR l x).2.1.length ≤ l.length := by
  unfold textR
  exact Nat.le_trans (gtakeR_le _ _ _) (glenR_le _ _ _)
theorem gidR_le (k : Int) (l : List UInt8) (x : Int) : (idR k l x).2.1.length ≤ l.length := by
  unfold idR; split
  · exact gnumR_le _ _ _
  · exact Nat.le_refl _
theorem gnmR_le (k : Int) (l : List UInt8) (x : Int) : (nmR k l x).2.1.length ≤ l.length := by
  unfold nmR; split
  · exact gtextR_le _ _
  · exact Nat.le_refl _
theorem gszR_le (k : Int) (l : List UInt8) (x : Int) : (szR k l x).2.1.length ≤ l.length := by
  unfold szR; split
  · exact gnumR_le _ _ _
  · exact Nat.le_refl _
theorem gctR_le (k : Int) (l : List UInt8) (x : Int) : (ctR k l x).2.1.length ≤ l.length := by
  unfold ctR; split
  · exact gnumR_le _ _ _
  · exact Nat.le_refl _
theorem grunsR_le (n : Nat) (l : List UInt8) (x : Int) : (runsR n l x).2.1.length ≤ l.length := by
  induction n with
  | zero => exact Nat.le_refl _
  | succ n ih =>
    rw [runsR]
    exact Nat.le_trans (gnumR_le _ _ _) (Nat.le_trans (gnumR_le _ _ _) ih)
theorem grecO_may {s t : List UInt8} {r : JRec} (h : recO s = some (r, t)) : mayR r = true ∧ t.length + 2 ≤ s.length := by
  unfold recO at h
  split at h
  · rename_i hh
    injection h with h
    injection h with h1 h2
    subst h1 h2
    refine ⟨hh.2, ?_⟩
    have hk := may_kind hh.2
    have hm := hh.2
    have l5 : (oneR (nR s).1 s).2.1.length ≤ (nR s).2.1.length := grunsR_le _ _ _
    have l4 : (nR s).2.1.length ≤ (zR s).2.1.length := gctR_le _ _ _
    have l3 : (zR s).2.1.length ≤ (tR s).2.1.length := gszR_le _ _ _
    have l2 : (tR s).2.1.length ≤ (iR s).2.1.length := gnmR_le _ _ _
    have l1 : (iR s).2.1.length ≤ (kdR s).2.1.length := gidR_le _ _ _
    have ek : (oneR (nR s).1 s).1.kind = ((kdR s).1 : Int) := rfl
    have ei : (oneR (nR s).1 s).1.id = ((iR s).1 : Int) := rfl
    have en : (oneR (nR s).1 s).1.name = (tR s).1 := rfl
    rw [ek] at hk
    have k0 : (kdR s).1 ≠ 0 := by omega
    have e0 := numR_ok (numR_pos (k := 1) (l := s) (x := 0) k0)
    have e0' : (kdR s).2.1.length + 1 = s.length := e0.2
    unfold mayR mayG at hm
    simp only [Bool.and_eq_true, Bool.or_eq_true, decide_eq_true_eq, beq_iff_eq] at hm
    obtain ⟨m1, m2, m3, m4, _⟩ := hm
    rw [ek, ei] at m2
    rw [ek, en] at m4
    rw [ek] at m1
    rcases m1 with m1 | m1
    · rw [m1] at m2
      have hi : (iR s).1 ≠ 0 := by
        have := of_decide_eq_true m2.symm
        omega
      have eI : iR s = numR 4 (kdR s).2.1 (kdR s).2.2 := by unfold iR idR; rw [m1]; rfl
      rw [eI] at hi
      have := (numR_ok (numR_pos hi)).2
      rw [← eI] at this
      omega
    · rw [m1] at m4
      have hn : (tR s).1 ≠ [] := by
        intro e; rw [e] at m4; cases m4
      have eT : tR s = textR (iR s).2.1 (iR s).2.2 := by unfold tR nmR; rw [m1]; rfl
      have eT2 : textR (iR s).2.1 (iR s).2.2 = takeR ((lenR 65536 (iR s).2.1 (iR s).2.2).1 : Int) (lenR 65536 (iR s).2.1 (iR s).2.2).2.1 (lenR 65536 (iR s).2.1 (iR s).2.2).2.2 := rfl
      have h0 : (takeR ((lenR 65536 (iR s).2.1 (iR s).2.2).1 : Int) (lenR 65536 (iR s).2.1 (iR s).2.2).2.1 (lenR 65536 (iR s).2.1 (iR s).2.2).2.2).2.2 = 0 := by
        by_cases hx : (takeR ((lenR 65536 (iR s).2.1 (iR s).2.2).1 : Int) (lenR 65536 (iR s).2.1 (iR s).2.2).2.1 (lenR 65536 (iR s).2.1 (iR s).2.2).2.2).2.2 = 0
        · exact hx
        · exact absurd (by rw [eT, eT2]; exact takeR_no hx) hn
      obtain ⟨q1, q2, q3⟩ := takeR_ok h0
      have q4 := congrArg List.length q3
      rw [List.length_append, ← eT2, ← eT] at q4
      have q5 := glenR_le 65536 (iR s).2.1 (iR s).2.2
      have q6 : 0 < (tR s).1.length := List.length_pos_iff.2 hn
      omega
  · cases h
theorem grecsO_may : ∀ (n : Nat) {s t : List UInt8} {o : List JRec}, recsO n s = some (o, t) → (∀ r ∈ o, mayR r = true) ∧ t.length + 2 * n ≤ s.length ∧ o.length = n
  | 0, s, t, o, h => by
    rw [recsO] at h
    injection h with h
    injection h with h1 h2
    subst h1 h2
    exact ⟨fun r hr => (by cases hr), by omega, rfl⟩
  | n + 1, s, t, o, h => by
    rw [recsO] at h
    split at h
    · cases h
    · rename_i o' r' he
      obtain ⟨i1, i2, i3⟩ := grecsO_may n he
      split at h
      · cases h
      · rename_i x t' hx
        injection h with h
        injection h with h1 h2
        subst h1 h2
        obtain ⟨j1, j2⟩ := grecO_may hx
        refine ⟨fun r hr => ?_, by omega, by rw [List.length_append, i3]; rfl⟩
        rcases List.mem_append.1 hr with hr | hr
        · exact i1 r hr
        · have : r = x := by simpa using hr
          subst this; exact j1
theorem gbodyO_may {s : List UInt8} {o : List JRec} (h : bodyO s = some o) : (∀ r ∈ o, mayR r = true) ∧ 2 * o.length ≤ s.length := by
  unfold bodyO at h
  split at h
  · split at h
    · rename_i o' he
      injection h with h
      subst h
      obtain ⟨i1, i2, i3⟩ := grecsO_may _ he
      have := gnumR_le 2 s 0
      exact ⟨i1, by omega⟩
    · cases h
  · cases h
theorem gtxO_may {s t : List UInt8} {o : List JRec} (h : txO s = some (o, t)) : (∀ r ∈ o, mayR r = true) ∧ 2 * o.length ≤ s.length := by
  unfold txO at h
  split at h
  · cases h
  · rename_i o' hb
    split at h
    · rename_i hc
      injection h with h
      injection h with h1 _
      subst h1
      obtain ⟨i1, i2⟩ := gbodyO_may hb
      have := (bR_less hc.1).2
      exact ⟨i1, by omega⟩
    · cases h
theorem greadF_may : ∀ (f : Nat) {s : List UInt8} {ls : List (List JRec)}, readF f s = some ls → ∀ l ∈ ls, (∀ r ∈ l, mayR r = true) ∧ 2 * l.length ≤ s.length
  | 0, s, ls, h => by
    rw [readF] at h
    split at h
    · injection h with h; subst h; intro l hl; cases hl
    · cases h
  | f + 1, s, ls, h => by
    rw [readF] at h
    split at h
    · injection h with h; subst h; intro l hl; cases hl
    · cases ht : txO s with
      | none => rw [ht] at h; cases h
      | some p =>
        rw [ht] at h
        simp only [Option.bind_some] at h
        cases hr : readF f p.2 with
        | none => rw [hr] at h; cases h
        | some ms =>
          rw [hr] at h
          simp only [Option.map_some] at h
          injection h with h
          subst h
          intro l hl
          have hless := txO_less (s := s) (r := p.2) (o := p.1) ht
          rcases List.mem_cons.1 hl with rfl | hl
          · exact gtxO_may (t := p.2) ht
          · obtain ⟨i1, i2⟩ := greadF_may f hr l hl
            exact ⟨i1, by omega⟩
theorem greadO_may {s : List UInt8} {ls : List (List JRec)} (h : readO s = some ls) : ∀ l ∈ ls, (∀ r ∈ l, mayR r = true) ∧ 2 * l.length ≤ s.length := greadF_may _ h
theorem may_wf {r : JRec} (h : mayR r = true) (hf : r.fits) : ∀ a ∈ r.runs, WfRun a := by
  intro a ha
  obtain ⟨k, hk, rfl⟩ := List.mem_iff_getElem.1 ha
  have := (rec_ok h hf).rf.2 k hk
  unfold WfRun
  omega
theorem JRec.same_self (a : JRec) : a.same a = true := by unfold JRec.same; simp
theorem RecsIn.shape {w : World} {v : Value} {l : List JRec} {lo hi : Nat} (h : RecsIn w v l lo hi) : ∃ p c, v = .slice p l.length c := RowsOf.shape h
/-- the slice v of slices of records reads as ll. -/
def TxsIn (w : World) (v : Value) (ll : List (List JRec)) (lo hi : Nat) : Prop := RowsOf 1 (fun w cs l => ∃ kv lo' hi', cs = [kv] ∧ RecsIn w kv l lo' hi') w v ll lo hi
theorem TxsIn.kept0 {w w' : World} {v : Value} {ll : List (List JRec)} {lo hi : Nat} (h : TxsIn w v ll lo hi) (k : Kept [] w w') : TxsIn w' v ll lo hi :=
  RowsOf.kept h k (fun x hx => by cases hx) (fun cs a ⟨kv, lo', hi', e1, e2⟩ => ⟨kv, lo', hi', e1, e2.kept0 k⟩)
theorem TxsIn.at_ {w : World} {p : Option Addr} {n c : Nat} {ll : List (List JRec)} {lo hi : Nat} (h : TxsIn w (.slice p n c) ll lo hi) (i : Nat) (hi' : i < ll.length) :
    ∃ b off kv lo' hi'', p = some ⟨b, off, none⟩ ∧ w.cell? ⟨b, off + i, none⟩ = some kv ∧ RecsIn w kv ll[i] lo' hi'' ∧ lo ≤ b ∧ b < hi ∧ hi ≤ w.heap.size := by
  obtain ⟨b, off, cs, e1, e2, ⟨kv, lo', hi2, rfl, e4⟩, e6, e7⟩ := RowsOf.at_ h i hi'
  refine ⟨b, off, kv, lo', hi2, e1, ?_, e4, e7⟩
  have := e6 0 _ rfl
  simpa using this
theorem TxsNew.in_ {w0 w : World} {v : Value} {ll : List (List JRec)} (h : TxsNew w0 w v ll) : TxsIn w v ll w0.heap.size w.heap.size := by
  obtain ⟨vs, rfl, h2, h3⟩ := h
  by_cases h0 : vs = []
  · subst h0
    obtain ⟨p, c, rfl⟩ := own_shape h2
    exact Or.inl ⟨rfl, p, c, rfl⟩
  · have hp : 0 < vs.length := List.length_pos_iff.2 h0
    obtain ⟨g, c, rfl, g1, g2, g3, g4, g5⟩ := ownsRow_at h2 (by simpa using hp)
    refine Or.inr ⟨g, 0, c, rfl, fun i hi => ?_, g1, g2, Nat.le_refl _, fun e => h0 (List.map_eq_nil_iff.1 e), g3, g4⟩
    have hi' : i < vs.length := by simpa using hi
    refine ⟨[vs[i].2], rfl, ⟨vs[i].2, _, _, rfl, by rw [List.getElem_map]; exact (h3 _ (List.getElem_mem hi')).in_⟩, fun j u hj => ?_⟩
    have hj0 : j = 0 := by
      have := (List.getElem?_eq_some_iff.1 hj).1
      simpa using this
    subst hj0
    rw [Nat.zero_add, Nat.mul_one]
    refine g5 _ _ ?_
    have hu : u = vs[i].2 := by simpa using hj.symm
    rw [hu]
    simp [hi']
end Go.Proofs.YtakdnchmehmdhaaGreat
