/- Walks of layer 11 (super): which of two sectors counts. -/
import Derived.Test.YtpdmnjcklpklnaaR12
import Derived.Test.YtpdmnjcklpklnaaR16
namespace Go.Proofs.Ytpdmnjcklpklnaa
open Go.RowKit
set_option linter.unusedVariables false
set_option linter.unusedSimpArgs false

theorem pget (l : List UInt8) (w : World) (hl : l.length ≤ 1000000) : Calls Try.prog 15 #[.string (bs l)] w (GetSays (.int .i64 0) (.int .i64 110) l w) := by
  by_cases h : l.length = 128
  · exact pget_128 l w h
  · exact (pget_len l w h hl).mono fun e w' hh => ⟨Or.inr ⟨fun hi => h hi.1, hh.1⟩, hh.2⟩
theorem rget (l : List UInt8) (w : World) (hl : l.length ≤ 1000000) : Calls Try.prog 17 #[.string (bs l)] w (GetSays (.bool true) (.bool false) l w) := by
  by_cases h : l.length = 128
  · exact rget_128 l w h
  · exact (rget_len l w h hl).mono fun e w' hh => ⟨Or.inr ⟨fun hi => h hi.1, hh.1⟩, hh.2⟩
/-- what Get gives: a superblock's numbers, and where its runs stand. -/
theorem getSays_any {ok bad : Value} {l : List UInt8} {w w' : World} {e : Ending} (h : GetSays ok bad l w e w') :
    (∃ v, isSB l ∧ e = .returned (.tuple #[.agg ((dec l).cells v), ok]) ∧ RunsIn w' v (dec l).runs w.heap.size w'.heap.size ∧ Kept [] w w') ∨
    (¬ isSB l ∧ e = .returned (.tuple #[.agg (zeroSB.cells (.slice none 0 0)), bad]) ∧ Kept [] w w') := by
  rcases h with ⟨⟨h1, v, h2, h3⟩ | ⟨h1, h2⟩, h4⟩
  · exact Or.inl ⟨v, h1, h2, h3, h4⟩
  · exact Or.inr ⟨h1, h2, h4⟩

/-- the sector in a slot. -/
def sec (a b : List UInt8) (k : Nat) : List UInt8 := if k = 0 then a else b
/-- what was found in the first slots. -/
def St (a b : List UInt8) (k : Nat) (s : SB) (x : Int) : Prop :=
  (k = 0 ∧ s = zeroSB ∧ x = 110) ∨ (k = 1 ∧ ((cnt0 a ∧ s = dec a ∧ x = 0) ∨ (¬ cnt0 a ∧ s = zeroSB ∧ x = 110))) ∨
  (k = 2 ∧ ∃ o, PickOf a b o ∧ s = pickSB o ∧ x = if o.isSome then 0 else 110)
theorem isSB_seq {l : List UInt8} (h : isSB l) : 0 < (dec l).seq := h.2.2.1.1.1
theorem St.take {a b : List UInt8} {k : Nat} {s : SB} {x : Int} (h : St a b k s x) (hk : k < 2) (hi : isSB (sec a b k)) (hp : (dec (sec a b k)).seq % 2 = k) (hlt : s.seq < (dec (sec a b k)).seq) : St a b (k + 1) (dec (sec a b k)) 0 := by
  rcases h with ⟨rfl, rfl, rfl⟩ | ⟨rfl, h⟩ | ⟨rfl, _⟩
  · exact Or.inr (Or.inl ⟨rfl, Or.inl ⟨⟨hi, hp⟩, rfl, rfl⟩⟩)
  · refine Or.inr (Or.inr ⟨rfl, some b, Or.inr (Or.inr ⟨rfl, ⟨hi, hp⟩, ?_⟩), rfl, rfl⟩)
    rintro ⟨c0, cl⟩
    rcases h with ⟨_, rfl, _⟩ | ⟨hn, _⟩
    · have hlt' : (dec a).seq < (dec b).seq := hlt
      omega
    · exact hn c0
  · omega
theorem St.skip {a b : List UInt8} {k : Nat} {s : SB} {x : Int} (h : St a b k s x) (hk : k < 2) (hno : ¬ (isSB (sec a b k) ∧ (dec (sec a b k)).seq % 2 = k ∧ s.seq < (dec (sec a b k)).seq)) : St a b (k + 1) s x := by
  rcases h with ⟨rfl, rfl, rfl⟩ | ⟨rfl, h⟩ | ⟨rfl, _⟩
  · exact Or.inr (Or.inl ⟨rfl, Or.inr ⟨fun hc => hno ⟨hc.1, hc.2, isSB_seq hc.1⟩, rfl, rfl⟩⟩)
  · rcases h with ⟨hc, rfl, rfl⟩ | ⟨hn, rfl, rfl⟩
    · exact Or.inr (Or.inr ⟨rfl, some a, Or.inr (Or.inl ⟨rfl, hc, fun hb => hno ⟨hb.1.1, hb.1.2, hb.2⟩⟩), rfl, rfl⟩)
    · exact Or.inr (Or.inr ⟨rfl, none, Or.inl ⟨rfl, hn, fun hb => hno ⟨hb.1, hb.2, isSB_seq hb.1⟩⟩, rfl, rfl⟩)
  · omega
theorem St.two {a b : List UInt8} {s : SB} {x : Int} (h : St a b 2 s x) : ∃ o, PickOf a b o ∧ s = pickSB o ∧ x = if o.isSome then 0 else 110 := by
  rcases h with ⟨h, _⟩ | ⟨h, _⟩ | ⟨_, h⟩
  · omega
  · omega
  · exact h
theorem St.done {a b : List UInt8} {s : SB} {x : Int} {v : Value} {w w' : World} (h : St a b 2 s x) (hr : RunsIn w' v s.runs w.heap.size w'.heap.size) (hk : Kept [] w w') : PickSays (.int .i64 0) (.int .i64 110) a b w (.returned (.tuple #[.agg (s.cells v), .int .i64 x])) w' := by
  obtain ⟨o, h1, rfl, rfl⟩ := h.two
  exact ⟨⟨o, v, h1, by cases o <;> rfl, hr⟩, hk⟩

set_option maxRecDepth 100000 in
set_option maxHeartbeats 2000000 in
theorem ppick (a b : List UInt8) (w : World) (ha : a.length ≤ 1000000) (hb : b.length ≤ 1000000) :
    Calls Try.prog 18 #[.string (bs a), .string (bs b)] w (PickSays (.int .i64 0) (.int .i64 110) a b w) := by
  obtain ⟨o0, o1, o2⟩ := own_three w #[.int .u64 0, .int .i64 0, .int .i64 0, .int .i64 0, .int .i64 0, .slice none 0 0] #[.int .u64 0, .int .i64 0, .int .i64 0, .int .i64 0, .int .i64 0, .slice none 0 0] #[.string (bs a), .string (bs b)] 25 25 9
  have hget : ∀ k W, Calls Try.prog 15 #[.string (bs (sec a b k))] W (GetSays (.int .i64 0) (.int .i64 110) (sec a b k) W) := fun k W => pget _ W (by unfold sec; split <;> assumption)
  have hslot := fun n W (h : n < 18446744073709551616) => pslot n W h
  have HG := Lib.hid hget
  have HSL := Lib.hid hslot
  clear hget hslot
  go_enter Try.func18, Try.ntmps18
  go_wp2_with fail
  go_loopw [7, 17] (fun x i wr => ∃ (k : Nat) (s : SB) (y : Int) (v : Value), k ≤ 2 ∧ i = .int .i64 k ∧ x = .int .i64 y ∧ St a b k s y ∧ s.seq < 18446744073709551616 ∧ Own wr (w.heap.size + 1) #[.int .u64 s.seq, .int .i64 s.sectors, .int .i64 s.journal, .int .i64 s.used, .int .i64 s.size, v] 25 ∧ RunsIn wr v s.runs (w.heap.size + 3) wr.heap.size ∧ Own wr w.heap.size #[.int .u64 0, .int .i64 0, .int .i64 0, .int .i64 0, .int .i64 0, .slice none 0 0] 25 ∧ Own wr (w.heap.size + 2) #[.string (bs a), .string (bs b)] 9 ∧ Kept [] w wr) (fun _ i _ => 2 - (intOf i).toNat)
  case atStart => exact ⟨0, zeroSB, 110, _, by omega, rfl, rfl, Or.inl ⟨rfl, rfl, rfl⟩, by decide, o1, Or.inl ⟨rfl, _, _, rfl⟩, o0, o2, (((Kept.refl _ _).alloc _).alloc _).alloc _⟩
  case round =>
    obtain ⟨k, s, y, v, hk, rfl, rfl, hst, hsq, og, hrun, ho, hs, hK⟩ := hrel
    by_cases hlt : k < 2
    · have hcell : wr.cell? ⟨w.heap.size + 2, k, none⟩ = some (.string (bs (sec a b k))) := by
        rcases (by omega : k = 0 ∨ k = 1) with rfl | rfl
        · exact hs.cell 0 (by simp)
        · exact hs.cell 1 (by simp)
      have HST := Lib.hid hst
      have HTK : Hid (isSB (sec a b k) → (dec (sec a b k)).seq % 2 = k → s.seq < (dec (sec a b k)).seq → St a b (k + 1) (dec (sec a b k)) 0) := fun h1 h2 h3 => hst.take hlt h1 h2 h3
      have HSK : Hid (¬ (isSB (sec a b k) ∧ (dec (sec a b k)).seq % 2 = k ∧ s.seq < (dec (sec a b k)).seq) → St a b (k + 1) s y) := fun h1 => hst.skip hlt h1
      have HQ : Hid (∀ l, (dec l).seq < 18446744073709551616) := fun l => le_lt l 8 8
      have hG := HG.out k
      have HLT := Lib.hid hlt
      clear hst HG o0 o1 o2
      generalize sec a b k = c at *
      go_wp2_with fail
      refine (hG wr).mono ?_; rintro e w1 hh
      rcases getSays_any hh with ⟨v1, hi, rfl, hr1, hk1⟩ | ⟨hi, rfl, hk1⟩
      · have hq := HQ.out c
        have HI := Lib.hid hi
        unfold SB.cells
        clear hh hi hcell HST hG HQ
        generalize dec c = d at *
        obtain ⟨p1, c1, rfl⟩ := hr1.shape
        have hws : w.heap.size + 3 ≤ wr.heap.size := by have := hs.lt; omega
        have hw1 := hk1.size
        have on := Own.new w1 #[.int .u64 d.seq, .int .i64 d.sectors, .int .i64 d.journal, .int .i64 d.used, .int .i64 d.size, .slice p1 d.runs.length c1] 25
        have og1 := (hk1.own og (by simp)).alloc (.cells #[.int .u64 d.seq, .int .i64 d.sectors, .int .i64 d.journal, .int .i64 d.used, .int .i64 d.size, .slice p1 d.runs.length c1] 25)
        have ho1 := (hk1.own ho (by simp)).alloc (.cells #[.int .u64 d.seq, .int .i64 d.sectors, .int .i64 d.journal, .int .i64 d.used, .int .i64 d.size, .slice p1 d.runs.length c1] 25)
        have hs1 := (hk1.own hs (by simp)).alloc (.cells #[.int .u64 d.seq, .int .i64 d.sectors, .int .i64 d.journal, .int .i64 d.used, .int .i64 d.size, .slice p1 d.runs.length c1] 25)
        have hK1 := (hK.trans hk1).alloc (.cells #[.int .u64 d.seq, .int .i64 d.sectors, .int .i64 d.journal, .int .i64 d.used, .int .i64 d.size, .slice p1 d.runs.length c1] 25)
        have hr0 := hrun.kept0 (hk1.alloc (.cells #[.int .u64 d.seq, .int .i64 d.sectors, .int .i64 d.journal, .int .i64 d.used, .int .i64 d.size, .slice p1 d.runs.length c1] 25))
        have hr1' := RunsIn.kept0 hr1 ((Kept.refl _ _).alloc (.cells #[.int .u64 d.seq, .int .i64 d.sectors, .int .i64 d.journal, .int .i64 d.used, .int .i64 d.size, .slice p1 d.runs.length c1] 25))
        obtain ⟨x0, x1, x2, x3, x4, x5⟩ := on.c6
        obtain ⟨y0, y1, y2, y3, y4, y5⟩ := og1.c6
        have zy := og1.z6
        have hslot := fun W => HSL.out d.seq W hq
        clear hr1 hK og ho hs hrun hk1 on HSL
        by_cases hp : d.seq % 2 = k
        · rw [hp] at hslot
          by_cases hl : s.seq < d.seq
          · have HT := Lib.hid (HTK.out HI.out hp hl)
            have hl' : (s.seq : Int) < d.seq := by omega
            clear hp hl HTK HSK HI
            go_wp2_with fail
            refine (hslot _).mono ?_; rintro e w' ⟨rfl, rfl⟩
            go_wp2_with fail
            have hS := (Kept.refl [w.heap.size + 1] (w1.alloc (.cells #[.int .u64 d.seq, .int .i64 d.sectors, .int .i64 d.journal, .int .i64 d.used, .int .i64 d.size, .slice p1 d.runs.length c1] 25))).set6 (b := w.heap.size + 1) (Or.inl (by simp)) (.int .u64 d.seq) (.int .i64 d.sectors) (.int .i64 d.journal) (.int .i64 d.used) (.int .i64 d.size) (.slice p1 d.runs.length c1)
            have hr5 := hr1'.kept hS (fun x hx => by simp at hx; omega)
            go_roundw
            case rel => exact ⟨k + 1, d, 0, _, HLT.out, by go_num, rfl, HT.out, hq, og1.set6 _ _ _ _ _ _, hr5.weaken hws (by simp [World.setCell]) (Nat.le_refl _), ho1.other6 (by omega) _ _ _ _ _ _, hs1.other6 (by omega) _ _ _ _ _ _, hK1.set6 (Or.inr (by omega)) _ _ _ _ _ _⟩
            case measure => (have hh := HLT.out; simp [intOf]; omega)
          · have HT := Lib.hid (HSK.out (fun hx => hl hx.2.2))
            have hl' : ¬ ((s.seq : Int) < d.seq) := by omega
            clear hp hl HTK HSK HI
            go_wp2_with fail
            refine (hslot _).mono ?_; rintro e w' ⟨rfl, rfl⟩
            go_wp2_with fail
            go_roundw
            case rel => exact ⟨k + 1, s, y, v, HLT.out, by go_num, rfl, HT.out, hsq, og1, hr0.weaken (Nat.le_refl _) (by simp; omega) (Nat.le_refl _), ho1, hs1, hK1⟩
            case measure => (have hh := HLT.out; simp [intOf]; omega)
        · have HT := Lib.hid (HSK.out (fun hx => hp hx.2.1))
          have hp' : (((d.seq % 2 : Nat) : Int) == (k : Int)) = false := by rw [beq_eq_false_iff_ne]; omega
          clear hp HTK HSK HI
          generalize d.seq % 2 = m at *
          go_wp2_with fail
          refine (hslot _).mono ?_; rintro e w' ⟨rfl, rfl⟩
          go_wp2_with fail
          go_roundw
          case rel => exact ⟨k + 1, s, y, v, HLT.out, by go_num, rfl, HT.out, hsq, og1, hr0.weaken (Nat.le_refl _) (by simp; omega) (Nat.le_refl _), ho1, hs1, hK1⟩
          case measure => (have hh := HLT.out; simp [intOf]; omega)
      · have HT := Lib.hid (HSK.out (fun hx => hi hx.1))
        unfold SB.cells zeroSB
        clear hh hi hcell HST hG HQ HTK HSK
        have hws : w.heap.size + 3 ≤ wr.heap.size := by have := hs.lt; omega
        have hw1 := hk1.size
        have on := Own.new w1 #[.int .u64 0, .int .i64 0, .int .i64 0, .int .i64 0, .int .i64 0, .slice none 0 0] 25
        have og1 := (hk1.own og (by simp)).alloc (.cells #[.int .u64 0, .int .i64 0, .int .i64 0, .int .i64 0, .int .i64 0, .slice none 0 0] 25)
        have ho1 := (hk1.own ho (by simp)).alloc (.cells #[.int .u64 0, .int .i64 0, .int .i64 0, .int .i64 0, .int .i64 0, .slice none 0 0] 25)
        have hs1 := (hk1.own hs (by simp)).alloc (.cells #[.int .u64 0, .int .i64 0, .int .i64 0, .int .i64 0, .int .i64 0, .slice none 0 0] 25)
        have hK1 := (hK.trans hk1).alloc (.cells #[.int .u64 0, .int .i64 0, .int .i64 0, .int .i64 0, .int .i64 0, .slice none 0 0] 25)
        have hr0 := hrun.kept0 (hk1.alloc (.cells #[.int .u64 0, .int .i64 0, .int .i64 0, .int .i64 0, .int .i64 0, .slice none 0 0] 25))
        clear hK og ho hs hrun hk1 on HSL
        go_wp2_with fail
        go_roundw
        case rel => exact ⟨k + 1, s, y, v, HLT.out, by go_num, rfl, HT.out, hsq, og1, hr0.weaken (Nat.le_refl _) (by simp; omega) (Nat.le_refl _), ho1, hs1, hK1⟩
        case measure => (have hh := HLT.out; simp [intOf]; omega)
    · obtain rfl : k = 2 := by omega
      obtain ⟨p1, c1, rfl⟩ := hrun.shape
      obtain ⟨y0, y1, y2, y3, y4, y5⟩ := og.c6
      obtain ⟨x0, x1, x2, x3, x4, x5⟩ := ho.c6
      have zo := ho.z6
      have HST := Lib.hid hst
      have hws : w.heap.size + 3 ≤ wr.heap.size := by have := hs.lt; omega
      have hS := (Kept.refl [w.heap.size] wr).set6 (b := w.heap.size) (Or.inl (by simp)) (.int .u64 s.seq) (.int .i64 s.sectors) (.int .i64 s.journal) (.int .i64 s.used) (.int .i64 s.size) (.slice p1 s.runs.length c1)
      have hr5 := hrun.kept hS (fun x hx => by simp at hx; omega)
      have hk5 := hK.set6 (b := w.heap.size) (Or.inr (Nat.le_refl _)) (.int .u64 s.seq) (.int .i64 s.sectors) (.int .i64 s.journal) (.int .i64 s.used) (.int .i64 s.size) (.slice p1 s.runs.length c1)
      clear hst HG HSL o0 o1 o2 hS hK hrun
      go_wp2_with fail
      refine bodyPost_ret (v := .tuple #[.agg #[.int .u64 s.seq, .int .i64 s.sectors, .int .i64 s.journal, .int .i64 s.used, .int .i64 s.size, .slice p1 s.runs.length c1], .int .i64 y]) ?_ ?_ ?_
      · exact ret_row_tmp Try.results18 rfl rfl (ho.set6 _ _ _ _ _ _) Try.underlying25 rfl (by kernel_rfl)
      · rfl
      · exact HST.out.done (hr5.weaken (by omega) (by simp [World.setCell]) (Nat.le_refl _)) hk5
end Go.Proofs.Ytpdmnjcklpklnaa
