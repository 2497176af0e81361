/- Plain laws of layer 11 (super), for the document's answer: the sector's bytes two by two; at most sixteen runs. -/
import Derived.Test.YtpdmnjcklpklnaaR13
import Derived.Test.YtpdmnjcklpklnaaR10
import Derived.Test.YtpdmnjcklpklnaaQ10
namespace Go.Proofs.Ytpdmnjcklpklnaa
open Go.RowKit
set_option linter.unusedVariables false
set_option linter.unusedSimpArgs false

theorem rput (s : SB) (v : Value) (lo hi : Nat) (w : World) (h : RunsIn w v s.runs lo hi) (hm : s.may) (hq : s.seq < 18446744073709551616) :
    Calls Try.prog 16 #[.agg (s.cells v)] w fun e w' => e = .returned (.string (bs s.sector)) ∧ Kept [] w w' := by
  obtain ⟨⟨g1, g2, g3, g4, g5, g6, g7, g8, g9, g10⟩, hL, _⟩ := hm
  have hLO := lieTo_ok (Nat.le_refl _) hL
  obtain ⟨sq, a, b, u, z, l⟩ := s
  simp only at *
  obtain ⟨a, rfl⟩ := Int.eq_ofNat_of_zero_le (show 0 ≤ a by omega)
  obtain ⟨b, rfl⟩ := Int.eq_ofNat_of_zero_le (show 0 ≤ b by omega)
  obtain ⟨u, rfl⟩ := Int.eq_ofNat_of_zero_le (show 0 ≤ u by omega)
  obtain ⟨z, rfl⟩ := Int.eq_ofNat_of_zero_le (show 0 ≤ z by omega)
  exact rput' sq a b u z l v lo hi w h hq (by omega) (by omega) (by omega) (by omega) g10 (fun k hk => by
    have := okRun_iff.1 (hLO k hk)
    omega)

theorem le_two (l : List UInt8) (a : Nat) (h : a + 2 ≤ l.length) : le l a 2 = (l[a]'(by omega)).toNat + 256 * (l[a + 1]'(by omega)).toNat := by
  unfold le
  rw [List.drop_eq_getElem_cons (by omega), List.drop_eq_getElem_cons (by omega)]
  show leL [l[a], l[a + 1]] = _
  simp only [leL]; omega

/-- what a sector says, of at most sixteen runs. -/
def dec16 (l : List UInt8) : SB := ⟨le l 8 8, (le l 16 4 : Nat), (le l 20 4 : Nat), (le l 24 4 : Nat), (le l 28 4 : Nat), decRuns l (min (le l 32 2) 16)⟩
theorem dec16_eq {l : List UInt8} (h : le l 32 2 ≤ 16) : dec16 l = dec l := by
  unfold dec16 dec; rw [Nat.min_eq_left h]
theorem isSB_16 {l : List UInt8} (h : l.length = 128) : isSB l ↔ (dec16 l).may ∧ (dec16 l).sector = l := by
  constructor
  · rintro ⟨_, h1, h2, h3⟩
    rw [dec16_eq h1]; exact ⟨h2, h3⟩
  · rintro ⟨h2, h3⟩
    have h1 : le l 32 2 ≤ 16 := by
      have e1 : (dec16 l).runs.length = min (le l 32 2) 16 := decRuns_len l _
      have e2 := sector_32 (dec16 l) (by omega)
      rw [h3, e1] at e2
      omega
    rw [dec16_eq h1] at h2 h3
    exact ⟨h, h1, h2, h3⟩

theorem rnum' (b k n : Nat) (l : List UInt8) (w : World) (hR : RrAt w b (l.drop k) 0) (h : k + n ≤ l.length) (hn : n ≤ 8) :
    Calls Try.prog 41 #[.pointer (some ⟨b, 0, none⟩), .int .i64 n] w fun e w' => e = .returned (.int .u64 (le l k n)) ∧ RrAt w' b (l.drop (k + n)) 0 ∧ Kept [b] w w' := by
  have hu := rrNum b n (l.drop k) 0 w hR hn
  have e : numR n (l.drop k) 0 = (le l k n, l.drop (k + n), 0) := by
    unfold numR takeR le
    rw [if_neg (by simp), if_neg (by omega), if_neg (by simp; omega), List.drop_drop]; rfl
  rw [e] at hu
  exact hu
theorem rtake8 (b : Nat) (l : List UInt8) (w : World) (hR : RrAt w b l 0) (h : 8 ≤ l.length) :
    Calls Try.prog 40 #[.pointer (some ⟨b, 0, none⟩), .int .i64 8] w fun e w' => e = .returned (.string (bs (l.take 8))) ∧ RrAt w' b (l.drop 8) 0 ∧ Kept [b] w w' := by
  have hu := rrTake b l 0 8 w hR
  have e : takeR 8 l 0 = (l.take 8, l.drop 8, 0) := by
    unfold takeR
    rw [if_neg (by simp), if_neg (by omega), if_neg (by omega)]; rfl
  rw [e] at hu
  exact hu
theorem RrAt.map {w w' : World} {b : Nat} {l : List UInt8} {x : Int} (h : RrAt w b l x) (f : ∀ cs, Own w b cs 71 → Own w' b cs 71) : RrAt w' b l x := by
  obtain ⟨S, a, o, r⟩ := h; exact ⟨S, a, f _ o, r⟩
theorem RrAt.alloc {w : World} {b : Nat} {l : List UInt8} {x : Int} (h : RrAt w b l x) (o : Obj) : RrAt (w.alloc o) b l x := h.map fun _ k => k.alloc o
theorem RrAt.other {w : World} {b : Nat} {l : List UInt8} {x : Int} (h : RrAt w b l x) {p : Addr} (hp : b ≠ p.block) (u : Value) : RrAt (w.setCell p u) b l x := h.map fun _ k => k.other hp u
theorem rrNew {w : World} {b : Nat} {l : List UInt8} (o : Own w b #[.string (bs l), .int .i64 0, .int .i64 0] 71) (hl : l.length ≤ 1000000) : RrAt w b l 0 :=
  ⟨l, 0, o, Nat.zero_le _, hl, rfl, fun h => absurd rfl h⟩
end Go.Proofs.Ytpdmnjcklpklnaa
