/- Layer 48 (catalog): the law Gets. -/
import Derived.Test.YtakdnchmehmdhaaGreatG24
import Derived.Test.YtakdnchmehmdhaaGreatG43
import Derived.Test.YtakdnchmehmdhaaGreatG54
namespace Go.Proofs.YtakdnchmehmdhaaGreat
open Go.RowKit
set_option linter.unusedVariables false
set_option linter.unusedSimpArgs false

theorem read_few {z : List UInt8} {n : Nat} (hz : z.length ≤ 2000) {ls : List (List JRec)} (h : readO z = some ls) : ∀ l ∈ ls, l.length ≤ 1000 := fun l hl => by
  have := (greadO_may h l hl).2
  omega
set_option maxRecDepth 100000 in
set_option maxHeartbeats 8000000 in
theorem getsLaw (a : ByteArray) (w : World) (ha : a.size ≤ maxLen) :
    Calls Tryz.prog 4 #[.string a] w fun e w' => e = .returned (.bool true) ∧ Below w.heap.size w w' := by
  have HAW := Lib.hid zawake
  have hal : (a.size : Int) ≤ 9223372036854775807 := by unfold maxLen at ha; omega
  by_cases hl : a.size ≤ 2000
  · have d1 : decide ((a.size : Int) > 2000) = false := by simp; omega
    have d1n : decide (2000 < a.size) = false := by simp; omega
    obtain ⟨s, rfl⟩ : ∃ s, a = bs s := ⟨a.data.toList, (bs_of a).symm⟩
    rw [bs_size] at hl d1 d1n hal
    have hz : ((bs s).size : Int) = s.length := by rw [bs_size]
    have hz2 : (bs s).size = s.length := bs_size s
    have HG : Hid (∀ W, Calls Tryz.prog 18 #[.string (bs s)] W (CGetSays s W)) := Lib.hid (fun W => zget s W (by omega) (fun t ls ho hr => read_few (n := 0) (by
      have e := congrArg List.length (opnL_some ho)
      unfold sealL at e
      rw [List.length_append] at e
      rw [List.length_drop]; omega) hr))
    have HQ : Hid (∀ W, Calls Tryz.prog 20 #[.string (bs s)] W (QGetSays s W)) := Lib.hid (fun W => qget s W (by omega) (fun ls hr => read_few (n := 0) (by rw [List.length_drop, List.length_take]; omega) hr))
    have HSAME : Hid (∀ W v u c, CatIn W v c → CatIn W u c → SmallC c → Calls Tryz.prog 15 #[v, u] W fun e w' => e = .returned (.bool true) ∧ Kept [] W w') := Lib.hid (fun W v u c h1 h2 hs => (qcatSame v u c c W h1 h2 hs hs).mono (fun e w' ⟨b, he, hb, k⟩ => ⟨by rw [he, hb.2 rfl], k⟩))
    unfold CGetSays at HG
    unfold QGetSays at HQ
    clear hl ha
    go_enter Tryz.func4, Tryz.ntmps4
    go_wp2_with fail
    refine (HG.out _).mono ?_; rintro e w1 ⟨hh, k1⟩
    rcases hh with ⟨c, v, m1, m2, m3, m4, rfl⟩ | ⟨hn, rfl⟩
    · have M1 := Lib.hid m1
      have M2 := Lib.hid m2
      have M3 := Lib.hid m3
      have M4 := Lib.hid m4
      obtain ⟨p1, n1, c1, p2, n2, c2, p3, n3, c3, rfl⟩ := m4.parts
      clear m1 m2 m3 m4
      have K1 := Lib.hid k1
      have K2 := Lib.hid (k1.alloc (.cells #[.int .u32 c.nextBox, .int .u32 c.nextMan, .slice p1 n1 c1, .slice p2 n2 c2, .slice p3 n3 c3] 25))
      have oA := Own.new w1 #[.int .u32 c.nextBox, .int .u32 c.nextMan, .slice p1 n1 c1, .slice p2 n2 c2, .slice p3 n3 c3] 25
      have OA := Lib.hid oA
      clear k1 oA
      go_wp2_with fail
      refine (HQ.out _).mono ?_; rintro e w3 ⟨hh, k3⟩
      rcases hh with ⟨d, u, m5, m6, m7, m8, rfl⟩ | ⟨hn2, rfl⟩
      · have K3 := Lib.hid (K2.out.trans k3)
        have OA3 := Lib.hid (k3.own OA.out (by simp))
        obtain rfl : d = c := putC_inj m5 m6 M1.out M2.out (m7.trans M3.out.symm)
        obtain ⟨q1, r1, s1, q2, r2, s2, q3, r3, s3, rfl⟩ := m8.parts
        have M8 := Lib.hid m8
        have M4' := Lib.hid ((M4.out.kept0 ((Kept.refl [] w1).alloc (.cells #[.int .u32 d.nextBox, .int .u32 d.nextMan, .slice p1 n1 c1, .slice p2 n2 c2, .slice p3 n3 c3] 25))).kept0 k3)
        clear m5 m6 m7 m8
        obtain ⟨w4, hw4⟩ : ∃ w4, w4 = w3.alloc (.cells #[.int .u32 d.nextBox, .int .u32 d.nextMan, .slice q1 r1 s1, .slice q2 r2 s2, .slice q3 r3 s3] 25) := ⟨_, rfl⟩
        have k4 : Kept [] w3 w4 := by rw [hw4]; exact (Kept.refl _ _).alloc _
        have oB : Own w4 w3.heap.size #[.int .u32 d.nextBox, .int .u32 d.nextMan, .slice q1 r1 s1, .slice q2 r2 s2, .slice q3 r3 s3] 25 := by rw [hw4]; exact Own.new _ _ _
        have K4 := Lib.hid (K3.out.trans k4)
        have oA4 := k4.own OA3.out (by simp)
        have HS := Lib.hid (HSAME.out w4 _ _ d (M4'.out.kept0 k4) (M8.out.kept0 k4) M1.out.small)
        obtain ⟨x0, x1, x2, x3, x4⟩ := oA4.k5
        obtain ⟨y0, y1, y2, y3, y4⟩ := oB.k5
        clear k3 k4 oA4 oB
        go_upto_region 5 with fail
        rw [← hw4]
        clear hw4
        go_wp2_with fail
        refine HS.out.mono ?_; rintro e w5 ⟨rfl, k5⟩
        have K5 := Lib.hid (K4.out.trans k5)
        clear k5 x0 x1 x2 x3 x4 y0 y1 y2 y3 y4
        go_wp2_with fail
        refine (HAW.out _).mono ?_; rintro e w6 ⟨rfl, k6⟩
        have K6 := Lib.hid (K5.out.trans k6)
        go_wp2_with fail
        go_ret
        exact ⟨rfl, K6.out.below⟩
      · exact absurd M3.out (hn2 c M1.out M2.out)
    · have HN := Lib.hid hn
      clear hn
      have K1 := Lib.hid k1
      have K2 := Lib.hid (k1.alloc (.cells #[.int .u32 0, .int .u32 0, .slice none 0 0, .slice none 0 0, .slice none 0 0] 25))
      have oA := Own.new w1 #[.int .u32 0, .int .u32 0, .slice none 0 0, .slice none 0 0, .slice none 0 0] 25
      have OA := Lib.hid oA
      clear k1 oA
      go_wp2_with fail
      refine (HQ.out _).mono ?_; rintro e w3 ⟨hh, k3⟩
      rcases hh with ⟨d, u, m5, m6, m7, m8, rfl⟩ | ⟨hn2, rfl⟩
      · exact absurd m7 (HN.out d m5 m6)
      · have K3 := Lib.hid (K2.out.trans k3)
        have OA3 := Lib.hid (k3.own OA.out (by simp))
        obtain ⟨w4, hw4⟩ : ∃ w4, w4 = w3.alloc (.cells #[.int .u32 0, .int .u32 0, .slice none 0 0, .slice none 0 0, .slice none 0 0] 25) := ⟨_, rfl⟩
        have k4 : Kept [] w3 w4 := by rw [hw4]; exact (Kept.refl _ _).alloc _
        have oB : Own w4 w3.heap.size #[.int .u32 0, .int .u32 0, .slice none 0 0, .slice none 0 0, .slice none 0 0] 25 := by rw [hw4]; exact Own.new _ _ _
        have K4 := Lib.hid (K3.out.trans k4)
        have oA4 := k4.own OA3.out (by simp)
        have HS := Lib.hid (HSAME.out w4 _ _ catNo ((catNo_in _)) ((catNo_in _)) small_catNo)
        obtain ⟨x0, x1, x2, x3, x4⟩ := oA4.k5
        obtain ⟨y0, y1, y2, y3, y4⟩ := oB.k5
        clear k3 k4 oA4 oB
        go_upto_region 5 with fail
        rw [← hw4]
        clear hw4
        go_wp2_with fail
        refine HS.out.mono ?_; rintro e w5 ⟨rfl, k5⟩
        have K5 := Lib.hid (K4.out.trans k5)
        clear k5 x0 x1 x2 x3 x4 y0 y1 y2 y3 y4
        go_wp2_with fail
        refine (HAW.out _).mono ?_; rintro e w6 ⟨rfl, k6⟩
        have K6 := Lib.hid (K5.out.trans k6)
        go_wp2_with fail
        go_ret
        exact ⟨rfl, K6.out.below⟩
  · have d1 : decide ((a.size : Int) > 2000) = true := by simp; omega
    have d1n : decide (2000 < a.size) = true := by simp; omega
    clear hl ha
    go_enter Tryz.func4, Tryz.ntmps4
    go_wp2_with fail
    refine (HAW.out _).mono ?_; rintro e w6 ⟨rfl, k6⟩
    go_wp2_with fail
    go_ret
    exact ⟨rfl, k6.below⟩
end Go.Proofs.YtakdnchmehmdhaaGreat
