/- Layer 41 (catalog): the program's Get. -/
import Derived.Test.YtakdnchmehmdhaaGreatG09
import Derived.Test.YtakdnchmehmdhaaGreatG14
import Derived.Test.YtakdnchmehmdhaaGreatG32
namespace Go.Proofs.YtakdnchmehmdhaaGreat
open Go.RowKit
set_option linter.unusedVariables false
set_option linter.unusedSimpArgs false

/-- what Get tells: the one catalog of these bytes, or that there is none. -/
def CGetSays (s : List UInt8) (w : World) (e : Ending) (w' : World) : Prop :=
  ((∃ c v, mayC c ∧ FitC c ∧ putC c = s ∧ CatIn w' v c ∧ e = .returned (.tuple #[v, .int .i64 0])) ∨ (NoCat s ∧ e = .returned (.tuple #[.agg #[.int .u32 0, .int .u32 0, .slice none 0 0, .slice none 0 0, .slice none 0 0], .int .i64 110]))) ∧ Kept [] w w'
theorem cget_no {s : List UInt8} {w w' : World} (h : NoCat s) (k : Kept [] w w') : CGetSays s w (.returned (.tuple #[.agg #[.int .u32 0, .int .u32 0, .slice none 0 0, .slice none 0 0, .slice none 0 0], .int .i64 110])) w' := ⟨Or.inr ⟨h, rfl⟩, k⟩
theorem cget_yes {s : List UInt8} {w w' : World} {c : JCat} {v : Value} (h1 : mayC c) (h2 : putC c = s) (h3 : CatIn w' v c) (k : Kept [] w w') : CGetSays s w (.returned (.tuple #[v, .int .i64 0])) w' := ⟨Or.inl ⟨c, v, h1, h3.fit, h2, h3, rfl⟩, k⟩
theorem kindK_len (k : Int) (l : List JRec) : (kindK k l).length ≤ l.length := by
  unfold kindK; rw [List.length_map]; exact List.length_filter_le _ _
theorem kindK_sum (l : List JRec) : (kindK 1 l).length + (kindK 2 l).length + (kindK 3 l).length ≤ l.length := by
  induction l with
  | nil => simp [kindK]
  | cons a l ih =>
    have e : ∀ k, kindK k (a :: l) = kindK k [a] ++ kindK k l := fun k => kindK_append k [a] l
    simp only [e, List.length_append, List.length_cons]
    have : (kindK 1 [a]).length + (kindK 2 [a]).length + (kindK 3 [a]).length ≤ 1 := by
      unfold kindK
      by_cases h1 : a.kind = 1
      · simp [h1]
      · by_cases h2 : a.kind = 2
        · simp [h2]
        · by_cases h3 : a.kind = 3
          · simp [h3]
          · simp [h1, h2, h3]
    omega
theorem kindK_mem {k : Int} {l : List JRec} {a : JItem} (h : a ∈ kindK k l) : ∃ r ∈ l, r.item = a := by
  unfold kindK at h
  obtain ⟨r, hr, rfl⟩ := List.mem_map.1 h
  exact ⟨r, (List.mem_filter.1 hr).1, rfl⟩
theorem catT_small {u : List UInt8} {ls : List (List JRec)} (h : ∀ l ∈ ls, ∀ r ∈ l, mayR r = true) (hl : ls.flatten.length ≤ 1000) : SmallC (catT u ls) ∧ (catT u ls).boxes.length + (catT u ls).mans.length + (catT u ls).names.length ≤ 1000 := by
  have hs : ∀ k, SmallL (kindK k ls.flatten) := fun k => ⟨by have := kindK_len k ls.flatten; omega, fun a ha => by
    obtain ⟨r, hr, rfl⟩ := kindK_mem ha
    obtain ⟨l, hl, hr⟩ := List.mem_flatten.1 hr
    have := mayR_few (h l hl r hr)
    show r.runs.length ≤ _
    omega⟩
  exact ⟨⟨hs 1, hs 2, hs 3⟩, Nat.le_trans (kindK_sum _) hl⟩
theorem Grows.cat {w1 w : World} {bx : Nat} {nb nm : Int} {A B C : List JItem} (h : Grows w1 w bx nb nm A B C) (hb : (Lit.int .u32 nb).wf = true) (hm : (Lit.int .u32 nm).wf = true) :
    ∃ va vb vc, (SlV va ∧ SlV vb ∧ SlV vc) ∧ Own w bx #[.int .u32 nb, .int .u32 nm, va, vb, vc] 25 ∧ Kept [bx] w1 w ∧ (∀ w', Kept [] w w' → CatIn w' (.agg #[.int .u32 nb, .int .u32 nm, va, vb, vc]) ⟨nb, nm, A, B, C⟩ ∧ ∀ g cs, Own w' g cs 25 → ∀ a b c d e, CatIn (((((w'.setCell ⟨g, 0, none⟩ a).setCell ⟨g, 1, none⟩ b).setCell ⟨g, 2, none⟩ c).setCell ⟨g, 3, none⟩ d).setCell ⟨g, 4, none⟩ e) (.agg #[.int .u32 nb, .int .u32 nm, va, vb, vc]) ⟨nb, nm, A, B, C⟩) := by
  obtain ⟨va, vb, vc, xs, ys, zs, o, r3, e1, e2, e3, k⟩ := h
  have hc : ∀ W, Row3 w1.heap.size W va vb vc xs ys zs → CatIn W (.agg #[.int .u32 nb, .int .u32 nm, va, vb, vc]) ⟨nb, nm, A, B, C⟩ := fun W r => by
    have i1 := r.in1
    have i2 := r.rot.in1
    have i3 := r.rot.rot.in1
    rw [e1] at i1
    rw [e2] at i2
    rw [e3] at i3
    exact ⟨va, vb, vc, rfl, i1, i2, i3, hb, hm⟩
  have hsl : ∀ {v : Value} {n : Nat} {us : List Value}, w.ownsRow w1.heap.size 58 4 v n us → SlV v := fun h => by
    obtain ⟨p, c, rfl⟩ := own_shape h
    exact ⟨_, _, _, rfl⟩
  refine ⟨va, vb, vc, ⟨hsl r3.ra, hsl r3.rb, hsl r3.rc⟩, o, k, fun w' q => ⟨hc _ (r3.kept0 q), fun g cs og a b c d e => hc _ ?_⟩⟩
  exact (((((r3.kept0 q).set og 0 a).set (og.set 0 a) 1 b).set ((og.set 0 a).set 1 b) 2 c).set (((og.set 0 a).set 1 b).set 2 c) 3 d).set ((((og.set 0 a).set 1 b).set 2 c).set 3 d) 4 e
theorem Grows.kept0 {w1 w w' : World} {bx : Nat} {nb nm : Int} {A B C : List JItem} (h : Grows w1 w bx nb nm A B C) (k : Kept [] w w') : Grows w1 w' bx nb nm A B C := by
  obtain ⟨va, vb, vc, xs, ys, zs, o, r3, e1, e2, e3, kk⟩ := h
  exact ⟨va, vb, vc, xs, ys, zs, k.own o (by simp), r3.kept0 k, e1, e2, e3, kk.trans (k.mono (fun x hx => by cases hx))⟩
theorem TxsNew.at_ {w0 w : World} {v : Value} {ll : List (List JRec)} (h : TxsNew w0 w v ll) (i : Nat) (hi : i < ll.length) :
    ∃ b off kv c, v = .slice (some ⟨b, off, none⟩) ll.length c ∧ ∀ W S, Kept S w W → OffTxs w0 w S → W.cell? ⟨b, off + i, none⟩ = some kv ∧ RecsNew w0 W kv ll[i] := by
  obtain ⟨vs, rfl, h2, h3⟩ := h
  have hi' : i < vs.length := by simpa using hi
  obtain ⟨g, c, rfl, g1, g2, g3, g4, g5⟩ := ownsRow_at h2 (by simp; omega)
  refine ⟨g, 0, vs[i].2, c, rfl, fun W S k hS => ⟨?_, ?_⟩⟩
  · have hr := ownsRow_keptT h2 k (fun x hx hb cs hc => by
      rcases hS x hx with h1 | ⟨cs', t, o, _, _, ht⟩
      · omega
      · exact ht (own_ty o hc))
    obtain ⟨g', c', e, _, _, _, _, g5'⟩ := ownsRow_at hr (by simp; omega)
    injection e with e
    injection e with e
    injection e with e
    subst e
    rw [Nat.zero_add]
    refine g5' i _ ?_
    simp [hi']
  · rw [List.getElem_map]
    exact (h3 _ (List.getElem_mem hi')).kept k hS.recs
theorem Grows.start {w1 : World} {bx : Nat} {nb nm : Int} (o : Own w1 bx #[.int .u32 nb, .int .u32 nm, .slice none 0 0, .slice none 0 0, .slice none 0 0] 25) : Grows w1 w1 bx nb nm [] [] [] :=
  ⟨_, _, _, [], [], [], o, Row3.nil _ _, rfl, rfl, rfl, Kept.refl _ _⟩
theorem flat_take {ls : List (List JRec)} {k : Nat} (hk : k < ls.length) : (ls.take (k + 1)).flatten = (ls.take k).flatten ++ ls[k] := by
  rw [List.take_succ_eq_append_getElem hk, List.flatten_append]; simp
theorem numR_wf (l : List UInt8) (x : Int) : (Lit.int .u32 ((numR 4 l x).1 : Int)).wf = true := by
  have : (numR 4 l x).1 < 4294967296 := numR_lt 4 l x
  exact wf32 (by omega) (by omega)
set_option maxRecDepth 100000 in
set_option maxHeartbeats 8000000 in
theorem zget (s : List UInt8) (w : World) (hs : s.length ≤ 1000000) (HL : ∀ t ls, opnL s = some t → readO (t.drop 12) = some ls → ∀ l ∈ ls, l.length ≤ 1000) :
    Calls Tryz.prog 18 #[.string (bs s)] w (CGetSays s w) := by
  have HOP : Hid (∀ W, Calls Tryz.prog 49 #[.string (bs s)] W (COpenSays s W)) := Lib.hid (fun W => copen s W hs)
  have HLL := Lib.hid HL
  have HS := Lib.hid hs
  have oA0 := Own.new w #[.int .u32 0, .int .u32 0, .slice none 0 0, .slice none 0 0, .slice none 0 0] 25
  have OA0 := Lib.hid oA0
  have K0 : Hid (Kept [] w (w.alloc (.cells #[.int .u32 0, .int .u32 0, .slice none 0 0, .slice none 0 0, .slice none 0 0] 25))) := Lib.hid ((Kept.refl _ _).alloc _)
  clear oA0 HL hs
  go_enter Tryz.func18, Tryz.ntmps18
  go_wp2_with fail
  refine (HOP.out _).mono ?_; rintro e w2 ⟨hop, k2⟩
  have K2 := Lib.hid (K0.out.trans k2)
  have OA2 := Lib.hid (k2.own OA0.out (by simp))
  clear k2
  rcases hop with ⟨t, hop, rfl⟩ | ⟨hop, cd, hcd, rfl⟩
  · have htl : t.length ≤ 1000000 := by
      have e := opnL_some hop
      have := congrArg List.length e
      unfold sealL at this
      rw [List.length_append] at this
      have := HS.out; omega
    have hz : ((bs t).size : Int) = t.length := by rw [bs_size]
    have hz2 : (bs t).size = t.length := bs_size t
    by_cases g1 : 12 ≤ t.length
    · have d1 : decide ((t.length : Int) < 12) = false := by simp; omega
      have E4 : (bs t).extract 0 4 = bs (t.take 4) := by rw [bs_extract]; simp
      by_cases g2 : t.take 4 = [67, 65, 84, 76]
      · have E4' : (bs t).extract 0 4 = { data := #[67, 65, 84, 76] } := by rw [E4, g2]; rfl
        have E8 : (bs t).extract 4 12 = bs ((t.take 12).drop 4) := by rw [bs_extract, List.drop_take]
        have E12 : (bs t).extract 12 t.length = bs (t.drop 12) := by rw [bs_extract, List.take_of_length_le (Nat.le_of_eq (List.length_drop ..))]
        have HPR : Hid (∀ W, Calls Tryz.prog 50 #[.string ((bs t).extract 4 12)] W fun e w' => e = .returned (.pointer (some ⟨W.heap.size, 0, none⟩)) ∧ RdAt w' W.heap.size ((t.take 12).drop 4) 0 ∧ Kept [] W w') := Lib.hid (fun W => by
          have := packRead ((bs t).extract 4 12) W
          rw [E8] at this ⊢
          rw [bs_data] at this
          exact this)
        have HJR : Hid (∀ W, Calls Tryz.prog 52 #[.string ((bs t).extract 12 t.length)] W (ReadSays (t.drop 12) W)) := Lib.hid (fun W => by
          rw [E12]
          exact jread (t.drop 12) W (by rw [List.length_drop]; omega))
        have HBACK := Lib.hid (fun ls h hh => noCat_back (ls := ls) hop h hh)
        have HKIND := Lib.hid (fun ls h r hm hh => noCat_kind (ls := ls) hop h (r := r) hm hh)
        have HMANY := Lib.hid (fun ls h hh => noCat_many (ls := ls) hop h hh)
        have HNONE := Lib.hid (fun h => noCat_read hop h)
        have HLS := Lib.hid (fun ls h => HLL.out t ls hop h)
        have i1 : (12 : Int) ≤ t.length := by omega
        have i2 : (4 : Int) ≤ t.length := by omega
        have j1 : (t.length : Int) ≤ 1000000 := by omega
        obtain ⟨u, hu⟩ : ∃ u, (t.take 12).drop 4 = u := ⟨_, rfl⟩
        rw [hu] at HPR HBACK
        obtain ⟨z, hz'⟩ : ∃ z, t.drop 12 = z := ⟨_, rfl⟩
        rw [hz'] at HJR HBACK HKIND HMANY HNONE HLS
        have HNB := Lib.hid (numR_wf u 0)
        have HNM := Lib.hid (numR_wf (numR 4 u 0).2.1 (numR 4 u 0).2.2)
        clear E4 E8 E12 hop hu hz' g1 g2 HLL htl
        unfold ReadSays at HJR
        go_wp2_with fail
        refine (HPR.out _).mono ?_; rintro e w3 ⟨rfl, rd3, k3⟩
        have RD3 := Lib.hid rd3
        have K3 := Lib.hid (K2.out.trans k3)
        have OA3 := Lib.hid (k3.own OA2.out (by simp))
        have HB : Hid (w.heap.size < w2.heap.size) := Lib.hid OA2.out.lt
        clear rd3 k3
        generalize w2.heap.size = rb at *
        go_wp2_with fail
        refine (rdU32 rb u 0 _ RD3.out).mono ?_; rintro e w4 ⟨rfl, rd4, k4⟩
        have RD4 := Lib.hid rd4
        have K4 := Lib.hid (K3.out.call k4 (fun x hx => Or.inr (by have e : x = rb := (by simpa using hx); rw [e]; have := HB.out; omega)))
        have OA4 := Lib.hid (k4.own OA3.out (by have := HB.out; simp; omega))
        clear rd4 k4
        go_wp2_with fail
        refine (rdU32 rb _ _ _ RD4.out).mono ?_; rintro e w5 ⟨rfl, rd5, k5⟩
        have K5 := Lib.hid (K4.out.call k5 (fun x hx => Or.inr (by have e : x = rb := (by simpa using hx); rw [e]; have := HB.out; omega)))
        have OA5 := Lib.hid (k5.own OA4.out (by have := HB.out; simp; omega))
        clear rd5 k5
        have ENB : Hid (nbT u = (numR 4 u 0).1) := Lib.hid rfl
        have ENM : Hid (nmT u = (numR 4 (numR 4 u 0).2.1 (numR 4 u 0).2.2).1) := Lib.hid rfl
        rw [← ENB.out] at HNB
        rw [← ENM.out] at HNM
        rw [← ENB.out, ← ENM.out]
        obtain ⟨nb, hnb⟩ : ∃ nb : Int, (nbT u : Int) = nb := ⟨_, rfl⟩
        obtain ⟨nm, hnm⟩ : ∃ nm : Int, (nmT u : Int) = nm := ⟨_, rfl⟩
        rw [hnb] at HNB
        rw [hnm] at HNM
        rw [hnb, hnm]
        have HCT : Hid (∀ ls, catT u ls = ⟨nb, nm, kindK 1 ls.flatten, kindK 2 ls.flatten, kindK 3 ls.flatten⟩) := Lib.hid (fun ls => by unfold catT; rw [hnb, hnm])
        have OB6 := Lib.hid (Own.new w5 #[.int .u32 nb, .int .u32 nm, .slice none 0 0, .slice none 0 0, .slice none 0 0] 25)
        have OA6 := Lib.hid (OA5.out.alloc (.cells #[.int .u32 nb, .int .u32 nm, .slice none 0 0, .slice none 0 0, .slice none 0 0] 25))
        have K6 := Lib.hid (K5.out.alloc (.cells #[.int .u32 nb, .int .u32 nm, .slice none 0 0, .slice none 0 0, .slice none 0 0] 25))
        have HAB : Hid (w.heap.size < w5.heap.size) := Lib.hid OA5.out.lt
        clear hnb hnm ENB ENM
        go_wp2_with fail
        refine (HJR.out _).mono ?_; rintro e w7 ⟨hjr, k7⟩
        have K7 := Lib.hid (K6.out.trans k7)
        have OA7 := Lib.hid (k7.own OA6.out (by simp))
        have OB7 := Lib.hid (k7.own OB6.out (by simp))
        clear k7
        generalize w5.heap.size = bx at *
        rcases hjr with ⟨ls, v, hro, htx, rfl⟩ | ⟨hro, rfl⟩
        · have HTX := Lib.hid htx
          obtain ⟨p8, c8, rfl⟩ := htx.shape
          have HRO := Lib.hid hro
          have HLE := Lib.hid (HLS.out ls hro)
          have HMAY := Lib.hid (fun l hl => (greadO_may hro l hl).1)
          clear htx
          by_cases g3 : ls.length ≤ 1
          · have d3 : decide ((ls.length : Int) > 1) = false := by simp; omega
            have d3' : decide ((1 : Int) < ls.length) = false := d3
            have hfl : ls.flatten.length ≤ 1000 := by
              cases hls : ls with
              | nil => simp
              | cons a m =>
                have hm : m = [] := List.eq_nil_of_length_eq_zero (by rw [hls] at g3; simpa using g3)
                have := HLE.out a (by rw [hls]; simp)
                rw [hm]
                simpa using this
            have HFL := Lib.hid hfl
            have j3 : (ls.length : Int) ≤ 1 := by omega
            have G0 := Lib.hid (Grows.start OB7.out)
            have HBX : Hid (bx < w7.heap.size) := Lib.hid OB7.out.lt
            have HTXK : Hid (∀ k (hk : k < ls.length), ∃ b off kv, p8 = some ⟨b, off, none⟩ ∧ ∀ W, Kept [bx] w7 W → W.cell? ⟨b, off + k, none⟩ = some kv ∧ RecsNew (w5.alloc (.cells #[.int .u32 nb, .int .u32 nm, .slice none 0 0, .slice none 0 0, .slice none 0 0] 25)) W kv ls[k]) := Lib.hid (fun k hk => by
              obtain ⟨b, off, kv, c, e, hh⟩ := HTX.out.at_ k hk
              injection e with e
              exact ⟨b, off, kv, e, fun W q => hh W _ q (OffTxs.one OB7.out (by decide) (by decide) (by decide))⟩)
            have HOA : Hid (∀ W, Kept [bx] w7 W → Own W w.heap.size #[.int .u32 0, .int .u32 0, .slice none 0 0, .slice none 0 0, .slice none 0 0] 25) := Lib.hid (fun W q => q.own OA7.out (by have := HAB.out; simp; omega))
            have HKW : Hid (∀ W, Kept [bx] w7 W → Kept [] w W) := Lib.hid (fun W q => K7.out.call q (fun x hx => Or.inr (by have e : x = bx := (by simpa using hx); rw [e]; have := HAB.out; omega)))
            clear hro hfl g3 d1
            go_wp2_with fail
            clear d3 d3'
            go_loopw [57] (fun i wr => ∃ k : Nat, k ≤ ls.length ∧ i = .int .i64 k ∧ Grows w7 wr bx nb nm (kindK 1 (ls.take k).flatten) (kindK 2 (ls.take k).flatten) (kindK 3 (ls.take k).flatten)) (fun i _ => ls.length - (intOf i).toNat)
            case atStart => exact ⟨0, Nat.zero_le _, rfl, G0.out⟩
            case round =>
              obtain ⟨k, hk, rfl, hG⟩ := hrel
              rename World => wr
              by_cases hlt : k < ls.length
              · have i3 : (k : Int) < ls.length := by omega
                obtain ⟨va0, vb0, vc0, _, _, hkp, _⟩ := hG.cat HNB.out HNM.out
                obtain ⟨b, off, kv, rfl, hkv⟩ := HTXK.out k hlt
                obtain ⟨hc0, hrec0⟩ := hkv wr hkp
                obtain ⟨p9, c9, rfl⟩ := hrec0.shape
                have HRECS : Hid (∀ W, Kept [bx] w7 W → RecsIn W (.slice p9 ls[k].length c9) ls[k] (w5.alloc (.cells #[.int .u32 nb, .int .u32 nm, .slice none 0 0, .slice none 0 0, .slice none 0 0] 25)).heap.size W.heap.size) := Lib.hid (fun W q => (hkv W q).2.in_)
                have HG := Lib.hid hG
                have HLT := Lib.hid hlt
                have HFT := Lib.hid (flat_take hlt)
                have HML := Lib.hid (HMAY.out ls[k] (List.getElem_mem hlt))
                have HLL2 := Lib.hid (HLE.out ls[k] (List.getElem_mem hlt))
                have HMEM : Hid (∀ r ∈ ls[k], r ∈ ls.flatten) := Lib.hid (fun r hr => List.mem_flatten.2 ⟨_, List.getElem_mem hlt, hr⟩)
                have HACC : Hid ((ls.take k).flatten.length ≤ 1000) := Lib.hid (by
                  have h1 : (ls.take k).flatten.length + (ls.drop k).flatten.length = ls.flatten.length := by rw [← List.length_append, ← List.flatten_append, List.take_append_drop]
                  have := HFL.out; omega)
                clear hG hkp hkv hrec0 hk
                obtain ⟨acc, hacc⟩ : ∃ acc, (ls.take k).flatten = acc := ⟨_, rfl⟩
                rw [hacc] at HG HFT HACC
                clear hacc
                generalize hl0 : ls[k]'hlt = l0 at *
                have i5 : (l0.length : Int) ≤ 1000 := by have := HLL2.out; omega
                clear hl0 hlt
                go_wp2_with fail
                obtain ⟨wo, rfl⟩ : ∃ wo : World, wo = wr := ⟨_, rfl⟩
                go_loopw [63] (fun i wx => ∃ j : Nat, j ≤ l0.length ∧ i = .int .i64 j ∧ Grows w7 wx bx nb nm (kindK 1 (acc ++ l0.take j)) (kindK 2 (acc ++ l0.take j)) (kindK 3 (acc ++ l0.take j))) (fun i _ => l0.length - (intOf i).toNat)
                case atStart => exact ⟨0, Nat.zero_le _, rfl, by simpa using HG.out⟩
                case round =>
                  obtain ⟨j, hj, rfl, hG2⟩ := hrel
                  rename World => wx
                  by_cases hjt : j < l0.length
                  · have i4 : (j : Int) < l0.length := by omega
                    obtain ⟨va1, vb1, vc1, _, _, hkp1, _⟩ := hG2.cat HNB.out HNM.out
                    obtain ⟨b', off', rv, rfl, y0, y1, y2, y3, y4, hruns, hfit, _⟩ := (HRECS.out wx hkp1).at_ j hjt
                    have hmr := HML.out l0[j] (List.getElem_mem hjt)
                    have htk : acc ++ l0.take (j + 1) = (acc ++ l0.take j) ++ [l0[j]] := by rw [List.take_succ_eq_append_getElem hjt, List.append_assoc]
                    have hlen : (kindK 1 (acc ++ l0.take j)).length + (kindK 2 (acc ++ l0.take j)).length + (kindK 3 (acc ++ l0.take j)).length ≤ 100000 := by
                      have h1 := kindK_sum (acc ++ l0.take j)
                      rw [List.length_append, List.length_take] at h1
                      have := HACC.out; have := HLL2.out; omega
                    have hso : ∀ W, Kept [] wx W → Calls Tryz.prog 53 #[.pointer (some ⟨bx, 0, none⟩), .agg (l0[j].cells rv)] W (CSortSays l0[j] w7 bx nb nm (kindK 1 (acc ++ l0.take j)) (kindK 2 (acc ++ l0.take j)) (kindK 3 (acc ++ l0.take j))) := fun W q => zsort l0[j] rv w7 W bx nb nm _ _ _ _ _ (hG2.kept0 q) HBX.out (hruns.kept0 q) hfit (may_wf hmr hfit) (by have := mayR_few hmr; omega) hlen
                    unfold CSortSays at hso
                    simp only [← kindK_snoc] at hso
                    rw [← htk] at hso
                    have HSO := Lib.hid hso
                    have HJT := Lib.hid hjt
                    have HBAD : Hid (¬ (l0[j].kind = 1 ∨ l0[j].kind = 2 ∨ l0[j].kind = 3) → NoCat s) := Lib.hid (fun hh => HKIND.out ls HRO.out l0[j] (HMEM.out _ (List.getElem_mem hjt)) hh)
                    obtain ⟨pr, nr, cr, rfl⟩ : SlV rv := by
                      obtain ⟨p, c, rfl⟩ := hruns.shape
                      exact ⟨_, _, _, rfl⟩
                    clear hG2 hkp1 hruns hfit hmr htk hlen hso hj
                    generalize l0[j]'hjt = r at *
                    clear hjt
                    obtain ⟨kd, id, nm', sz, rr⟩ := r
                    unfold JRec.cells at HSO
                    simp only at HSO HBAD y0 y1 y2 y3 y4
                    go_wp2_with fail
                    refine (HSO.out _ ((Kept.refl _ _).alloc _)).mono ?_; rintro e w9 ⟨rfl, hG9⟩
                    have HG9 := Lib.hid hG9
                    obtain ⟨va2, vb2, vc2, _, _, hkp2, _⟩ := hG9.cat HNB.out HNM.out
                    have OA9 := Lib.hid (HOA.out w9 hkp2)
                    have K9 := Lib.hid (HKW.out w9 hkp2)
                    clear hG9 hkp2 y0 y1 y2 y3 y4
                    by_cases hkd : kd = 1 ∨ kd = 2 ∨ kd = 3
                    · have dk : decide (kd = 1 ∨ kd = 2 ∨ kd = 3) = true := decide_eq_true hkd
                      rw [dk]
                      clear hkd dk
                      go_wp2_with fail
                      go_roundw
                      case rel => exact ⟨j + 1, HJT.out, by first | rfl | go_num, HG9.out⟩
                      case measure => (have hh := HJT.out; simp [intOf]; omega)
                    · have dk : decide (kd = 1 ∨ kd = 2 ∨ kd = 3) = false := decide_eq_false hkd
                      have HNO := Lib.hid (HBAD.out hkd)
                      rw [dk]
                      clear hkd dk
                      obtain ⟨y0, y1, y2, y3, y4⟩ := OA9.out.k5
                      obtain ⟨g0, g1, g2, g3, g4⟩ := OA9.out.y5
                      go_wp2_with fail
                      refine bodyPost_ret (v := .tuple #[.agg #[.int .u32 0, .int .u32 0, .slice none 0 0, .slice none 0 0, .slice none 0 0], .int .i64 110]) (ret_row_tmp Tryz.results18 rfl rfl (t := 25) ?_ Tryz.underlying25 rfl (by kernel_rfl)) rfl ?_
                      · exact OA9.out.put5 _ _ _ _ _
                      · exact cget_no HNO.out (Kept.set5s K9.out (Or.inr (Nat.le_refl _)) _ _ _ _ _)
                  · obtain rfl : j = l0.length := by omega
                    rw [List.take_length, ← HFT.out] at hG2
                    have HG2 := Lib.hid hG2
                    have i4 : ¬ (l0.length : Int) < l0.length := by omega
                    clear hG2 hjt hj
                    go_wp2_with fail
                    go_roundw
                    case rel => exact ⟨k + 1, HLT.out, by first | rfl | go_num, HG2.out⟩
                    case measure => (have hh := HLT.out; simp [intOf]; omega)
              · obtain rfl : k = ls.length := by omega
                rw [List.take_length] at hG
                obtain ⟨va, vb, vc, ⟨⟨p1, n1, c1, rfl⟩, ⟨p2, n2, c2, rfl⟩, ⟨p3, n3, c3, rfl⟩⟩, ob, hkp, hcat⟩ := hG.cat HNB.out HNM.out
                have hct := HCT.out ls
                rw [← hct] at hcat
                have HCAT := Lib.hid hcat
                have HP : Hid (∀ W, Kept [] wr W → Calls Tryz.prog 11 #[.agg #[.int .u32 nb, .int .u32 nm, .slice p1 n1 c1, .slice p2 n2 c2, .slice p3 n3 c3]] W (CPutSays (catT u ls) W)) := Lib.hid (fun W q => by
                  obtain ⟨hs1, hs2⟩ := catT_small (u := u) HMAY.out HFL.out
                  exact zput _ _ W (hcat W q).1 hs1 hs2)
                have OB := Lib.hid ob
                have OA := Lib.hid (HOA.out wr hkp)
                have KW := Lib.hid (HKW.out wr hkp)
                have HBK := Lib.hid (HBACK.out ls HRO.out)
                have i3 : ¬ (ls.length : Int) < ls.length := by omega
                obtain ⟨z0, z1, z2, z3, z4⟩ := ob.k5
                clear hG hkp hcat ob hlt hk hct
                unfold CPutSays at HP
                generalize catT u ls = C at *
                go_wp2_with fail
                refine (HP.out _ (Kept.refl _ _)).mono ?_; rintro e w9 ⟨rfl, k9⟩
                have K9 := Lib.hid (KW.out.trans k9)
                have KX := Lib.hid k9
                have OA9 := Lib.hid (k9.own OA.out (by simp))
                have OB9 := Lib.hid (k9.own OB.out (by simp))
                clear k9 z0 z1 z2 z3 z4
                by_cases hm : mayC C
                · have hpo : putOut C = (putC C, 0) := by unfold putOut; rw [if_pos hm]
                  rw [hpo]
                  have HM := Lib.hid hm
                  clear hpo hm
                  by_cases hp : putC C = s
                  · have q1 : ((bs (putC C)).toList == (bs s).toList) = true := by rw [hp]; simp
                    have HPE := Lib.hid hp
                    have HFIN := Lib.hid (HCAT.out w9 KX.out).2
                    obtain ⟨z0, z1, z2, z3, z4⟩ := OB9.out.k5
                    obtain ⟨y0, y1, y2, y3, y4⟩ := OA9.out.k5
                    obtain ⟨g0, g1, g2, g3, g4⟩ := OA9.out.y5
                    clear hp
                    go_wp2_with fail
                    refine bodyPost_ret (v := .tuple #[.agg #[.int .u32 nb, .int .u32 nm, .slice p1 n1 c1, .slice p2 n2 c2, .slice p3 n3 c3], .int .i64 0]) (ret_row_tmp Tryz.results18 rfl rfl (t := 25) ?_ Tryz.underlying25 rfl (by kernel_rfl)) rfl ?_
                    · exact OA9.out.put5 _ _ _ _ _
                    · exact cget_yes HM.out HPE.out (HFIN.out _ _ OA9.out _ _ _ _ _) (Kept.set5s K9.out (Or.inr (Nat.le_refl _)) _ _ _ _ _)
                  · have q1 : ((bs (putC C)).toList == (bs s).toList) = false := by rw [bs_toList, bs_toList]; simpa using hp
                    have HNO := Lib.hid (HBK.out (fun hh => hp hh.2))
                    clear hp
                    obtain ⟨y0, y1, y2, y3, y4⟩ := OA9.out.k5
                    obtain ⟨g0, g1, g2, g3, g4⟩ := OA9.out.y5
                    go_wp2_with fail
                    refine bodyPost_ret (v := .tuple #[.agg #[.int .u32 0, .int .u32 0, .slice none 0 0, .slice none 0 0, .slice none 0 0], .int .i64 110]) (ret_row_tmp Tryz.results18 rfl rfl (t := 25) ?_ Tryz.underlying25 rfl (by kernel_rfl)) rfl ?_
                    · exact OA9.out.put5 _ _ _ _ _
                    · exact cget_no HNO.out (Kept.set5s K9.out (Or.inr (Nat.le_refl _)) _ _ _ _ _)
                · have hpo : putOut C = ([], 110) := by unfold putOut; rw [if_neg hm]
                  rw [hpo]
                  have HNO := Lib.hid (HBK.out (fun hh => hm hh.1))
                  clear hpo hm
                  obtain ⟨y0, y1, y2, y3, y4⟩ := OA9.out.k5
                  obtain ⟨g0, g1, g2, g3, g4⟩ := OA9.out.y5
                  go_wp2_with fail
                  refine bodyPost_ret (v := .tuple #[.agg #[.int .u32 0, .int .u32 0, .slice none 0 0, .slice none 0 0, .slice none 0 0], .int .i64 110]) (ret_row_tmp Tryz.results18 rfl rfl (t := 25) ?_ Tryz.underlying25 rfl (by kernel_rfl)) rfl ?_
                  · exact OA9.out.put5 _ _ _ _ _
                  · exact cget_no HNO.out (Kept.set5s K9.out (Or.inr (Nat.le_refl _)) _ _ _ _ _)
          · have d3 : decide ((ls.length : Int) > 1) = true := by simp; omega
            have d3' : decide ((1 : Int) < ls.length) = true := d3
            have HNO := Lib.hid (HMANY.out ls HRO.out g3)
            clear g3 hro d1
            obtain ⟨y0, y1, y2, y3, y4⟩ := OA7.out.k5
            obtain ⟨g0, g1, g2, g3, g4⟩ := OA7.out.y5
            go_wp2_with fail
            refine bodyPost_ret (v := .tuple #[.agg #[.int .u32 0, .int .u32 0, .slice none 0 0, .slice none 0 0, .slice none 0 0], .int .i64 110]) (ret_row_tmp Tryz.results18 rfl rfl (t := 25) ?_ Tryz.underlying25 rfl (by kernel_rfl)) rfl ?_
            · exact OA7.out.put5 _ _ _ _ _
            · exact cget_no HNO.out (Kept.set5s K7.out (Or.inr (Nat.le_refl _)) _ _ _ _ _)
        · have HNO := Lib.hid (HNONE.out hro)
          clear hro d1
          obtain ⟨y0, y1, y2, y3, y4⟩ := OA7.out.k5
          obtain ⟨g0, g1, g2, g3, g4⟩ := OA7.out.y5
          go_wp2_with fail
          refine bodyPost_ret (v := .tuple #[.agg #[.int .u32 0, .int .u32 0, .slice none 0 0, .slice none 0 0, .slice none 0 0], .int .i64 110]) (ret_row_tmp Tryz.results18 rfl rfl (t := 25) ?_ Tryz.underlying25 rfl (by kernel_rfl)) rfl ?_
          · exact OA7.out.put5 _ _ _ _ _
          · exact cget_no HNO.out (Kept.set5s K7.out (Or.inr (Nat.le_refl _)) _ _ _ _ _)
      · have q1 : ((bs (t.take 4)).toList == [67, 65, 84, 76]) = false := by rw [bs_toList]; simpa using g2
        have q0 : ({ data := #[67, 65, 84, 76] } : ByteArray).toList = [67, 65, 84, 76] := bs_toList [67, 65, 84, 76]
        have q2 : ((bs (t.take 4)).toList == ({ data := #[67, 65, 84, 76] } : ByteArray).toList) = false := by rw [q0]; exact q1
        have HNO := Lib.hid (noCat_head hop (fun hh => g2 hh.2))
        have i2 : (4 : Int) ≤ t.length := by omega
        clear hop g2 g1
        obtain ⟨y0, y1, y2, y3, y4⟩ := OA2.out.k5
        obtain ⟨g0, g1, g2, g3, g4⟩ := OA2.out.y5
        go_wp2_with fail
        refine bodyPost_ret (v := .tuple #[.agg #[.int .u32 0, .int .u32 0, .slice none 0 0, .slice none 0 0, .slice none 0 0], .int .i64 110]) (ret_row_tmp Tryz.results18 rfl rfl (t := 25) ?_ Tryz.underlying25 rfl (by kernel_rfl)) rfl ?_
        · exact OA2.out.put5 _ _ _ _ _
        · exact cget_no HNO.out (Kept.set5s K2.out (Or.inr (Nat.le_refl _)) _ _ _ _ _)
    · have d1 : decide ((t.length : Int) < 12) = true := by simp; omega
      have HNO := Lib.hid (noCat_head hop (fun hh => g1 hh.1))
      clear hop g1
      obtain ⟨y0, y1, y2, y3, y4⟩ := OA2.out.k5
      obtain ⟨g0, g1, g2, g3, g4⟩ := OA2.out.y5
      go_wp2_with fail
      refine bodyPost_ret (v := .tuple #[.agg #[.int .u32 0, .int .u32 0, .slice none 0 0, .slice none 0 0, .slice none 0 0], .int .i64 110]) (ret_row_tmp Tryz.results18 rfl rfl (t := 25) ?_ Tryz.underlying25 rfl (by kernel_rfl)) rfl ?_
      · exact OA2.out.put5 _ _ _ _ _
      · exact cget_no HNO.out (Kept.set5s K2.out (Or.inr (Nat.le_refl _)) _ _ _ _ _)
  · have HNO := Lib.hid (noCat_open hop)
    have hcd2 : (cd != 0) = true := by simp [bne, hcd]
    clear hop
    obtain ⟨y0, y1, y2, y3, y4⟩ := OA2.out.k5
    obtain ⟨g0, g1, g2, g3, g4⟩ := OA2.out.y5
    go_wp2_with fail
    refine bodyPost_ret (v := .tuple #[.agg #[.int .u32 0, .int .u32 0, .slice none 0 0, .slice none 0 0, .slice none 0 0], .int .i64 110]) (ret_row_tmp Tryz.results18 rfl rfl (t := 25) ?_ Tryz.underlying25 rfl (by kernel_rfl)) rfl ?_
    · exact OA2.out.put5 _ _ _ _ _
    · exact cget_no HNO.out (Kept.set5s K2.out (Or.inr (Nat.le_refl _)) _ _ _ _ _)
def OkL (sec jr : Int) (a : Int × Int) : Prop := 1 ≤ a.2 ∧ 2 ≤ a.1 ∧ jr ≤ a.1 - 2 ∧ a.1 ≤ sec ∧ a.2 ≤ sec - a.1
def ApL (a b : Int × Int) : Prop := ¬ (a.1 < b.1 + b.2 ∧ b.1 < a.1 + a.2)
theorem ApL.symm {a b : Int × Int} (h : ApL a b) : ApL b a := fun hh => h ⟨hh.2, hh.1⟩
def LiesL (sec jr : Int) (l : List (Int × Int)) : Prop := (∀ a ∈ l, OkL sec jr a) ∧ l.Pairwise ApL
theorem liesL_nil (sec jr : Int) : LiesL sec jr [] := ⟨fun a ha => (by cases ha), List.Pairwise.nil⟩
theorem liesL_take_succ {sec jr : Int} {l : List (Int × Int)} {k : Nat} (hk : k < l.length) (h : LiesL sec jr (l.take k)) (h1 : OkL sec jr l[k]) (h2 : ∀ j (hj : j < k), ApL l[k] (l[j]'(by omega))) : LiesL sec jr (l.take (k + 1)) := by
  rw [List.take_succ_eq_append_getElem hk]
  refine ⟨fun a ha => ?_, ?_⟩
  · rcases List.mem_append.1 ha with ha | ha
    · exact h.1 a ha
    · have : a = l[k] := by simpa using ha
      subst this; exact h1
  · refine List.pairwise_append.2 ⟨h.2, List.pairwise_singleton _ _, fun a ha b hb => ?_⟩
    have : b = l[k] := by simpa using hb
    subst this
    obtain ⟨j, hj, rfl⟩ := List.mem_take_iff_getElem.1 ha
    exact (h2 j (by omega)).symm
theorem liesL_no1 {sec jr : Int} {l : List (Int × Int)} {k : Nat} (hk : k < l.length) (h : ¬ OkL sec jr l[k]) : ¬ LiesL sec jr l := fun hh => h (hh.1 _ (List.getElem_mem hk))
theorem liesL_no2 {sec jr : Int} {l : List (Int × Int)} {k j : Nat} (hk : k < l.length) (hj : j < k) (h : ¬ ApL l[k] (l[j]'(by omega))) : ¬ LiesL sec jr l := fun hh => h ((List.pairwise_iff_getElem.1 hh.2 j k (by omega) hk hj).symm)
theorem liesL_ok {sec jr : Int} {l : List (Int × Int)} {k j : Nat} (h : LiesL sec jr (l.take k)) (hk : k ≤ l.length) (hj : j < k) : OkL sec jr (l[j]'(by omega)) := h.1 _ (List.mem_take_iff_getElem.2 ⟨j, by omega, rfl⟩)
theorem liesL_perm {sec jr : Int} {l l' : List (Int × Int)} (h : l'.Perm l) : LiesL sec jr l' ↔ LiesL sec jr l :=
  ⟨fun hh => ⟨fun a ha => hh.1 a (h.mem_iff.2 ha), (List.Perm.pairwise_iff (fun hab => hab.symm) h).1 hh.2⟩, fun hh => ⟨fun a ha => hh.1 a (h.mem_iff.1 ha), (List.Perm.pairwise_iff (fun hab => hab.symm) h).2 hh.2⟩⟩
/-- in a list that rises one looks at neighbours alone. -/
theorem liesL_rising {sec jr : Int} {l : List (Int × Int)} (hr : Rising l) (hok : ∀ a ∈ l, OkL sec jr a) (h : ∀ k (hk : k + 1 < l.length), l[k].1 + l[k].2 ≤ l[k + 1].1) : LiesL sec jr l := by
  refine ⟨hok, List.pairwise_iff_getElem.2 (fun i j hi hj hij => ?_)⟩
  have h1 : l[i].1 + l[i].2 ≤ l[j].1 := by
    have h2 := h i (by omega)
    by_cases e : i + 1 = j
    · subst e; exact h2
    · have := List.pairwise_iff_getElem.1 hr (i + 1) j (by omega) hj (by omega)
      omega
  unfold ApL
  omega
theorem liesL_next {sec jr : Int} {l : List (Int × Int)} {k : Nat} (hk : k + 1 < l.length) (hr : Rising l) (h : l[k + 1].1 < l[k].1 + l[k].2) : ¬ LiesL sec jr l := fun hh => by
  have h1 := List.pairwise_iff_getElem.1 hr k (k + 1) (by omega) hk (by omega)
  have h2 := List.pairwise_iff_getElem.1 hh.2 k (k + 1) (by omega) hk (by omega)
  have h3 := (hh.1 _ (List.getElem_mem hk)).1
  unfold ApL at h2
  omega
end Go.Proofs.YtakdnchmehmdhaaGreat
