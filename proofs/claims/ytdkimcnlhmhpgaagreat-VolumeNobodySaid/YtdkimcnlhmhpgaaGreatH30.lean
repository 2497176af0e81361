/- -/
import Derived.Test.YtdkimcnlhmhpgaaGreatH26
set_option linter.unusedVariables false
set_option linter.unusedSimpArgs false
namespace Go.Proofs.YtdkimcnlhmhpgaaGreat
open Go.RowKit
def itemNo : JItem := ⟨0, [], 0, []⟩
def findX (p : JItem → Bool) (l : List JItem) : JItem × Bool := match l.find? p with
 | some x => (x, true)
 | none => (itemNo, false)
def FindSays (wb : World) (X : JItem × Bool) (w : World) (e : Ending) (w' : World) : Prop := ∃ kv, e = .returned (.tuple #[.agg (X.1.cells kv), .bool X.2]) ∧ ItemOk wb (X.1, kv) ∧ Kept [] w w'
theorem findX_at {p : JItem → Bool} {l : List JItem} {i : Nat} (hi : i < l.length) (h : p l[i] = true) (h0 : ∀ j (hj : j < l.length), j < i → p l[j] = false) : findX p l = (l[i], true) := by
 have : l.find? p = some l[i] := List.find?_eq_some_iff_getElem.2 ⟨h, i, hi, rfl, fun j hj => by simp [h0 j (by omega) hj]⟩
 unfold findX; rw [this]
theorem findX_no {p : JItem → Bool} {l : List JItem} (h0 : ∀ j (hj : j < l.length), p l[j] = false) : findX p l = (itemNo, false) := by
 have : l.find? p = none := List.find?_eq_none.2 (fun x hx => by
  obtain ⟨j, hj, rfl⟩ := List.mem_iff_getElem.1 hx
  simp [h0 j hj])
 unfold findX; rw [this]
theorem itemNo_ok (w : World) : ItemOk w (itemNo, .slice none 0 0) := ⟨Or.inl ⟨rfl, none, 0, rfl⟩, ⟨by decide, by simp [itemNo, maxLen], by decide⟩, fun r hr => by simp [itemNo] at hr⟩
theorem findSays_of {wb : World} {X : JItem × Bool} {x : JItem} {b : Bool} {kv : Value} {w w' : World} (h : X = (x, b)) (h1 : ItemOk wb (x, kv)) (k : Kept [] w w') : FindSays wb X w (.returned (.tuple #[.agg (x.cells kv), .bool b])) w' := by subst h; exact ⟨kv, rfl, h1, k⟩
theorem Own.put4 {w : World} {b : Nat} {x0 x1 x2 x3 : Value} {t : TypeId} (h : Own w b #[x0, x1, x2, x3] t) (y0 y1 y2 y3 : Value) :
  Own ((((w.setCell ⟨b, 0, none⟩ y0).setCell ⟨b, 1, none⟩ y1).setCell ⟨b, 2, none⟩ y2).setCell ⟨b, 3, none⟩ y3) b #[y0, y1, y2, y3] t := by
 have := (((h.set 0 y0).set 1 y1).set 2 y2).set 3 y3
 simpa using this
set_option maxRecDepth 100000 in
theorem zempty (w : World) : Calls Tryz.prog 41 #[] w fun e w' => e = .returned (.agg #[.int .u32 1, .int .u32 1, .slice none 0 0, .slice none 0 0, .slice none 0 0]) ∧ Kept [] w w' := by
 go_enter Tryz.func41, Tryz.ntmps41
 go_wp2_with fail
 have o := Own.new w #[.int .u32 1, .int .u32 1, .slice none 0 0, .slice none 0 0, .slice none 0 0] 52
 refine bodyPost_ret (v := .agg #[.int .u32 1, .int .u32 1, .slice none 0 0, .slice none 0 0, .slice none 0 0]) (ret_row Tryz.results41 rfl (t := 52) ?_ Tryz.underlying52 rfl (by kernel_rfl)) rfl ⟨rfl, (Kept.refl _ _).alloc _⟩
 exact o
set_option maxRecDepth 100000 in
set_option maxHeartbeats 2000000 in
theorem zindex_box (p : JItem → Bool) (cv : Value) (v : Value) (l : List JItem) (w : World) (h : ItemsIn w v l) (hl : l.length ≤ 1000000)
  (hp : ∀ W, Kept [] w W → ∀ i (hi : i < l.length) kv, ItemOk W (l[i], kv) → Calls Tryz.prog 117 #[.agg (l[i].cells kv), cv] W fun e w' => e = .returned (.bool (p l[i])) ∧ Kept [] W w') :
  Calls Tryz.prog 187 #[v, .func (.func 117) #[] #[cv]] w (IdxZSays p l w) := by
 obtain ⟨pa, ca, rfl⟩ := h.shape
 have H := Lib.hid h
 have HP := Lib.hid hp
 have hl' : (l.length : Int) ≤ 1000000 := by omega
 clear h hp
 go_enter Tryz.func187, Tryz.ntmps187
 go_wp2_with fail
 go_loopw [8] (fun i wr => ∃ k : Nat, k ≤ l.length ∧ i = .int .i64 k ∧ (∀ j (hj : j < l.length), j < k → p l[j] = false) ∧ Kept [] w wr) (fun i _ => l.length - (intOf i).toNat)
 case atStart => exact ⟨0, Nat.zero_le _, rfl, fun j hj h => absurd h (Nat.not_lt_zero j), Kept.refl _ _⟩
 case round =>
  obtain ⟨k, hk, rfl, hno, hK⟩ := hrel
  by_cases hlt : k < l.length
  ·obtain ⟨b, off, kv, rfl, hia, hb, hc1, hc2, HA⟩ := H.out.at4 k hlt
   have hcl := HP.out wr hK k hlt kv (hia.kept0 hK)
   obtain ⟨x0, x1, x2, x3⟩ := HA wr hK
   obtain ⟨R, hR⟩ : ∃ R, p (l[k]'hlt) = R := ⟨_, rfl⟩
   rw [hR] at hcl
   unfold JItem.cells at hcl
   have i1 : (k : Int) < l.length := by omega
   have HCL := Lib.hid hcl
   have HRR := Lib.hid hR
   have HNO := Lib.hid hno
   have HKK := Lib.hid hK
   have HLT := Lib.hid hlt
   clear hia hcl hR hno HA hb
   generalize hLA : l[k]'hlt = A at x0 x1 x2 x3 HCL
   clear hLA
   go_wp2_with fail
   refine HCL.out.mono ?_; rintro e w2 ⟨rfl, k2⟩
   have KK := Lib.hid (HKK.out.trans k2)
   cases R with
   | true =>
    go_wp2_with fail
    go_ret
    exact ⟨Or.inl ⟨k, HLT.out, HRR.out, HNO.out, rfl⟩, KK.out⟩
   | false =>
    go_wp2_with fail
    go_roundw
    case rel => exact ⟨k + 1, HLT.out, by go_num, fun j hj hjk => by
     by_cases e : j = k
     ·subst e; exact HRR.out
     ·exact HNO.out j hj (by omega), KK.out⟩
    case measure => (have h := HLT.out; simp [intOf]; omega)
  ·obtain rfl : k = l.length := by omega
   have HNO := Lib.hid hno
   clear hno
   go_wp2_with fail
   go_ret
   exact ⟨Or.inr ⟨fun j hj => HNO.out j hj hj, rfl⟩, hK⟩
set_option maxRecDepth 100000 in
set_option maxHeartbeats 2000000 in
theorem zfirst_box (p : JItem → Bool) (cv : Value) (v : Value) (l : List JItem) (wb w : World) (hwb : Kept [] wb w) (hb0 : ItemsIn wb v l) (hl : l.length ≤ 1000000)
  (hp : ∀ W, Kept [] w W → ∀ i (hi : i < l.length) kv, ItemOk W (l[i], kv) → Calls Tryz.prog 117 #[.agg (l[i].cells kv), cv] W fun e w' => e = .returned (.bool (p l[i])) ∧ Kept [] W w') :
  Calls Tryz.prog 116 #[v, .func (.func 117) #[] #[cv]] w (FindSays wb (findX p l) w) := by
 have h := hb0.kept0 hwb
 have HB0 := Lib.hid hb0
 have HWB := Lib.hid hwb
 have k0 : Kept [] w (w.alloc (.cells #[.int .u32 0, .string { data := #[] }, .int .i64 0, .slice none 0 0] 113)) := (Kept.refl _ _).alloc _
 have o0 := Own.new w #[.int .u32 0, .string { data := #[] }, .int .i64 0, .slice none 0 0] 113
 have hi := zindex_box p cv v l _ (h.kept0 k0) hl (fun W q i hi kv hx => hp W (k0.trans q) i hi kv hx)
 unfold IdxZSays at hi
 obtain ⟨pa, ca, rfl⟩ := h.shape
 have H := Lib.hid h
 have HI := Lib.hid hi
 have K0 := Lib.hid k0
 have O0 := Lib.hid o0
 have hl' : (l.length : Int) ≤ 1000000 := by omega
 clear hi h hp k0 o0 hb0 hwb
 go_enter Tryz.func116, Tryz.ntmps116
 go_wp2_with fail
 refine HI.out.mono ?_; rintro e w2 ⟨hcase, k2⟩
 have K2 := Lib.hid (K0.out.trans k2)
 have O2 := Lib.hid (k2.own O0.out (by simp))
 obtain ⟨x0, x1, x2, x3⟩ := O2.out.c4
 obtain ⟨f0, f1, f2, f3⟩ := O2.out.z4
 rcases hcase with ⟨i, hi, h1, h2, rfl⟩ | ⟨h2, rfl⟩
 ·have HE := Lib.hid (findX_at hi h1 h2)
  obtain ⟨b, off, kv, rfl, hia, hb, hc1, hc2, HA⟩ := HB0.out.at4 i hi
  obtain ⟨y0, y1, y2, y3⟩ := HA w2 (HWB.out.trans K2.out)
  obtain ⟨pk, nk, ck, rfl⟩ := hia.slv
  have i1 : (i : Int) < l.length := by omega
  have i2 : (0 : Int) ≤ (i : Int) := by omega
  have HIA := Lib.hid hia
  clear h1 h2 hia HA hb
  generalize l[i]'hi = A at *
  go_wp2_with fail
  refine bodyPost_ret (v := .tuple #[.agg #[.int .u32 A.id, .string (bs A.name), .int .i64 A.size, .slice pk nk ck], .bool true]) (ret_row_tmp Tryz.results116 rfl rfl (t := 113) ?_ Tryz.underlying113 rfl (by kernel_rfl)) rfl ?_
  ·exact O2.out.put4 _ _ _ _
  ·have hkk : Kept [w.heap.size] w2 ((((w2.setCell ⟨w.heap.size, 0, none⟩ (.int .u32 A.id)).setCell ⟨w.heap.size, 1, none⟩ (.string (bs A.name))).setCell ⟨w.heap.size, 2, none⟩ (.int .i64 A.size)).setCell ⟨w.heap.size, 3, none⟩ (.slice pk nk ck)) := Kept.set4 (Kept.refl _ _) (Or.inl (by simp)) _ _ _ _
   have hko : Kept [] w ((((w2.setCell ⟨w.heap.size, 0, none⟩ (.int .u32 A.id)).setCell ⟨w.heap.size, 1, none⟩ (.string (bs A.name))).setCell ⟨w.heap.size, 2, none⟩ (.int .i64 A.size)).setCell ⟨w.heap.size, 3, none⟩ (.slice pk nk ck)) := Kept.set4 K2.out (Or.inr (Nat.le_refl _)) _ _ _ _
   refine findSays_of (kv := .slice pk nk ck) HE.out HIA.out hko
 ·have HE := Lib.hid (findX_no h2)
  clear h2
  go_wp2_with fail
  refine bodyPost_ret (v := .tuple #[.agg #[.int .u32 0, .string { data := #[] }, .int .i64 0, .slice none 0 0], .bool false]) (ret_row_tmp Tryz.results116 rfl rfl (t := 113) ?_ Tryz.underlying113 rfl (by kernel_rfl)) rfl ?_
  ·exact O2.out.put4 _ _ _ _
  ·exact findSays_of (kv := .slice none 0 0) HE.out (itemNo_ok _) (Kept.set4 K2.out (Or.inr (Nat.le_refl _)) _ _ _ _)
set_option maxRecDepth 100000 in
theorem zpred_box (id : Int) (kb : Nat) (x : JItem) (xv : Value) (w : World) (hk : w.cell? ⟨kb, 0, none⟩ = some (.int .u32 id)) (hs : SlV xv) :
  Calls Tryz.prog 117 #[.agg (x.cells xv), .pointer (some ⟨kb, 0, none⟩)] w fun e w' => e = .returned (.bool (x.id == id)) ∧ Kept [] w w' := by
 obtain ⟨p, n, c, rfl⟩ := hs
 have oX := Own.new w (x.cells (.slice p n c)) 113
 have k0 : Kept [] w (w.alloc (.cells (x.cells (.slice p n c)) 113)) := (Kept.refl _ _).alloc _
 have c0 : (w.alloc (.cells (x.cells (.slice p n c)) 113)).cell? ⟨kb, 0, none⟩ = some (.int .u32 id) := Lib.cell?_alloc_some _ hk
 unfold JItem.cells at oX k0 c0 ⊢
 obtain ⟨x0, x1, x2, x3⟩ := oX.c4
 have K0 := Lib.hid k0
 clear oX k0 hk
 obtain ⟨R, hR⟩ : ∃ R, (x.id == id) = R := ⟨_, rfl⟩
 skip
 rw [hR]
 have HR := Lib.hid hR
 go_enter Tryz.func117, Tryz.ntmps117
 go_wp2_with fail
 go_ret
 exact ⟨rfl, K0.out⟩
set_option maxRecDepth 100000 in
set_option maxHeartbeats 2000000 in
theorem zFind_box (id : Int) (v : Value) (c : JCat) (w : World) (h : CatIn w v c) (hc : SmallC c) :
  Calls Tryz.prog 57 #[v, .int .u32 id] w (FindSays w (findX (fun x => x.id == id) c.boxes) w) := by
 obtain ⟨vb, vm, vn, rfl, hb, hm, hn, _⟩ := h
 obtain ⟨p1, c1, rfl⟩ := hb.shape
 obtain ⟨p2, c2, rfl⟩ := hm.shape
 obtain ⟨p3, c3, rfl⟩ := hn.shape
 obtain ⟨oA, oB, oC⟩ := own_threeC w #[.int .u32 c.nextBox, .int .u32 c.nextMan, .slice p1 c.boxes.length c1, .slice p2 c.mans.length c2, .slice p3 c.names.length c3] #[.int .u32 id] #[.int .u32 0, .string { data := #[] }, .int .i64 0, .slice none 0 0] 52 32 113
 have k0 : Kept [] w (((w.alloc (.cells #[.int .u32 c.nextBox, .int .u32 c.nextMan, .slice p1 c.boxes.length c1, .slice p2 c.mans.length c2, .slice p3 c.names.length c3] 52)).alloc (.cells #[.int .u32 id] 32)).alloc (.cells #[.int .u32 0, .string { data := #[] }, .int .i64 0, .slice none 0 0] 113)) := (((Kept.refl _ _).alloc _).alloc _).alloc _
 have hcb := oB.cell 0 (by simp)
 have hf := zfirst_box (fun x => x.id == id) (.pointer (some ⟨w.heap.size + 1, 0, none⟩)) _ c.boxes w _ k0 hb hc.1.1 (fun W q i hi kv hx => zpred_box _ (w.heap.size + 1) _ kv W ((q.cell (by exact oB.lt) (by simp)).trans hcb) hx.slv)
 unfold FindSays at hf
 have HF := Lib.hid hf
 obtain ⟨x0, x1, x2, x3, x4⟩ := oA.k5
 have OC := Lib.hid oC
 have K0 := Lib.hid k0
 clear hf hcb oA oB oC k0 hb hm hn hc
 generalize findX (fun x => x.id == id) c.boxes = X at *
 obtain ⟨X1, X2⟩ := X
 simp only at HF
 go_enter Tryz.func57, Tryz.ntmps57
 go_wp2_with fail
 refine HF.out.mono ?_; rintro e w2 ⟨kv, rfl, hio, k2⟩
 have K2 := Lib.hid (K0.out.trans k2)
 have O2 := Lib.hid (k2.own OC.out (by simp))
 have HIO := Lib.hid hio
 obtain ⟨pk, nk, ck, rfl⟩ := hio.slv
 obtain ⟨x0, x1, x2, x3⟩ := O2.out.c4
 obtain ⟨f0, f1, f2, f3⟩ := O2.out.z4
 clear hio
 unfold JItem.cells
 go_wp2_with fail
 refine bodyPost_ret (v := .tuple #[.agg #[.int .u32 X1.id, .string (bs X1.name), .int .i64 X1.size, .slice pk nk ck], .bool X2]) (ret_row_tmp Tryz.results57 rfl rfl (t := 113) ?_ Tryz.underlying113 rfl (by kernel_rfl)) rfl ?_
 ·exact O2.out.put4 _ _ _ _
 ·exact ⟨.slice pk nk ck, rfl, HIO.out, Kept.set4 K2.out (Or.inr (by show w.heap.size ≤ w.heap.size + 1 + 1; omega)) _ _ _ _⟩
set_option maxRecDepth 100000 in
set_option maxHeartbeats 2000000 in
theorem zindex_man (p : JItem → Bool) (cv : Value) (v : Value) (l : List JItem) (w : World) (h : ItemsIn w v l) (hl : l.length ≤ 1000000)
  (hp : ∀ W, Kept [] w W → ∀ i (hi : i < l.length) kv, ItemOk W (l[i], kv) → Calls Tryz.prog 118 #[.agg (l[i].cells kv), cv] W fun e w' => e = .returned (.bool (p l[i])) ∧ Kept [] W w') :
  Calls Tryz.prog 187 #[v, .func (.func 118) #[] #[cv]] w (IdxZSays p l w) := by
 obtain ⟨pa, ca, rfl⟩ := h.shape
 have H := Lib.hid h
 have HP := Lib.hid hp
 have hl' : (l.length : Int) ≤ 1000000 := by omega
 clear h hp
 go_enter Tryz.func187, Tryz.ntmps187
 go_wp2_with fail
 go_loopw [8] (fun i wr => ∃ k : Nat, k ≤ l.length ∧ i = .int .i64 k ∧ (∀ j (hj : j < l.length), j < k → p l[j] = false) ∧ Kept [] w wr) (fun i _ => l.length - (intOf i).toNat)
 case atStart => exact ⟨0, Nat.zero_le _, rfl, fun j hj h => absurd h (Nat.not_lt_zero j), Kept.refl _ _⟩
 case round =>
  obtain ⟨k, hk, rfl, hno, hK⟩ := hrel
  by_cases hlt : k < l.length
  ·obtain ⟨b, off, kv, rfl, hia, hb, hc1, hc2, HA⟩ := H.out.at4 k hlt
   have hcl := HP.out wr hK k hlt kv (hia.kept0 hK)
   obtain ⟨x0, x1, x2, x3⟩ := HA wr hK
   obtain ⟨R, hR⟩ : ∃ R, p (l[k]'hlt) = R := ⟨_, rfl⟩
   rw [hR] at hcl
   unfold JItem.cells at hcl
   have i1 : (k : Int) < l.length := by omega
   have HCL := Lib.hid hcl
   have HRR := Lib.hid hR
   have HNO := Lib.hid hno
   have HKK := Lib.hid hK
   have HLT := Lib.hid hlt
   clear hia hcl hR hno HA hb
   generalize hLA : l[k]'hlt = A at x0 x1 x2 x3 HCL
   clear hLA
   go_wp2_with fail
   refine HCL.out.mono ?_; rintro e w2 ⟨rfl, k2⟩
   have KK := Lib.hid (HKK.out.trans k2)
   cases R with
   | true =>
    go_wp2_with fail
    go_ret
    exact ⟨Or.inl ⟨k, HLT.out, HRR.out, HNO.out, rfl⟩, KK.out⟩
   | false =>
    go_wp2_with fail
    go_roundw
    case rel => exact ⟨k + 1, HLT.out, by go_num, fun j hj hjk => by
     by_cases e : j = k
     ·subst e; exact HRR.out
     ·exact HNO.out j hj (by omega), KK.out⟩
    case measure => (have h := HLT.out; simp [intOf]; omega)
  ·obtain rfl : k = l.length := by omega
   have HNO := Lib.hid hno
   clear hno
   go_wp2_with fail
   go_ret
   exact ⟨Or.inr ⟨fun j hj => HNO.out j hj hj, rfl⟩, hK⟩
set_option maxRecDepth 100000 in
set_option maxHeartbeats 2000000 in
theorem zfirst_man (p : JItem → Bool) (cv : Value) (v : Value) (l : List JItem) (wb w : World) (hwb : Kept [] wb w) (hb0 : ItemsIn wb v l) (hl : l.length ≤ 1000000)
  (hp : ∀ W, Kept [] w W → ∀ i (hi : i < l.length) kv, ItemOk W (l[i], kv) → Calls Tryz.prog 118 #[.agg (l[i].cells kv), cv] W fun e w' => e = .returned (.bool (p l[i])) ∧ Kept [] W w') :
  Calls Tryz.prog 116 #[v, .func (.func 118) #[] #[cv]] w (FindSays wb (findX p l) w) := by
 have h := hb0.kept0 hwb
 have HB0 := Lib.hid hb0
 have HWB := Lib.hid hwb
 have k0 : Kept [] w (w.alloc (.cells #[.int .u32 0, .string { data := #[] }, .int .i64 0, .slice none 0 0] 113)) := (Kept.refl _ _).alloc _
 have o0 := Own.new w #[.int .u32 0, .string { data := #[] }, .int .i64 0, .slice none 0 0] 113
 have hi := zindex_man p cv v l _ (h.kept0 k0) hl (fun W q i hi kv hx => hp W (k0.trans q) i hi kv hx)
 unfold IdxZSays at hi
 obtain ⟨pa, ca, rfl⟩ := h.shape
 have H := Lib.hid h
 have HI := Lib.hid hi
 have K0 := Lib.hid k0
 have O0 := Lib.hid o0
 have hl' : (l.length : Int) ≤ 1000000 := by omega
 clear hi h hp k0 o0 hb0 hwb
 go_enter Tryz.func116, Tryz.ntmps116
 go_wp2_with fail
 refine HI.out.mono ?_; rintro e w2 ⟨hcase, k2⟩
 have K2 := Lib.hid (K0.out.trans k2)
 have O2 := Lib.hid (k2.own O0.out (by simp))
 obtain ⟨x0, x1, x2, x3⟩ := O2.out.c4
 obtain ⟨f0, f1, f2, f3⟩ := O2.out.z4
 rcases hcase with ⟨i, hi, h1, h2, rfl⟩ | ⟨h2, rfl⟩
 ·have HE := Lib.hid (findX_at hi h1 h2)
  obtain ⟨b, off, kv, rfl, hia, hb, hc1, hc2, HA⟩ := HB0.out.at4 i hi
  obtain ⟨y0, y1, y2, y3⟩ := HA w2 (HWB.out.trans K2.out)
  obtain ⟨pk, nk, ck, rfl⟩ := hia.slv
  have i1 : (i : Int) < l.length := by omega
  have i2 : (0 : Int) ≤ (i : Int) := by omega
  have HIA := Lib.hid hia
  clear h1 h2 hia HA hb
  generalize l[i]'hi = A at *
  go_wp2_with fail
  refine bodyPost_ret (v := .tuple #[.agg #[.int .u32 A.id, .string (bs A.name), .int .i64 A.size, .slice pk nk ck], .bool true]) (ret_row_tmp Tryz.results116 rfl rfl (t := 113) ?_ Tryz.underlying113 rfl (by kernel_rfl)) rfl ?_
  ·exact O2.out.put4 _ _ _ _
  ·have hkk : Kept [w.heap.size] w2 ((((w2.setCell ⟨w.heap.size, 0, none⟩ (.int .u32 A.id)).setCell ⟨w.heap.size, 1, none⟩ (.string (bs A.name))).setCell ⟨w.heap.size, 2, none⟩ (.int .i64 A.size)).setCell ⟨w.heap.size, 3, none⟩ (.slice pk nk ck)) := Kept.set4 (Kept.refl _ _) (Or.inl (by simp)) _ _ _ _
   have hko : Kept [] w ((((w2.setCell ⟨w.heap.size, 0, none⟩ (.int .u32 A.id)).setCell ⟨w.heap.size, 1, none⟩ (.string (bs A.name))).setCell ⟨w.heap.size, 2, none⟩ (.int .i64 A.size)).setCell ⟨w.heap.size, 3, none⟩ (.slice pk nk ck)) := Kept.set4 K2.out (Or.inr (Nat.le_refl _)) _ _ _ _
   refine findSays_of (kv := .slice pk nk ck) HE.out HIA.out hko
 ·have HE := Lib.hid (findX_no h2)
  clear h2
  go_wp2_with fail
  refine bodyPost_ret (v := .tuple #[.agg #[.int .u32 0, .string { data := #[] }, .int .i64 0, .slice none 0 0], .bool false]) (ret_row_tmp Tryz.results116 rfl rfl (t := 113) ?_ Tryz.underlying113 rfl (by kernel_rfl)) rfl ?_
  ·exact O2.out.put4 _ _ _ _
  ·exact findSays_of (kv := .slice none 0 0) HE.out (itemNo_ok _) (Kept.set4 K2.out (Or.inr (Nat.le_refl _)) _ _ _ _)
set_option maxRecDepth 100000 in
theorem zpred_man (id : Int) (kb : Nat) (x : JItem) (xv : Value) (w : World) (hk : w.cell? ⟨kb, 0, none⟩ = some (.int .u32 id)) (hs : SlV xv) :
  Calls Tryz.prog 118 #[.agg (x.cells xv), .pointer (some ⟨kb, 0, none⟩)] w fun e w' => e = .returned (.bool (x.id == id)) ∧ Kept [] w w' := by
 obtain ⟨p, n, c, rfl⟩ := hs
 have oX := Own.new w (x.cells (.slice p n c)) 113
 have k0 : Kept [] w (w.alloc (.cells (x.cells (.slice p n c)) 113)) := (Kept.refl _ _).alloc _
 have c0 : (w.alloc (.cells (x.cells (.slice p n c)) 113)).cell? ⟨kb, 0, none⟩ = some (.int .u32 id) := Lib.cell?_alloc_some _ hk
 unfold JItem.cells at oX k0 c0 ⊢
 obtain ⟨x0, x1, x2, x3⟩ := oX.c4
 have K0 := Lib.hid k0
 clear oX k0 hk
 obtain ⟨R, hR⟩ : ∃ R, (x.id == id) = R := ⟨_, rfl⟩
 skip
 rw [hR]
 have HR := Lib.hid hR
 go_enter Tryz.func118, Tryz.ntmps118
 go_wp2_with fail
 go_ret
 exact ⟨rfl, K0.out⟩
set_option maxRecDepth 100000 in
set_option maxHeartbeats 2000000 in
theorem zFind_man (id : Int) (v : Value) (c : JCat) (w : World) (h : CatIn w v c) (hc : SmallC c) :
  Calls Tryz.prog 58 #[v, .int .u32 id] w (FindSays w (findX (fun x => x.id == id) c.mans) w) := by
 obtain ⟨vb, vm, vn, rfl, hb, hm, hn, _⟩ := h
 obtain ⟨p1, c1, rfl⟩ := hb.shape
 obtain ⟨p2, c2, rfl⟩ := hm.shape
 obtain ⟨p3, c3, rfl⟩ := hn.shape
 obtain ⟨oA, oB, oC⟩ := own_threeC w #[.int .u32 c.nextBox, .int .u32 c.nextMan, .slice p1 c.boxes.length c1, .slice p2 c.mans.length c2, .slice p3 c.names.length c3] #[.int .u32 id] #[.int .u32 0, .string { data := #[] }, .int .i64 0, .slice none 0 0] 52 32 113
 have k0 : Kept [] w (((w.alloc (.cells #[.int .u32 c.nextBox, .int .u32 c.nextMan, .slice p1 c.boxes.length c1, .slice p2 c.mans.length c2, .slice p3 c.names.length c3] 52)).alloc (.cells #[.int .u32 id] 32)).alloc (.cells #[.int .u32 0, .string { data := #[] }, .int .i64 0, .slice none 0 0] 113)) := (((Kept.refl _ _).alloc _).alloc _).alloc _
 have hcb := oB.cell 0 (by simp)
 have hf := zfirst_man (fun x => x.id == id) (.pointer (some ⟨w.heap.size + 1, 0, none⟩)) _ c.mans w _ k0 hm hc.2.1.1 (fun W q i hi kv hx => zpred_man _ (w.heap.size + 1) _ kv W ((q.cell (by exact oB.lt) (by simp)).trans hcb) hx.slv)
 unfold FindSays at hf
 have HF := Lib.hid hf
 obtain ⟨x0, x1, x2, x3, x4⟩ := oA.k5
 have OC := Lib.hid oC
 have K0 := Lib.hid k0
 clear hf hcb oA oB oC k0 hb hm hn hc
 generalize findX (fun x => x.id == id) c.mans = X at *
 obtain ⟨X1, X2⟩ := X
 simp only at HF
 go_enter Tryz.func58, Tryz.ntmps58
 go_wp2_with fail
 refine HF.out.mono ?_; rintro e w2 ⟨kv, rfl, hio, k2⟩
 have K2 := Lib.hid (K0.out.trans k2)
 have O2 := Lib.hid (k2.own OC.out (by simp))
 have HIO := Lib.hid hio
 obtain ⟨pk, nk, ck, rfl⟩ := hio.slv
 obtain ⟨x0, x1, x2, x3⟩ := O2.out.c4
 obtain ⟨f0, f1, f2, f3⟩ := O2.out.z4
 clear hio
 unfold JItem.cells
 go_wp2_with fail
 refine bodyPost_ret (v := .tuple #[.agg #[.int .u32 X1.id, .string (bs X1.name), .int .i64 X1.size, .slice pk nk ck], .bool X2]) (ret_row_tmp Tryz.results58 rfl rfl (t := 113) ?_ Tryz.underlying113 rfl (by kernel_rfl)) rfl ?_
 ·exact O2.out.put4 _ _ _ _
 ·exact ⟨.slice pk nk ck, rfl, HIO.out, Kept.set4 K2.out (Or.inr (by show w.heap.size ≤ w.heap.size + 1 + 1; omega)) _ _ _ _⟩
set_option maxRecDepth 100000 in
set_option maxHeartbeats 2000000 in
theorem zindex_name (p : JItem → Bool) (cv : Value) (v : Value) (l : List JItem) (w : World) (h : ItemsIn w v l) (hl : l.length ≤ 1000000)
  (hp : ∀ W, Kept [] w W → ∀ i (hi : i < l.length) kv, ItemOk W (l[i], kv) → Calls Tryz.prog 119 #[.agg (l[i].cells kv), cv] W fun e w' => e = .returned (.bool (p l[i])) ∧ Kept [] W w') :
  Calls Tryz.prog 187 #[v, .func (.func 119) #[] #[cv]] w (IdxZSays p l w) := by
 obtain ⟨pa, ca, rfl⟩ := h.shape
 have H := Lib.hid h
 have HP := Lib.hid hp
 have hl' : (l.length : Int) ≤ 1000000 := by omega
 clear h hp
 go_enter Tryz.func187, Tryz.ntmps187
 go_wp2_with fail
 go_loopw [8] (fun i wr => ∃ k : Nat, k ≤ l.length ∧ i = .int .i64 k ∧ (∀ j (hj : j < l.length), j < k → p l[j] = false) ∧ Kept [] w wr) (fun i _ => l.length - (intOf i).toNat)
 case atStart => exact ⟨0, Nat.zero_le _, rfl, fun j hj h => absurd h (Nat.not_lt_zero j), Kept.refl _ _⟩
 case round =>
  obtain ⟨k, hk, rfl, hno, hK⟩ := hrel
  by_cases hlt : k < l.length
  ·obtain ⟨b, off, kv, rfl, hia, hb, hc1, hc2, HA⟩ := H.out.at4 k hlt
   have hcl := HP.out wr hK k hlt kv (hia.kept0 hK)
   obtain ⟨x0, x1, x2, x3⟩ := HA wr hK
   obtain ⟨R, hR⟩ : ∃ R, p (l[k]'hlt) = R := ⟨_, rfl⟩
   rw [hR] at hcl
   unfold JItem.cells at hcl
   have i1 : (k : Int) < l.length := by omega
   have HCL := Lib.hid hcl
   have HRR := Lib.hid hR
   have HNO := Lib.hid hno
   have HKK := Lib.hid hK
   have HLT := Lib.hid hlt
   clear hia hcl hR hno HA hb
   generalize hLA : l[k]'hlt = A at x0 x1 x2 x3 HCL
   clear hLA
   go_wp2_with fail
   refine HCL.out.mono ?_; rintro e w2 ⟨rfl, k2⟩
   have KK := Lib.hid (HKK.out.trans k2)
   cases R with
   | true =>
    go_wp2_with fail
    go_ret
    exact ⟨Or.inl ⟨k, HLT.out, HRR.out, HNO.out, rfl⟩, KK.out⟩
   | false =>
    go_wp2_with fail
    go_roundw
    case rel => exact ⟨k + 1, HLT.out, by go_num, fun j hj hjk => by
     by_cases e : j = k
     ·subst e; exact HRR.out
     ·exact HNO.out j hj (by omega), KK.out⟩
    case measure => (have h := HLT.out; simp [intOf]; omega)
  ·obtain rfl : k = l.length := by omega
   have HNO := Lib.hid hno
   clear hno
   go_wp2_with fail
   go_ret
   exact ⟨Or.inr ⟨fun j hj => HNO.out j hj hj, rfl⟩, hK⟩
set_option maxRecDepth 100000 in
set_option maxHeartbeats 2000000 in
theorem zfirst_name (p : JItem → Bool) (cv : Value) (v : Value) (l : List JItem) (wb w : World) (hwb : Kept [] wb w) (hb0 : ItemsIn wb v l) (hl : l.length ≤ 1000000)
  (hp : ∀ W, Kept [] w W → ∀ i (hi : i < l.length) kv, ItemOk W (l[i], kv) → Calls Tryz.prog 119 #[.agg (l[i].cells kv), cv] W fun e w' => e = .returned (.bool (p l[i])) ∧ Kept [] W w') :
  Calls Tryz.prog 116 #[v, .func (.func 119) #[] #[cv]] w (FindSays wb (findX p l) w) := by
 have h := hb0.kept0 hwb
 have HB0 := Lib.hid hb0
 have HWB := Lib.hid hwb
 have k0 : Kept [] w (w.alloc (.cells #[.int .u32 0, .string { data := #[] }, .int .i64 0, .slice none 0 0] 113)) := (Kept.refl _ _).alloc _
 have o0 := Own.new w #[.int .u32 0, .string { data := #[] }, .int .i64 0, .slice none 0 0] 113
 have hi := zindex_name p cv v l _ (h.kept0 k0) hl (fun W q i hi kv hx => hp W (k0.trans q) i hi kv hx)
 unfold IdxZSays at hi
 obtain ⟨pa, ca, rfl⟩ := h.shape
 have H := Lib.hid h
 have HI := Lib.hid hi
 have K0 := Lib.hid k0
 have O0 := Lib.hid o0
 have hl' : (l.length : Int) ≤ 1000000 := by omega
 clear hi h hp k0 o0 hb0 hwb
 go_enter Tryz.func116, Tryz.ntmps116
 go_wp2_with fail
 refine HI.out.mono ?_; rintro e w2 ⟨hcase, k2⟩
 have K2 := Lib.hid (K0.out.trans k2)
 have O2 := Lib.hid (k2.own O0.out (by simp))
 obtain ⟨x0, x1, x2, x3⟩ := O2.out.c4
 obtain ⟨f0, f1, f2, f3⟩ := O2.out.z4
 rcases hcase with ⟨i, hi, h1, h2, rfl⟩ | ⟨h2, rfl⟩
 ·have HE := Lib.hid (findX_at hi h1 h2)
  obtain ⟨b, off, kv, rfl, hia, hb, hc1, hc2, HA⟩ := HB0.out.at4 i hi
  obtain ⟨y0, y1, y2, y3⟩ := HA w2 (HWB.out.trans K2.out)
  obtain ⟨pk, nk, ck, rfl⟩ := hia.slv
  have i1 : (i : Int) < l.length := by omega
  have i2 : (0 : Int) ≤ (i : Int) := by omega
  have HIA := Lib.hid hia
  clear h1 h2 hia HA hb
  generalize l[i]'hi = A at *
  go_wp2_with fail
  refine bodyPost_ret (v := .tuple #[.agg #[.int .u32 A.id, .string (bs A.name), .int .i64 A.size, .slice pk nk ck], .bool true]) (ret_row_tmp Tryz.results116 rfl rfl (t := 113) ?_ Tryz.underlying113 rfl (by kernel_rfl)) rfl ?_
  ·exact O2.out.put4 _ _ _ _
  ·have hkk : Kept [w.heap.size] w2 ((((w2.setCell ⟨w.heap.size, 0, none⟩ (.int .u32 A.id)).setCell ⟨w.heap.size, 1, none⟩ (.string (bs A.name))).setCell ⟨w.heap.size, 2, none⟩ (.int .i64 A.size)).setCell ⟨w.heap.size, 3, none⟩ (.slice pk nk ck)) := Kept.set4 (Kept.refl _ _) (Or.inl (by simp)) _ _ _ _
   have hko : Kept [] w ((((w2.setCell ⟨w.heap.size, 0, none⟩ (.int .u32 A.id)).setCell ⟨w.heap.size, 1, none⟩ (.string (bs A.name))).setCell ⟨w.heap.size, 2, none⟩ (.int .i64 A.size)).setCell ⟨w.heap.size, 3, none⟩ (.slice pk nk ck)) := Kept.set4 K2.out (Or.inr (Nat.le_refl _)) _ _ _ _
   refine findSays_of (kv := .slice pk nk ck) HE.out HIA.out hko
 ·have HE := Lib.hid (findX_no h2)
  clear h2
  go_wp2_with fail
  refine bodyPost_ret (v := .tuple #[.agg #[.int .u32 0, .string { data := #[] }, .int .i64 0, .slice none 0 0], .bool false]) (ret_row_tmp Tryz.results116 rfl rfl (t := 113) ?_ Tryz.underlying113 rfl (by kernel_rfl)) rfl ?_
  ·exact O2.out.put4 _ _ _ _
  ·exact findSays_of (kv := .slice none 0 0) HE.out (itemNo_ok _) (Kept.set4 K2.out (Or.inr (Nat.le_refl _)) _ _ _ _)
set_option maxRecDepth 100000 in
theorem zpred_name (nm : List UInt8) (kb : Nat) (x : JItem) (xv : Value) (w : World) (hk : w.cell? ⟨kb, 0, none⟩ = some (.string (bs nm))) (hs : SlV xv) :
  Calls Tryz.prog 119 #[.agg (x.cells xv), .pointer (some ⟨kb, 0, none⟩)] w fun e w' => e = .returned (.bool (x.name == nm)) ∧ Kept [] w w' := by
 obtain ⟨p, n, c, rfl⟩ := hs
 have oX := Own.new w (x.cells (.slice p n c)) 113
 have k0 : Kept [] w (w.alloc (.cells (x.cells (.slice p n c)) 113)) := (Kept.refl _ _).alloc _
 have c0 : (w.alloc (.cells (x.cells (.slice p n c)) 113)).cell? ⟨kb, 0, none⟩ = some (.string (bs nm)) := Lib.cell?_alloc_some _ hk
 unfold JItem.cells at oX k0 c0 ⊢
 obtain ⟨x0, x1, x2, x3⟩ := oX.c4
 have K0 := Lib.hid k0
 clear oX k0 hk
 obtain ⟨R, hR⟩ : ∃ R, (x.name == nm) = R := ⟨_, rfl⟩
 obtain ⟨g1, g2⟩ := bsI_forms x.name nm hR
 rw [hR]
 have HR := Lib.hid hR
 go_enter Tryz.func119, Tryz.ntmps119
 go_wp2_with fail
 go_ret
 exact ⟨rfl, K0.out⟩
set_option maxRecDepth 100000 in
set_option maxHeartbeats 2000000 in
theorem zFind_name (nm : List UInt8) (v : Value) (c : JCat) (w : World) (h : CatIn w v c) (hc : SmallC c) :
  Calls Tryz.prog 59 #[v, .string (bs nm)] w (FindSays w (findX (fun x => x.name == nm) c.names) w) := by
 obtain ⟨vb, vm, vn, rfl, hb, hm, hn, _⟩ := h
 obtain ⟨p1, c1, rfl⟩ := hb.shape
 obtain ⟨p2, c2, rfl⟩ := hm.shape
 obtain ⟨p3, c3, rfl⟩ := hn.shape
 obtain ⟨oA, oB, oC⟩ := own_threeC w #[.int .u32 c.nextBox, .int .u32 c.nextMan, .slice p1 c.boxes.length c1, .slice p2 c.mans.length c2, .slice p3 c.names.length c3] #[.string (bs nm)] #[.int .u32 0, .string { data := #[] }, .int .i64 0, .slice none 0 0] 52 9 113
 have k0 : Kept [] w (((w.alloc (.cells #[.int .u32 c.nextBox, .int .u32 c.nextMan, .slice p1 c.boxes.length c1, .slice p2 c.mans.length c2, .slice p3 c.names.length c3] 52)).alloc (.cells #[.string (bs nm)] 9)).alloc (.cells #[.int .u32 0, .string { data := #[] }, .int .i64 0, .slice none 0 0] 113)) := (((Kept.refl _ _).alloc _).alloc _).alloc _
 have hcb := oB.cell 0 (by simp)
 have hf := zfirst_name (fun x => x.name == nm) (.pointer (some ⟨w.heap.size + 1, 0, none⟩)) _ c.names w _ k0 hn hc.2.2.1 (fun W q i hi kv hx => zpred_name _ (w.heap.size + 1) _ kv W ((q.cell (by exact oB.lt) (by simp)).trans hcb) hx.slv)
 unfold FindSays at hf
 have HF := Lib.hid hf
 obtain ⟨x0, x1, x2, x3, x4⟩ := oA.k5
 have OC := Lib.hid oC
 have K0 := Lib.hid k0
 clear hf hcb oA oB oC k0 hb hm hn hc
 generalize findX (fun x => x.name == nm) c.names = X at *
 obtain ⟨X1, X2⟩ := X
 simp only at HF
 go_enter Tryz.func59, Tryz.ntmps59
 go_wp2_with fail
 refine HF.out.mono ?_; rintro e w2 ⟨kv, rfl, hio, k2⟩
 have K2 := Lib.hid (K0.out.trans k2)
 have O2 := Lib.hid (k2.own OC.out (by simp))
 have HIO := Lib.hid hio
 obtain ⟨pk, nk, ck, rfl⟩ := hio.slv
 obtain ⟨x0, x1, x2, x3⟩ := O2.out.c4
 obtain ⟨f0, f1, f2, f3⟩ := O2.out.z4
 clear hio
 unfold JItem.cells
 go_wp2_with fail
 refine bodyPost_ret (v := .tuple #[.agg #[.int .u32 X1.id, .string (bs X1.name), .int .i64 X1.size, .slice pk nk ck], .bool X2]) (ret_row_tmp Tryz.results59 rfl rfl (t := 113) ?_ Tryz.underlying113 rfl (by kernel_rfl)) rfl ?_
 ·exact O2.out.put4 _ _ _ _
 ·exact ⟨.slice pk nk ck, rfl, HIO.out, Kept.set4 K2.out (Or.inr (by show w.heap.size ≤ w.heap.size + 1 + 1; omega)) _ _ _ _⟩
end Go.Proofs.YtdkimcnlhmhpgaaGreat
