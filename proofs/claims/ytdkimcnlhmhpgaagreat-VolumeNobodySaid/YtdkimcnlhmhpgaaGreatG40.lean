/- -/
import Derived.Test.YtdkimcnlhmhpgaaGreatG15
import Derived.Test.YtdkimcnlhmhpgaaGreatG33
import Derived.Test.YtdkimcnlhmhpgaaGreatG34
import Derived.Test.YtdkimcnlhmhpgaaGreatG38
import Derived.Test.YtdkimcnlhmhpgaaGreatG39
set_option linter.unusedVariables false
set_option linter.unusedSimpArgs false
namespace Go.Proofs.YtdkimcnlhmhpgaaGreat
open Go.RowKit
def idxs (l : List VC) : Nat → List (Nat × VC)
  | 0 => []
  | k + 1 => idxs l k ++ (match l[k]? with | some x => if kBlob x.kind then [(k, x)] else [] | none => [])
theorem idxs_succ (l : List VC) (k : Nat) (h : k < l.length) : idxs l (k + 1) = idxs l k ++ (if kBlob l[k].kind then [(k, l[k])] else []) := by
  show idxs l k ++ _ = _
  rw [List.getElem?_eq_getElem h]
theorem idxs_mem {l : List VC} : ∀ {k : Nat}, k ≤ l.length → ∀ p ∈ idxs l k, ∃ h : p.1 < l.length, p.1 < k ∧ l[p.1] = p.2 ∧ kBlob p.2.kind = true
  | 0, _, p, hp => by simp [idxs] at hp
  | k + 1, hk, p, hp => by
    rw [idxs_succ l k (by omega)] at hp
    rcases List.mem_append.1 hp with hp | hp
    · obtain ⟨h1, h2, h3⟩ := idxs_mem (by omega) p hp
      exact ⟨h1, by omega, h3⟩
    · split at hp
      · rename_i hb
        obtain rfl := List.mem_singleton.1 hp
        exact ⟨by show k < _; omega, by show k < _; omega, rfl, hb⟩
      · simp at hp
theorem idxs_len (l : List VC) : ∀ k, (idxs l k).length ≤ k
  | 0 => Nat.le_refl _
  | k + 1 => by
    have := idxs_len l k
    show (idxs l k ++ _).length ≤ _
    rw [List.length_append]
    split
    · split
      · simp; omega
      · simp; omega
    · simp; omega
theorem putsD_snoc : ∀ (l : List VC) (recs : List JRec) (x : VC) (r : JRec), l.length = recs.length → putsD (l ++ [x]) (recs ++ [r]) = putsD l recs ++ (if kBlob x.kind then [fun d => putX d r.runs x.bytes] else [])
  | [], [], x, r, _ => by
    show (if kBlob x.kind then _ else _) = [] ++ _
    rw [List.nil_append]
    split <;> simp [putsD]
  | [], r' :: recs, _, _, h => by simp at h
  | y :: l, [], _, _, h => by simp at h
  | y :: l, q :: recs, x, r, h => by
    have ih := putsD_snoc l recs x r (by simpa using h)
    show (if kBlob y.kind then (fun d => putX d q.runs y.bytes) :: putsD (l ++ [x]) (recs ++ [r]) else putsD (l ++ [x]) (recs ++ [r])) = (if kBlob y.kind then (fun d => putX d q.runs y.bytes) :: putsD l recs else putsD l recs) ++ _
    rw [ih]
    split <;> simp
noncomputable def putAt (recs : List JRec) (p : Nat × VC) (d : DK) : DK × Int := putX d (recs.getD p.1 default).runs p.2.bytes
theorem putsD_idxs (l : List VC) (recs : List JRec) (h : l.length = recs.length) : ∀ k, k ≤ l.length → putsD (l.take k) (recs.take k) = (idxs l k).map (putAt recs)
  | 0, _ => by simp [putsD, idxs]
  | k + 1, hk => by
    have ih := putsD_idxs l recs h k (by omega)
    rw [List.take_succ_eq_append_getElem (by omega), List.take_succ_eq_append_getElem (by omega), putsD_snoc _ _ _ _ (by rw [List.length_take, List.length_take]; omega), ih, idxs_succ l k (by omega), List.map_append]
    congr 1
    split
    · show [fun d => _] = [putAt recs (k, l[k])]
      congr 1
      funext d
      unfold putAt
      simp only
      rw [List.getD_eq_getElem?_getD, List.getElem?_eq_getElem (by omega), Option.getD_some]
    · rfl
theorem putsD_eq (l : List VC) (recs : List JRec) (h : l.length = recs.length) : putsD l recs = (idxs l l.length).map (putAt recs) := by
  have := putsD_idxs l recs h l.length (Nat.le_refl _)
  rw [List.take_length, h, List.take_length] at this
  rw [this, h]
theorem stV_onD (gs : List (DK → DK × Int)) (hs : List (VS → VS × Int)) (v : VS) : ∀ k, k ≤ gs.length → stV (gs.map onD ++ hs) v k = ⟨stN gs v.d k, v.s, v.c, v.dead⟩
  | 0, _ => rfl
  | k + 1, hk => by
    have ih := stV_onD gs hs v k (by omega)
    have h1 : k < (gs.map onD ++ hs).length := by rw [List.length_append, List.length_map]; omega
    rw [stV_succ _ _ _ h1, ih, stN_succ gs v.d k (by omega)]
    have e : (gs.map onD ++ hs)[k] = onD gs[k] := by rw [List.getElem_append_left (by rw [List.length_map]; omega), List.getElem_map]
    rw [e]
    rfl
abbrev SQ := (Nat × VC) × (Nat × Nat)
def sqCaps (gv gr : Nat) (q : SQ) : Array Value := #[.pointer (some ⟨gv, 0, none⟩), .pointer (some ⟨gr, 0, none⟩), .pointer (some ⟨q.2.1, 0, none⟩), .pointer (some ⟨q.2.2, 0, none⟩)]
structure StepsAt (w0 W : World) (l : List VC) (k : Nat) (qs : List SQ) : Prop where
  idx : qs.map (·.1) = idxs l k
  own : ∀ q ∈ qs, w0.heap.size ≤ q.2.1 ∧ w0.heap.size ≤ q.2.2 ∧ Own W q.2.1 #[.int .i64 q.1.1] 3 ∧ Own W q.2.2 q.1.2.cells 34
theorem StepsAt.kept {w0 W W' : World} {l : List VC} {k : Nat} {qs : List SQ} (h : StepsAt w0 W l k qs) (kk : Kept [] W W') : StepsAt w0 W' l k qs := ⟨h.idx, fun q hq => by
  obtain ⟨h1, h2, h3, h4⟩ := h.own q hq
  exact ⟨h1, h2, kk.own h3 (by simp), kk.own h4 (by simp)⟩⟩
structure StepsCtx (w0 W : World) (B b sb mb lo gv gr : Nat) (v : VS) (l : List VC) (recs : List JRec) (qs : List SQ) : Prop where
  vol : VolAt [B] w0 B b sb mb lo v
  kept : Kept [] w0 W
  gv : w0.heap.size ≤ gv ∧ Own W gv #[.pointer (some ⟨B, 0, none⟩)] 27
  gr : ∃ rv, w0.heap.size ≤ gr ∧ Own W gr #[rv] 92 ∧ RecsNew w0 W rv recs
  steps : StepsAt w0 W l l.length qs
  len : recs.length = l.length
  pl : ∀ r ∈ recs, Pl 0 r.runs
  few : l.length ≤ 1000
  small : ∀ x ∈ l, x.bytes.length ≤ 1048576
section
variable {w0 W : World} {B b sb mb lo gv gr : Nat} {v : VS} {l : List VC} {recs : List JRec} {qs : List SQ}
theorem StepsCtx.off (h : StepsCtx w0 W B b sb mb lo gv gr v l recs qs) {g : Nat} (hg : w0.heap.size ≤ g) : OffD [B] W b sb mb g := h.vol.da.off_new h.vol.hT h.kept hg
theorem StepsCtx.put (h : StepsCtx w0 W B b sb mb lo gv gr v l recs qs) (q : SQ) (hq : q ∈ qs) {W' : World} {u : VS} (hV : VolAt [B] W' B b sb mb lo u) (k : PK [B] b sb mb W W') (ho : u.d.ops ≤ 90000) (hw : u.d.waits.length ≤ 1800) :
    Calls Tryz.prog 48 (#[] ++ sqCaps gv gr q) W' fun e w' => e = .returned (.int .i64 (onD (putAt recs q.1) u).2) ∧ VolAt [B] w' B b sb mb lo (onD (putAt recs q.1) u).1 ∧ PK [B] b sb mb W' w' := by
  obtain ⟨hi1, hi2, oi, ox⟩ := h.steps.own q hq
  obtain ⟨hm1, hm2, hm3, hm4⟩ := idxs_mem (Nat.le_refl _) q.1 (by rw [← h.steps.idx]; exact List.mem_map.2 ⟨q, hq, rfl⟩)
  obtain ⟨rv, hg1, og, hrec⟩ := h.gr
  obtain ⟨hv1, ov⟩ := h.gv
  have hin := hrec.in_
  obtain ⟨p, c, rfl⟩ := hrec.shape
  have hil : q.1.1 < recs.length := by rw [h.len]; exact hm1
  obtain ⟨rb, ro, cs, rfl, e2, ⟨kv, rfl, e4, e5⟩, e6, e7, e8, e9⟩ := RowsOf.at_ hin q.1.1 hil
  have hkv := e6 4 _ rfl
  have hRO : RunsO [B] W b sb mb kv recs[q.1.1].runs := e4.new h.vol.da h.vol.hT h.kept (Nat.le_refl _)
  obtain ⟨⟨lo1, hi3, hR⟩, _⟩ := hRO.pk k
  have hpl := h.pl _ (List.getElem_mem hil)
  have hpe : putAt recs q.1 = fun d => putX d recs[q.1.1].runs q.1.2.bytes := by
    funext d
    unfold putAt
    rw [List.getD_eq_getElem?_getD, List.getElem?_eq_getElem hil, Option.getD_some]
  rw [hpe, Array.empty_append]
  have hsm : q.1.2.bytes.length ≤ 1048576 := by rw [← hm3]; exact h.small _ (List.getElem_mem hm1)
  refine (uchange1 (T := [B]) gv gr q.2.1 q.2.2 rb ro recs.length c q.1.1 kv recs[q.1.1].runs q.1.2.bytes hV (fun W'' k2 => ?_) hil (by rw [h.len]; have := h.few; omega) hR (by have := hpl.len0; omega) (wf_of_pl hpl) hsm ho hw).mono fun e w' ⟨a1, a2, a3⟩ => ⟨a1, a2, a3.mono (by simp)⟩
  have kk := k.trans (k2.mono (T := [B]) (by simp))
  refine ⟨(kk.own ov (h.off hv1)).cell 0 (by simp), (kk.own og (h.off hg1)).cell 0 (by simp), (kk.own oi (h.off hi1)).cell 0 (by simp), ?_, ?_⟩
  · rw [World.cell?_of_block (w := W) (a := ⟨rb, _, none⟩) (kk.same (h.off e7) (by omega))]
    exact hkv
  · have := (kk.own ox (h.off hi2)).cell 3 (by simp [VC.cells])
    simpa [VC.cells] using this
theorem StepsCtx.idx_at (h : StepsCtx w0 W B b sb mb lo gv gr v l recs qs) : putsD l recs = qs.map (fun q => putAt recs q.1) := by
  rw [putsD_eq l recs h.len.symm, ← h.steps.idx, List.map_map]
  rfl
theorem StepsCtx.qlen (h : StepsCtx w0 W B b sb mb lo gv gr v l recs qs) : qs.length ≤ l.length := by
  have := congrArg List.length h.steps.idx
  rw [List.length_map] at this
  rw [this]
  exact idxs_len _ _
theorem StepsCtx.mid (h : StepsCtx w0 W B b sb mb lo gv gr v l recs qs) (gs : List (DK → DK × Int)) (hs : List (VS → VS × Int)) (hgs : ∀ f ∈ gs, ∀ e, e.stand.length = v.d.stand.length → Fw v.d.stand.length e (f e).1) (k : Nat) (hk : k ≤ qs.length + gs.length) :
    ∃ D, stV ((qs.map (fun q => putAt recs q.1) ++ gs).map onD ++ hs) v k = ⟨D, v.s, v.c, v.dead⟩ ∧ Fw (k * v.d.stand.length) v.d D := by
  refine ⟨_, stV_onD _ hs v k (by rw [List.length_append, List.length_map]; exact hk), ?_⟩
  refine fw_stN v.d.stand.length _ v.d (fun f hf e he => ?_) k (by rw [List.length_append, List.length_map]; exact hk)
  rcases List.mem_append.1 hf with hf | hf
  · rw [← h.idx_at] at hf
    exact fw_puts l recs _ f hf e he
  · exact hgs f hf e he
end
def fnV (u : Nat × Array Value × Array Value) : Value := .func (.func u.1) u.2.1 u.2.2
def sqU (gv gr : Nat) (q : SQ) : Nat × Array Value × Array Value := (48, #[], sqCaps gv gr q)
set_option maxHeartbeats 2000000 in
theorem uallG {w0 W : World} {B b sb mb lo gv gr : Nat} {v : VS} {l : List VC} {recs : List JRec} {qs : List SQ} (h : StepsCtx w0 W B b sb mb lo gv gr v l recs qs)
    (gs : List (DK → DK × Int)) (G : VS → VS × Int) (ex : List (Nat × Array Value × Array Value)) (hex : ex.length = gs.length + 1) (hgl : gs.length ≤ 5)
    (hen : ∀ u ∈ ex, Enters Tryz.prog u.1) (rv : Value) (hrow : W.ownsRow w0.heap.size 42 1 rv (qs.length + ex.length) ((qs.map (sqU gv gr) ++ ex).map fnV))
    (hgs : ∀ f ∈ gs, ∀ e, e.stand.length = v.d.stand.length → Fw v.d.stand.length e (f e).1)
    (ho : v.d.ops ≤ 35000) (hw : v.d.waits.length ≤ 700) (hn : v.d.stand.length ≤ 100) (hl8 : l.length ≤ 8)
    (hstep : ∀ (j : Nat) (hj : j < ex.length) (W' : World) (D : DK), VolAt [B] W' B b sb mb lo ⟨D, v.s, v.c, v.dead⟩ → PK [B] b sb mb W W' → Fw (8 * v.d.stand.length + j * v.d.stand.length) v.d D →
      Calls Tryz.prog ex[j].1 (ex[j].2.1 ++ ex[j].2.2) W' fun e w' => e = .returned (.int .i64 (((gs.map onD ++ [G])[j]'(by rw [List.length_append, List.length_map, List.length_singleton]; omega)) ⟨D, v.s, v.c, v.dead⟩).2) ∧ VolAt [B] w' B b sb mb lo (((gs.map onD ++ [G])[j]'(by rw [List.length_append, List.length_map, List.length_singleton]; omega)) ⟨D, v.s, v.c, v.dead⟩).1 ∧ PK [B] b sb mb W' w') :
    Calls Tryz.prog 37 #[rv] W fun e w' => e = .returned (.int .i64 (chainV (putsX l recs ++ (gs.map onD ++ [G])) v).2) ∧ VolAt [B] w' B b sb mb lo (chainV (putsX l recs ++ (gs.map onD ++ [G])) v).1 ∧ PK [B] b sb mb W w' := by
  have hfs : putsX l recs ++ (gs.map onD ++ [G]) = (qs.map (fun q => putAt recs q.1) ++ gs).map onD ++ [G] := by
    unfold putsX
    rw [h.idx_at, List.map_append, List.append_assoc]
  obtain ⟨g, cap, rfl, g1, g2, g3, g4, g5⟩ := ownsRow_at hrow (by omega)
  have hul : (qs.map (sqU gv gr) ++ ex).length = qs.length + ex.length := by rw [List.length_append, List.length_map]
  have hfl : ((qs.map (fun q => putAt recs q.1) ++ gs).map onD ++ [G]).length = qs.length + ex.length := by
    rw [List.length_append, List.length_map, List.length_append, List.length_map, List.length_singleton]; omega
  have hql := h.qlen
  rw [hfs, ← hul]
  refine uallV (T := [B]) (S := [B]) ((qs.map (fun q => putAt recs q.1) ++ gs).map onD ++ [G]) (qs.map (sqU gv gr) ++ ex) (by rw [hul, hfl]) g 0 cap (h.vol.keep0 h.kept) (by rw [hul]; omega) (fun i hi => ?_) (fun W' k i hi => ?_) (fun k hk W' hV hpk _ => ?_)
  · by_cases hi2 : i < qs.length
    · rw [List.getElem_append_left (by rw [List.length_map]; exact hi2), List.getElem_map]
      exact enters_of Tryz.func48 (by kernel_rfl) rfl
    · rw [List.getElem_append_right (by rw [List.length_map]; omega)]
      exact hen _ (List.getElem_mem _)
  · rw [World.cell?_of_block (w := W) (a := ⟨g, _, none⟩) (k.same (h.off g1) g2)]
    have := g5 i (fnV ((qs.map (sqU gv gr) ++ ex)[i])) (by rw [List.getElem?_map, List.getElem?_eq_getElem hi]; rfl)
    rw [Nat.zero_add]
    exact this
  · have hkl : k < qs.length + ex.length := by rw [hul] at hk; exact hk
    obtain ⟨D, hD, hF⟩ := h.mid gs [G] hgs k (by omega)
    rw [hD] at hV ⊢
    have hF1 := hF.ops
    have hF2 := hF.waits
    by_cases hi2 : k < qs.length
    · have hm : k * v.d.stand.length ≤ 8 * 100 := Nat.mul_le_mul (by omega) hn
      have e1 : ((qs.map (fun q => putAt recs q.1) ++ gs).map onD ++ [G])[k]'(by rw [hfl]; exact hkl) = onD (putAt recs qs[k].1) := by
        rw [List.getElem_append_left (by rw [List.length_map, List.length_append, List.length_map]; omega), List.getElem_map, List.getElem_append_left (by rw [List.length_map]; exact hi2), List.getElem_map]
      have e2 : (qs.map (sqU gv gr) ++ ex)[k] = sqU gv gr qs[k] := by rw [List.getElem_append_left (by rw [List.length_map]; exact hi2), List.getElem_map]
      rw [e1, e2]
      exact h.put qs[k] (List.getElem_mem hi2) hV hpk (by show D.ops ≤ _; omega) (by show D.waits.length ≤ _; omega)
    · obtain ⟨j, rfl⟩ : ∃ j, k = qs.length + j := ⟨k - qs.length, by omega⟩
      have hj : j < ex.length := by omega
      have e1 : ((qs.map (fun q => putAt recs q.1) ++ gs).map onD ++ [G])[qs.length + j]'(by rw [hfl]; exact hkl) = (gs.map onD ++ [G])[j]'(by rw [List.length_append, List.length_map, List.length_singleton]; omega) := by
        have e : (qs.map (fun q => putAt recs q.1) ++ gs).map onD ++ [G] = (qs.map (fun q => putAt recs q.1)).map onD ++ (gs.map onD ++ [G]) := by rw [List.map_append, List.append_assoc]
        rw [List.getElem_of_eq e, List.getElem_append_right (by rw [List.length_map, List.length_map]; omega)]
        congr 1
        rw [List.length_map, List.length_map]; omega
      have e2 : (qs.map (sqU gv gr) ++ ex)[qs.length + j]'hk = ex[j] := by
        rw [List.getElem_append_right (by rw [List.length_map]; omega)]
        congr 1
        rw [List.length_map]; omega
      rw [e1, e2]
      refine hstep j hj W' D hV hpk (hF.mono ?_)
      rw [Nat.add_mul]
      exact Nat.add_le_add_right (Nat.mul_le_mul_right _ (by omega)) _
set_option maxRecDepth 100000 in
set_option maxHeartbeats 4000000 in
theorem qsameItem (a b : JItem) (va vb : Value) (w : World) (h : ItemOk w (a, va)) (h' : ItemOk w (b, vb)) (hl : a.runs.length ≤ 1000000) (hm : b.runs.length ≤ 1000000) :
    Calls Tryz.prog 126 #[.agg (a.cells va), .agg (b.cells vb)] w fun e w' => e = .returned (.bool (a.same b)) ∧ Kept [] w w' := by
  have hc := JItem.four a b
  have hq := fun w' (hk : Kept [] w w') => rsameruns va vb a.runs b.runs _ _ _ _ w' (h.1.kept0 hk) (h'.1.kept0 hk) hl hm
  have HQ := Lib.hid hq
  obtain ⟨pa, ca, e1⟩ := h.1.shape
  obtain ⟨pb, cb, e2⟩ := h'.1.shape
  simp only at e1 e2
  subst e1 e2
  obtain ⟨aid, an, asz, ar⟩ := a
  obtain ⟨bid, bn, bsz, br⟩ := b
  simp only at hc HQ hl hm
  unfold JItem.cells
  simp only
  generalize JItem.same ⟨aid, an, asz, ar⟩ ⟨bid, bn, bsz, br⟩ = SM at *
  have k0 := ((Kept.refl [] w).alloc (.cells #[.int .u32 aid, .string (bs an), .int .i64 asz, .slice pa ar.length ca] 113)).alloc (.cells #[.int .u32 bid, .string (bs bn), .int .i64 bsz, .slice pb br.length cb] 113)
  obtain ⟨oA, oB⟩ := own_two w #[.int .u32 aid, .string (bs an), .int .i64 asz, .slice pa ar.length ca] #[.int .u32 bid, .string (bs bn), .int .i64 bsz, .slice pb br.length cb] 113 113
  obtain ⟨a0, a1, a2, a3⟩ := oA.c4
  obtain ⟨b0, b1, b2, b3⟩ := oB.c4
  have K0 := Lib.hid k0
  have hq0 := HQ.out _ k0
  have HQ0 := Lib.hid hq0
  clear h h' hq oA oB k0 hq0 HQ
  rcases hc with ⟨h1, rfl⟩ | ⟨h1, h2, rfl⟩ | ⟨h1, h2, h3, rfl⟩ | ⟨h1, h2, h3, rfl⟩
  · skip
    go_enter Tryz.func126, Tryz.ntmps126
    go_wp2_with fail
    go_ret
    exact ⟨rfl, K0.out⟩
  · obtain ⟨g1, g2⟩ := bsI_forms an bn h2
    go_enter Tryz.func126, Tryz.ntmps126
    go_wp2_with fail
    go_ret
    exact ⟨rfl, K0.out⟩
  · obtain ⟨g1, g2⟩ := bsI_forms an bn h2
    go_enter Tryz.func126, Tryz.ntmps126
    go_wp2_with fail
    go_ret
    exact ⟨rfl, K0.out⟩
  · obtain ⟨g1, g2⟩ := bsI_forms an bn h2
    go_enter Tryz.func126, Tryz.ntmps126
    go_wp2_with fail
    refine HQ0.out.mono ?_; rintro e w2 ⟨rfl, k2⟩
    have KK := Lib.hid (K0.out.trans k2)
    go_wp2_with fail
    go_ret
    exact ⟨rfl, KK.out⟩
set_option maxRecDepth 100000 in
set_option maxHeartbeats 4000000 in
theorem qsameItems (va vb : Value) (l m : List JItem) (w : World) (h : ItemsIn w va l) (h' : ItemsIn w vb m) (hl : SmallL l) (hm : SmallL m) :
    Calls Tryz.prog 66 #[va, vb] w (EqSays (l = m) w) := by
  obtain ⟨pa, ca, rfl⟩ := h.shape
  obtain ⟨pb, cb, rfl⟩ := h'.shape
  have H := Lib.hid h
  have H2 := Lib.hid h'
  have HL := Lib.hid hl
  have HM := Lib.hid hm
  have j1 : (l.length : Int) ≤ 1000000 := by have := hl.1; omega
  have j2 : (m.length : Int) ≤ 1000000 := by have := hm.1; omega
  have hsm := qsameItem
  have HSM := Lib.hid hsm
  clear h h' hl hm hsm
  by_cases hne : l.length = m.length
  · have hne3 : Hid (l.length = m.length) := Lib.hid hne
    rw [← hne]
    clear hne j2
    go_enter Tryz.func66, Tryz.ntmps66
    go_wp2_with fail
    go_loopw [5] (fun i wr => ∃ k : Nat, k ≤ l.length ∧ i = .int .i64 k ∧ l.take k = m.take k ∧ Kept [] w wr) (fun i _ => l.length - (intOf i).toNat)
    case atStart => exact ⟨0, Nat.zero_le _, rfl, rfl, Kept.refl _ _⟩
    case round =>
      obtain ⟨k, hk, rfl, htk, hK⟩ := hrel
      by_cases hlt : k < l.length
      · have hlt2 : k < m.length := by have := hne3.out; omega
        obtain ⟨b, off, kva, rfl, hia, hb, hc1, hc2, HA⟩ := H.out.at4 k hlt
        obtain ⟨b', off', kvb, rfl, hib, hb', hc1', hc2', HB⟩ := H2.out.at4 k hlt2
        have hsame := fun W (q : Kept [] w W) => HSM.out (l[k]'hlt) (m[k]'hlt2) kva kvb W (hia.kept0 q) (hib.kept0 q) (HL.out.2 _ (List.getElem_mem hlt)) (HM.out.2 _ (List.getElem_mem hlt2))
        obtain ⟨p1, n1, c1, rfl⟩ := hia.slv
        obtain ⟨p2, n2, c2, rfl⟩ := hib.slv
        obtain ⟨S, hS⟩ : ∃ S, JItem.same (l[k]'hlt) (m[k]'hlt2) = S := ⟨_, rfl⟩
        have hSe : S = true ↔ l[k]'hlt = m[k]'hlt2 := by rw [← hS]; exact JItem.same_iff
        simp only [hS] at hsame
        have i1 : (k : Int) < l.length := by omega
        unfold JItem.cells at hsame
        have HSA := Lib.hid hsame
        have HSE := Lib.hid hSe
        have HTK := Lib.hid htk
        have HKK := Lib.hid hK
        have HA2 := Lib.hid HA
        have HB2 := Lib.hid HB
        clear hia hib hsame hS hSe htk hK HA HB hb hb'
        generalize hLA : l[k]'hlt = A at *
        generalize hLB : m[k]'hlt2 = B at *
        have HLA := Lib.hid hLA
        have HLB := Lib.hid hLB
        have HLT := Lib.hid (And.intro hlt hlt2)
        clear hLA hLB
        go_wp2_with fail
        refine wp_region_held_drew (S := (fun W => W.cell? ⟨b, off + k * 4, none⟩ = some (.int .u32 A.id) ∧ W.cell? ⟨b, off + k * 4 + 1, none⟩ = some (.string (bs A.name)) ∧ W.cell? ⟨b, off + k * 4 + 2, none⟩ = some (.int .i64 A.size) ∧ W.cell? ⟨b, off + k * 4 + 3, none⟩ = some (.slice p1 n1 c1) ∧ W.cell? ⟨b', off' + k * 4, none⟩ = some (.int .u32 B.id) ∧ W.cell? ⟨b', off' + k * 4 + 1, none⟩ = some (.string (bs B.name)) ∧ W.cell? ⟨b', off' + k * 4 + 2, none⟩ = some (.int .i64 B.size) ∧ W.cell? ⟨b', off' + k * 4 + 3, none⟩ = some (.slice p2 n2 c2))) (by kernel_rfl) (by (obtain ⟨x0, x1, x2, x3⟩ := HA2.out _ HKK.out.drew; obtain ⟨y0, y1, y2, y3⟩ := HB2.out _ HKK.out.drew; exact ⟨x0, x1, x2, x3, y0, y1, y2, y3⟩)) (fun hHeld => ?_)
        refine take_at (i := 0) (d := some 17) (v := ?_) rfl rfl (by kernel_rfl) (by kernel_rfl) (by kernel_rfl) (fun _ _ _ h => h) (Or.inl ⟨by rfl, ?_⟩) (by assumption) ?_
        rotate_left
        · (intro w hSw; (try dsimp only at hSw); go_simp; try with_reducible rfl)
        try simp only [Act.put, List.setIfInBounds_toArray, List.set_cons_zero, List.set_cons_succ]
        refine take_at (i := 1) (d := some 18) (v := ?_) rfl rfl (by kernel_rfl) (by kernel_rfl) (by kernel_rfl) (fun _ _ _ h => h) (Or.inl ⟨by rfl, ?_⟩) (by assumption) ?_
        rotate_left
        · (intro w hSw; (try dsimp only at hSw); go_simp; try with_reducible rfl)
        try simp only [Act.put, List.setIfInBounds_toArray, List.set_cons_zero, List.set_cons_succ]
        refine take_at (i := 2) (d := some 19) (v := ?_) rfl rfl (by kernel_rfl) (by kernel_rfl) (by kernel_rfl) (fun _ _ _ h => h) (Or.inl ⟨by rfl, ?_⟩) (by assumption) ?_
        rotate_left
        · (intro w hSw; (try dsimp only at hSw); go_simp; try with_reducible rfl)
        try simp only [Act.put, List.setIfInBounds_toArray, List.set_cons_zero, List.set_cons_succ]
        refine take_at (i := 3) (d := some 20) (v := ?_) rfl rfl (by kernel_rfl) (by kernel_rfl) (by kernel_rfl) (fun _ _ _ h => h) (Or.inl ⟨by rfl, ?_⟩) (by assumption) ?_
        rotate_left
        · (intro w hSw; (try dsimp only at hSw); go_simp; try with_reducible rfl)
        try simp only [Act.put, List.setIfInBounds_toArray, List.set_cons_zero, List.set_cons_succ]
        refine take_at (i := 4) (d := some 21) (v := ?_) rfl rfl (by kernel_rfl) (by kernel_rfl) (by kernel_rfl) (fun _ _ _ h => h) (Or.inl ⟨by rfl, ?_⟩) (by assumption) ?_
        rotate_left
        · (intro w hSw; (try dsimp only at hSw); go_simp; try with_reducible rfl)
        try simp only [Act.put, List.setIfInBounds_toArray, List.set_cons_zero, List.set_cons_succ]
        refine take_at (i := 5) (d := some 22) (v := ?_) rfl rfl (by kernel_rfl) (by kernel_rfl) (by kernel_rfl) (fun _ _ _ h => h) (Or.inl ⟨by rfl, ?_⟩) (by assumption) ?_
        rotate_left
        · (intro w hSw; (try dsimp only at hSw); go_simp; try with_reducible rfl)
        try simp only [Act.put, List.setIfInBounds_toArray, List.set_cons_zero, List.set_cons_succ]
        refine take_at (i := 6) (d := some 23) (v := ?_) rfl rfl (by kernel_rfl) (by kernel_rfl) (by kernel_rfl) (fun _ _ _ h => h) (Or.inl ⟨by rfl, ?_⟩) (by assumption) ?_
        rotate_left
        · (intro w hSw; (try dsimp only at hSw); go_simp; try with_reducible rfl)
        try simp only [Act.put, List.setIfInBounds_toArray, List.set_cons_zero, List.set_cons_succ]
        refine take_at (i := 7) (d := some 24) (v := ?_) rfl rfl (by kernel_rfl) (by kernel_rfl) (by kernel_rfl) (fun _ _ _ h => h) (Or.inl ⟨by rfl, ?_⟩) (by assumption) ?_
        rotate_left
        · (intro w hSw; (try dsimp only at hSw); go_simp; try with_reducible rfl)
        try simp only [Act.put, List.setIfInBounds_toArray, List.set_cons_zero, List.set_cons_succ]
        refine wpAnyH_ready (rs := [8]) (by kernel_rfl) (by simp) ?_
        refine (AllReadyH.cons rfl (fun K hK => ?_) AllReadyH.nil)
        go_simp
        ((with_reducible refine (HSA.out _ HKK.out.drew).mono ?_)); rintro e w2 ⟨rfl, k2⟩
        have KK := Lib.hid (HKK.out.drew.trans k2)
        go_wp2_with fail
        refine hK.out _ _ ?_ (fun hHeld => ?_)
        · (obtain ⟨x0, x1, x2, x3⟩ := HA2.out _ KK.out; obtain ⟨y0, y1, y2, y3⟩ := HB2.out _ KK.out; exact ⟨x0, x1, x2, x3, y0, y1, y2, y3⟩)
        clear hK K
        try simp only [Act.put, List.setIfInBounds_toArray, List.set_cons_zero, List.set_cons_succ]
        refine take_at (i := 9) (d := some 26) (v := ?_) rfl rfl (by kernel_rfl) (by kernel_rfl) (by kernel_rfl) (fun _ _ _ h => h) (Or.inl ⟨by rfl, ?_⟩) (by assumption) ?_
        rotate_left
        · (intro w hSw; (try dsimp only at hSw); go_simp; try with_reducible rfl)
        try simp only [Act.put, List.setIfInBounds_toArray, List.set_cons_zero, List.set_cons_succ]
        refine wpAnyH_done (by kernel_rfl) ?_ _
        cases S with
        | true =>
          go_wp2_with fail
          go_roundw
          case rel => exact ⟨k + 1, HLT.out.1, by go_num, take_same HLT.out.1 HLT.out.2 HTK.out (by rw [HLA.out, HLB.out]; exact HSE.out.1 (by simp)), KK.out⟩
          case measure => (have h := HLT.out.1; simp [intOf]; omega)
        | false =>
          go_wp2_with fail
          go_ret
          exact eqSays_no (fun e => by subst e; have h1 := HLA.out; have h2 := HLB.out; rw [h1] at h2; have := HSE.out.2 h2; cases this) KK.out
      · obtain rfl : k = l.length := by omega
        have he : l = m := by
          rw [List.take_length, hne3.out, List.take_length] at htk
          exact htk
        have HE := Lib.hid he
        have i1 : ¬ (l.length : Int) < l.length := by omega
        clear htk he
        go_wp2_with fail
        go_ret
        exact eqSays_yes HE.out hK
  · have hne2 : ¬ (l.length : Int) = m.length := by omega
    have HNE := Lib.hid hne
    clear hne
    go_enter Tryz.func66, Tryz.ntmps66
    go_wp2_with fail
    go_ret
    exact eqSays_no (fun e => HNE.out (by rw [e])) (Kept.refl _ _)
set_option maxRecDepth 100000 in
set_option maxHeartbeats 4000000 in
theorem qcatSame (va vb : Value) (a b : JCat) (w : World) (h : CatIn w va a) (h' : CatIn w vb b) (hl : SmallC a) (hm : SmallC b) :
    Calls Tryz.prog 18 #[va, vb] w (EqSays (a = b) w) := by
  have hc := JCat.six a b
  obtain ⟨b1, m1, n1, rfl, hb1, hm1, hn1, _⟩ := h
  obtain ⟨b2, m2, n2, rfl, hb2, hm2, hn2, _⟩ := h'
  have HB : Hid (∀ W, Kept [] w W → Calls Tryz.prog 66 #[b1, b2] W (EqSays (a.boxes = b.boxes) W)) := Lib.hid (fun W q => qsameItems _ _ _ _ W (hb1.kept0 q) (hb2.kept0 q) hl.1 hm.1)
  have HM : Hid (∀ W, Kept [] w W → Calls Tryz.prog 66 #[m1, m2] W (EqSays (a.mans = b.mans) W)) := Lib.hid (fun W q => qsameItems _ _ _ _ W (hm1.kept0 q) (hm2.kept0 q) hl.2.1 hm.2.1)
  have HN : Hid (∀ W, Kept [] w W → Calls Tryz.prog 66 #[n1, n2] W (EqSays (a.names = b.names) W)) := Lib.hid (fun W q => qsameItems _ _ _ _ W (hn1.kept0 q) (hn2.kept0 q) hl.2.2 hm.2.2)
  obtain ⟨p1, c1, rfl⟩ := hb1.shape
  obtain ⟨p2, c2, rfl⟩ := hm1.shape
  obtain ⟨p3, c3, rfl⟩ := hn1.shape
  obtain ⟨q1, d1, rfl⟩ := hb2.shape
  obtain ⟨q2, d2, rfl⟩ := hm2.shape
  obtain ⟨q3, d3, rfl⟩ := hn2.shape
  unfold EqSays at HB HM HN
  clear hb1 hm1 hn1 hb2 hm2 hn2 hl hm
  obtain ⟨Q, hQ⟩ : ∃ Q : Prop, (a = b) = Q := ⟨_, rfl⟩
  obtain ⟨QB, hQB⟩ : ∃ Q : Prop, (a.boxes = b.boxes) = Q := ⟨_, rfl⟩
  obtain ⟨QM, hQM⟩ : ∃ Q : Prop, (a.mans = b.mans) = Q := ⟨_, rfl⟩
  obtain ⟨QN, hQN⟩ : ∃ Q : Prop, (a.names = b.names) = Q := ⟨_, rfl⟩
  have HQ0 : Hid (((a.nextBox == b.nextBox) = false ∧ ¬ Q) ∨ ((a.nextBox == b.nextBox) = true ∧ (a.nextMan == b.nextMan) = false ∧ ¬ Q) ∨ ((a.nextBox == b.nextBox) = true ∧ (a.nextMan == b.nextMan) = true ∧ (Q ↔ QB ∧ QM ∧ QN))) := by
    rw [← hQ, ← hQB, ← hQM, ← hQN]; exact hc
  rw [hQ]
  rw [hQB] at HB
  rw [hQM] at HM
  rw [hQN] at HN
  clear hc hQ hQB hQM hQN
  generalize a.nextBox = nb at *
  generalize a.nextMan = nm at *
  generalize b.nextBox = nb2 at *
  generalize b.nextMan = nm2 at *
  generalize a.boxes.length = l1 at *
  generalize a.mans.length = l2 at *
  generalize a.names.length = l3 at *
  generalize b.boxes.length = l4 at *
  generalize b.mans.length = l5 at *
  generalize b.names.length = l6 at *
  obtain ⟨oA, oB⟩ := own_two w #[.int .u32 nb, .int .u32 nm, .slice p1 l1 c1, .slice p2 l2 c2, .slice p3 l3 c3] #[.int .u32 nb2, .int .u32 nm2, .slice q1 l4 d1, .slice q2 l5 d2, .slice q3 l6 d3] 52 52
  have k0 := ((Kept.refl [] w).alloc (.cells #[.int .u32 nb, .int .u32 nm, .slice p1 l1 c1, .slice p2 l2 c2, .slice p3 l3 c3] 52)).alloc (.cells #[.int .u32 nb2, .int .u32 nm2, .slice q1 l4 d1, .slice q2 l5 d2, .slice q3 l6 d3] 52)
  have K0 := Lib.hid k0
  obtain ⟨x0, x1, x2, x3, x4⟩ := oA.k5
  obtain ⟨y0, y1, y2, y3, y4⟩ := oB.k5
  have OA := Lib.hid oA
  have OB := Lib.hid oB
  clear k0 oA oB
  rcases HQ0.out with ⟨h1, h2⟩ | ⟨h1, h3, h2⟩ | ⟨h1, h3, h2⟩
  · have HN2 := Lib.hid h2
    clear h2 HQ0
    go_enter Tryz.func18, Tryz.ntmps18
    go_wp2_with fail
    go_ret
    exact eqSays_no HN2.out K0.out
  · have HN2 := Lib.hid h2
    clear h2 HQ0
    go_enter Tryz.func18, Tryz.ntmps18
    go_wp2_with fail
    go_ret
    exact eqSays_no HN2.out K0.out
  · have HQ2 := Lib.hid h2
    clear h2 HQ0
    go_enter Tryz.func18, Tryz.ntmps18
    go_wp2_with fail
    refine (HB.out _ K0.out).mono ?_; rintro e w2 ⟨r1, rfl, e1, k2⟩
    have K2 := Lib.hid (K0.out.trans k2)
    have E1 := Lib.hid e1
    have oA2 := k2.own OA.out (by simp)
    have oB2 := k2.own OB.out (by simp)
    obtain ⟨x0, x1, x2, x3, x4⟩ := oA2.k5
    obtain ⟨y0, y1, y2, y3, y4⟩ := oB2.k5
    have OA2 := Lib.hid oA2
    have OB2 := Lib.hid oB2
    clear e1 oA2 oB2
    cases r1 with
    | false =>
      go_wp2_with fail
      go_ret
      exact eqSays_no (fun q => by have := E1.out.2 (HQ2.out.1 q).1; cases this) K2.out
    | true =>
      go_wp2_with fail
      refine (HM.out _ K2.out).mono ?_; rintro e w3 ⟨r2, rfl, e2, k3⟩
      have K3 := Lib.hid (K2.out.trans k3)
      have E2 := Lib.hid e2
      have oA3 := k3.own OA2.out (by simp)
      have oB3 := k3.own OB2.out (by simp)
      obtain ⟨x0, x1, x2, x3, x4⟩ := oA3.k5
      obtain ⟨y0, y1, y2, y3, y4⟩ := oB3.k5
      clear e2 oA3 oB3
      cases r2 with
      | false =>
        go_wp2_with fail
        go_ret
        exact eqSays_no (fun q => by have := E2.out.2 (HQ2.out.1 q).2.1; cases this) K3.out
      | true =>
        go_wp2_with fail
        refine (HN.out _ K3.out).mono ?_; rintro e w4 ⟨r3, rfl, e3, k4⟩
        have K4 := Lib.hid (K3.out.trans k4)
        have E3 := Lib.hid e3
        clear e3
        go_wp2_with fail
        go_ret
        exact ⟨r3, rfl, ⟨fun q => HQ2.out.2 ⟨E1.out.1 (by simp), E2.out.1 (by simp), E3.out.1 q⟩, fun q => E3.out.2 (HQ2.out.1 q).2.2⟩, K4.out⟩
def RecsRow (w0 w : World) (v : Value) (l : List JRec) : Prop :=
  ∃ vs, vs.map (·.1) = l ∧ w.ownsRow w0.heap.size 102 5 v vs.length (reccells vs) ∧ (∀ x ∈ vs, RunsIn w0 x.2 x.1.runs 0 w0.heap.size ∧ x.1.fits) ∧ Kept [] w0 w
theorem RecsRow.nil (w : World) : RecsRow w w (.slice none 0 0) [] := ⟨[], rfl, World.ownsRow_nil _ _ _ _, fun x hx => (by cases hx), Kept.refl _ _⟩
theorem RecsRow.val {w0 w : World} {v : Value} {l : List JRec} (h : RecsRow w0 w v l) : RecsIn w v l 0 w.heap.size := by
  obtain ⟨vs, rfl, h3, h4, h5⟩ := h
  by_cases h0 : vs = []
  · subst h0
    obtain ⟨p, c, rfl⟩ := own_shape h3
    exact Or.inl ⟨rfl, p, c, rfl⟩
  · have hp : 0 < vs.length := List.length_pos_iff.2 h0
    obtain ⟨g, c, rfl, g1, g2, g3, g4, g5⟩ := ownsRow_at h3 (by simpa using hp)
    refine Or.inr ⟨g, 0, c, by simp, fun i hi => ?_, Nat.zero_le _, g2, Nat.le_refl _, fun e => h0 (List.map_eq_nil_iff.1 e), by simpa using g3, g4⟩
    have hi' : i < vs.length := by simpa using hi
    obtain ⟨q1, q2⟩ := h4 _ (List.getElem_mem hi')
    refine ⟨[Value.int .i64 vs[i].1.kind, Value.int .u32 vs[i].1.id, Value.string (bs vs[i].1.name), Value.int .i64 vs[i].1.size, vs[i].2], rfl, ⟨vs[i].2, by rw [List.getElem_map], by rw [List.getElem_map]; exact (q1.kept0 h5).upto, by rw [List.getElem_map]; exact q2⟩, fun j u hj => ?_⟩
    rw [Nat.zero_add]
    exact g5 _ _ (reccells_get vs i hi' j u hj)
theorem RecsRow.snoc {w0 w w6 : World} {v6 kv : Value} {vs : List (JRec × Value)} {r : JRec} (hvr : ∀ x ∈ vs, RunsIn w0 x.2 x.1.runs 0 w0.heap.size ∧ x.1.fits) (hn : RunsIn w0 kv r.runs 0 w0.heap.size ∧ r.fits)
    (ho : w6.ownsRow w0.heap.size 102 5 v6 (vs.length + 1) (reccells vs ++ [Value.int .i64 r.kind, Value.int .u32 r.id, Value.string (bs r.name), Value.int .i64 r.size, kv])) (k : Kept [] w0 w6) {L : List JRec} (hL : vs.map (·.1) = L) : RecsRow w0 w6 v6 (L ++ [r]) := by
  refine ⟨vs ++ [(r, kv)], by rw [List.map_append, hL]; rfl, ?_, ?_, k⟩
  · rw [reccells_snoc, List.length_append, List.length_singleton]; exact ho
  · intro x hx
    rcases List.mem_append.1 hx with hx | hx
    · exact hvr x hx
    · have : x = (r, kv) := by simpa using hx
      subst this; exact hn
end Go.Proofs.YtdkimcnlhmhpgaaGreat
