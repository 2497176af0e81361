/- -/
import Derived.Test.YtdkimcnlhmhpgaaGreatH04
import Derived.Test.YtdkimcnlhmhpgaaGreatH08
import Derived.Test.YtdkimcnlhmhpgaaGreatH09
import Derived.Test.YtdkimcnlhmhpgaaGreatH10
import Derived.Test.YtdkimcnlhmhpgaaGreatH11
import Derived.Test.YtdkimcnlhmhpgaaGreatH19
import Derived.Test.YtdkimcnlhmhpgaaGreatH21
import Derived.Test.YtdkimcnlhmhpgaaGreatH25
import Derived.Test.YtdkimcnlhmhpgaaGreatH34
import Derived.Test.YtdkimcnlhmhpgaaGreatH35
import Derived.Test.YtdkimcnlhmhpgaaGreatH36
import Derived.Test.YtdkimcnlhmhpgaaGreatH37
import Derived.Test.YtdkimcnlhmhpgaaGreatH39
import Derived.Test.YtdkimcnlhmhpgaaGreatH40
import Derived.BigQuiet
import Derived.Maps.AppendAt
import Derived.IntWalk
import Derived.Laws.StructEq
import Derived.Deep.QuietTactic
set_option linter.unusedVariables false
set_option linter.unusedSimpArgs false
namespace Go.Proofs.YtdkimcnlhmhpgaaGreat
open Go.RowKit
def idxs (l : List VC) : Nat → List (Nat × VC)
 | 0 => []
 | k + 1 => idxs l k ++ (match l[k]? with | some x => if kBlob x.kind then [(k, x)] else [] | none => [])
theorem idxs_succ (l : List VC) (k : Nat) (h : k < l.length) : idxs l (k + 1) = idxs l k ++ (if kBlob l[k].kind then [(k, l[k])] else []) := by
 show idxs l k ++ _ = _
 rw [List.getElem?_eq_getElem h]
theorem idxs_mem {l : List VC} : ∀ {k : Nat}, k ≤ l.length → ∀ p ∈ idxs l k, ∃ h : p.1 < l.length, p.1 < k ∧ l[p.1] = p.2 ∧ kBlob p.2.kind = true
 | 0, _, p, hp => by simp [idxs] at hp
 | k + 1, hk, p, hp => by
  rw [idxs_succ l k (by omega)] at hp
  rcases List.mem_append.1 hp with hp | hp
  ·obtain ⟨h1, h2, h3⟩ := idxs_mem (by omega) p hp
   exact ⟨h1, by omega, h3⟩
  ·split at hp
   ·rename_i hb
    obtain rfl := List.mem_singleton.1 hp
    exact ⟨by show k < _; omega, by show k < _; omega, rfl, hb⟩
   ·simp at hp
theorem idxs_len (l : List VC) : ∀ k, (idxs l k).length ≤ k
 | 0 => Nat.le_refl _
 | k + 1 => by
  have := idxs_len l k
  show (idxs l k ++ _).length ≤ _
  rw [List.length_append]
  split
  ·split
   ·simp; omega
   ·simp; omega
  ·simp; omega
theorem putsD_snoc : ∀ (l : List VC) (recs : List JRec) (x : VC) (r : JRec), l.length = recs.length → putsD (l ++ [x]) (recs ++ [r]) = putsD l recs ++ (if kBlob x.kind then [fun d => putX d r.runs x.bytes] else [])
 | [], [], x, r, _ => by
  show (if kBlob x.kind then _ else _) = [] ++ _
  rw [List.nil_append]
  split <;> simp [putsD]
 | [], r' :: recs, _, _, h => by simp at h
 | y :: l, [], _, _, h => by simp at h
 | y :: l, q :: recs, x, r, h => by
  have ih := putsD_snoc l recs x r (by simpa using h)
  show (if kBlob y.kind then (fun d => putX d q.runs y.bytes) :: putsD (l ++ [x]) (recs ++ [r]) else putsD (l ++ [x]) (recs ++ [r])) = (if kBlob y.kind then (fun d => putX d q.runs y.bytes) :: putsD l recs else putsD l recs) ++ _
  rw [ih]
  split <;> simp
noncomputable def putAt (recs : List JRec) (p : Nat × VC) (d : DK) : DK × Int := putX d (recs.getD p.1 default).runs p.2.bytes
theorem putsD_idxs (l : List VC) (recs : List JRec) (h : l.length = recs.length) : ∀ k, k ≤ l.length → putsD (l.take k) (recs.take k) = (idxs l k).map (putAt recs)
 | 0, _ => by simp [putsD, idxs]
 | k + 1, hk => by
  have ih := putsD_idxs l recs h k (by omega)
  rw [List.take_succ_eq_append_getElem (by omega), List.take_succ_eq_append_getElem (by omega), putsD_snoc _ _ _ _ (by rw [List.length_take, List.length_take]; omega), ih, idxs_succ l k (by omega), List.map_append]
  congr 1
  split
  ·show [fun d => _] = [putAt recs (k, l[k])]
   congr 1
   funext d
   unfold putAt
   simp only
   rw [List.getD_eq_getElem?_getD, List.getElem?_eq_getElem (by omega), Option.getD_some]
  ·rfl
theorem putsD_eq (l : List VC) (recs : List JRec) (h : l.length = recs.length) : putsD l recs = (idxs l l.length).map (putAt recs) := by
 have := putsD_idxs l recs h l.length (Nat.le_refl _)
 rw [List.take_length, h, List.take_length] at this
 rw [this, h]
theorem stV_onD (gs : List (DK → DK × Int)) (hs : List (VS → VS × Int)) (v : VS) : ∀ k, k ≤ gs.length → stV (gs.map onD ++ hs) v k = ⟨stN gs v.d k, v.s, v.c, v.dead⟩
 | 0, _ => rfl
 | k + 1, hk => by
  have ih := stV_onD gs hs v k (by omega)
  have h1 : k < (gs.map onD ++ hs).length := by rw [List.length_append, List.length_map]; omega
  rw [stV_succ _ _ _ h1, ih, stN_succ gs v.d k (by omega)]
  have e : (gs.map onD ++ hs)[k] = onD gs[k] := by rw [List.getElem_append_left (by rw [List.length_map]; omega), List.getElem_map]
  rw [e]
  rfl
abbrev SQ := (Nat × VC) × (Nat × Nat)
def sqCaps (gv gr : Nat) (q : SQ) : Array Value := #[.pointer (some ⟨gv, 0, none⟩), .pointer (some ⟨gr, 0, none⟩), .pointer (some ⟨q.2.1, 0, none⟩), .pointer (some ⟨q.2.2, 0, none⟩)]
structure StepsAt (w0 W : World) (l : List VC) (k : Nat) (qs : List SQ) : Prop where
 idx : qs.map (·.1) = idxs l k
 own : ∀ q ∈ qs, w0.heap.size ≤ q.2.1 ∧ w0.heap.size ≤ q.2.2 ∧ Own W q.2.1 #[.int .i64 q.1.1] 3 ∧ Own W q.2.2 q.1.2.cells 34
theorem StepsAt.kept {w0 W W' : World} {l : List VC} {k : Nat} {qs : List SQ} (h : StepsAt w0 W l k qs) (kk : Kept [] W W') : StepsAt w0 W' l k qs := ⟨h.idx, fun q hq => by
 obtain ⟨h1, h2, h3, h4⟩ := h.own q hq
 exact ⟨h1, h2, kk.own h3 (by simp), kk.own h4 (by simp)⟩⟩
structure StepsCtx (T : List Nat) (w0 W : World) (B b sb mb lo gv gr : Nat) (v : VS) (l : List VC) (recs : List JRec) (qs : List SQ) : Prop where
 vol : VolAt T w0 B b sb mb lo v
 kept : Kept [] w0 W
 gv : w0.heap.size ≤ gv ∧ Own W gv #[.pointer (some ⟨B, 0, none⟩)] 27
 gr : ∃ rv, w0.heap.size ≤ gr ∧ Own W gr #[rv] 92 ∧ RecsNew w0 W rv recs
 steps : StepsAt w0 W l l.length qs
 len : recs.length = l.length
 pl : ∀ r ∈ recs, Pl 0 r.runs
 few : l.length ≤ 1000
 small : ∀ x ∈ l, x.bytes.length ≤ 1048576
section
variable {T : List Nat} {w0 W : World} {B b sb mb lo gv gr : Nat} {v : VS} {l : List VC} {recs : List JRec} {qs : List SQ}
theorem StepsCtx.off (h : StepsCtx T w0 W B b sb mb lo gv gr v l recs qs) {g : Nat} (hg : w0.heap.size ≤ g) : OffD [B] W b sb mb g := (h.vol.da.off_new h.vol.hT h.kept hg).toB h.vol.hB
theorem StepsCtx.put (h : StepsCtx T w0 W B b sb mb lo gv gr v l recs qs) (q : SQ) (hq : q ∈ qs) {W' : World} {u : VS} (hV : VolAt T W' B b sb mb lo u) (k : PK [B] b sb mb W W') (ho : u.d.ops ≤ 90000) (hw : u.d.waits.length ≤ 1800) :
  Calls Tryz.prog 48 (#[] ++ sqCaps gv gr q) W' fun e w' => e = .returned (.int .i64 (onD (putAt recs q.1) u).2) ∧ VolAt T w' B b sb mb lo (onD (putAt recs q.1) u).1 ∧ PK [B] b sb mb W' w' := by
 obtain ⟨hi1, hi2, oi, ox⟩ := h.steps.own q hq
 obtain ⟨hm1, hm2, hm3, hm4⟩ := idxs_mem (Nat.le_refl _) q.1 (by rw [← h.steps.idx]; exact List.mem_map.2 ⟨q, hq, rfl⟩)
 obtain ⟨rv, hg1, og, hrec⟩ := h.gr
 obtain ⟨hv1, ov⟩ := h.gv
 have hin := hrec.in_
 obtain ⟨p, c, rfl⟩ := hrec.shape
 have hil : q.1.1 < recs.length := by rw [h.len]; exact hm1
 obtain ⟨rb, ro, cs, rfl, e2, ⟨kv, rfl, e4, e5⟩, e6, e7, e8, e9⟩ := RowsOf.at_ hin q.1.1 hil
 have hkv := e6 4 _ rfl
 have hRO : RunsO T W b sb mb kv recs[q.1.1].runs := e4.new h.vol.da h.vol.hT h.kept (Nat.le_refl _)
 obtain ⟨⟨lo1, hi3, hR⟩, _⟩ := hRO.pk (k.toT h.vol.hB)
 have hpl := h.pl _ (List.getElem_mem hil)
 have hpe : putAt recs q.1 = fun d => putX d recs[q.1.1].runs q.1.2.bytes := by
  funext d
  unfold putAt
  rw [List.getD_eq_getElem?_getD, List.getElem?_eq_getElem hil, Option.getD_some]
 rw [hpe, Array.empty_append]
 have hsm : q.1.2.bytes.length ≤ 1048576 := by rw [← hm3]; exact h.small _ (List.getElem_mem hm1)
 refine (uchange1 (T := T) gv gr q.2.1 q.2.2 rb ro recs.length c q.1.1 kv recs[q.1.1].runs q.1.2.bytes hV (fun W'' k2 => ?_) hil (by rw [h.len]; have := h.few; omega) hR (by have := hpl.len0; omega) (wf_of_pl hpl) hsm ho hw).mono fun e w' ⟨a1, a2, a3⟩ => ⟨a1, a2, a3.mono (by simp)⟩
 have kk := k.trans (k2.mono (T := [B]) (by simp))
 refine ⟨(kk.own ov (h.off hv1)).cell 0 (by simp), (kk.own og (h.off hg1)).cell 0 (by simp), (kk.own oi (h.off hi1)).cell 0 (by simp), ?_, ?_⟩
 ·rw [World.cell?_of_block (w := W) (a := ⟨rb, _, none⟩) (kk.same (h.off e7) (by omega))]
  exact hkv
 ·have := (kk.own ox (h.off hi2)).cell 3 (by simp [VC.cells])
  simpa [VC.cells] using this
theorem StepsCtx.idx_at (h : StepsCtx T w0 W B b sb mb lo gv gr v l recs qs) : putsD l recs = qs.map (fun q => putAt recs q.1) := by
 rw [putsD_eq l recs h.len.symm, ← h.steps.idx, List.map_map]
 rfl
theorem StepsCtx.qlen (h : StepsCtx T w0 W B b sb mb lo gv gr v l recs qs) : qs.length ≤ l.length := by
 have := congrArg List.length h.steps.idx
 rw [List.length_map] at this
 rw [this]
 exact idxs_len _ _
theorem StepsCtx.mid (h : StepsCtx T w0 W B b sb mb lo gv gr v l recs qs) (gs : List (DK → DK × Int)) (hs : List (VS → VS × Int)) (hgs : ∀ f ∈ gs, ∀ e, e.stand.length = v.d.stand.length → Fw v.d.stand.length e (f e).1) (k : Nat) (hk : k ≤ qs.length + gs.length) :
  ∃ D, stV ((qs.map (fun q => putAt recs q.1) ++ gs).map onD ++ hs) v k = ⟨D, v.s, v.c, v.dead⟩ ∧ Fw (k * v.d.stand.length) v.d D := by
 refine ⟨_, stV_onD _ hs v k (by rw [List.length_append, List.length_map]; exact hk), ?_⟩
 refine fw_stN v.d.stand.length _ v.d (fun f hf e he => ?_) k (by rw [List.length_append, List.length_map]; exact hk)
 rcases List.mem_append.1 hf with hf | hf
 ·rw [← h.idx_at] at hf
  exact fw_puts l recs _ f hf e he
 ·exact hgs f hf e he
end
def fnV (u : Nat × Array Value × Array Value) : Value := .func (.func u.1) u.2.1 u.2.2
def sqU (gv gr : Nat) (q : SQ) : Nat × Array Value × Array Value := (48, #[], sqCaps gv gr q)
set_option maxHeartbeats 2000000 in
theorem uallG {T : List Nat} {w0 W : World} {B b sb mb lo gv gr : Nat} {v : VS} {l : List VC} {recs : List JRec} {qs : List SQ} (h : StepsCtx T w0 W B b sb mb lo gv gr v l recs qs)
  (gs : List (DK → DK × Int)) (G : VS → VS × Int) (ex : List (Nat × Array Value × Array Value)) (hex : ex.length = gs.length + 1) (hgl : gs.length ≤ 5)
  (hen : ∀ u ∈ ex, Enters Tryz.prog u.1) (rv : Value) (hrow : W.ownsRow w0.heap.size 42 1 rv (qs.length + ex.length) ((qs.map (sqU gv gr) ++ ex).map fnV))
  (hgs : ∀ f ∈ gs, ∀ e, e.stand.length = v.d.stand.length → Fw v.d.stand.length e (f e).1)
  (ho : v.d.ops ≤ 35000) (hw : v.d.waits.length ≤ 700) (hn : v.d.stand.length ≤ 100) (hl8 : l.length ≤ 8)
  (hstep : ∀ (j : Nat) (hj : j < ex.length) (W' : World) (D : DK), VolAt T W' B b sb mb lo ⟨D, v.s, v.c, v.dead⟩ → PK [B] b sb mb W W' → Fw (8 * v.d.stand.length + j * v.d.stand.length) v.d D →
   Calls Tryz.prog ex[j].1 (ex[j].2.1 ++ ex[j].2.2) W' fun e w' => e = .returned (.int .i64 (((gs.map onD ++ [G])[j]'(by rw [List.length_append, List.length_map, List.length_singleton]; omega)) ⟨D, v.s, v.c, v.dead⟩).2) ∧ VolAt T w' B b sb mb lo (((gs.map onD ++ [G])[j]'(by rw [List.length_append, List.length_map, List.length_singleton]; omega)) ⟨D, v.s, v.c, v.dead⟩).1 ∧ PK [B] b sb mb W' w') :
  Calls Tryz.prog 37 #[rv] W fun e w' => e = .returned (.int .i64 (chainV (putsX l recs ++ (gs.map onD ++ [G])) v).2) ∧ VolAt T w' B b sb mb lo (chainV (putsX l recs ++ (gs.map onD ++ [G])) v).1 ∧ PK [B] b sb mb W w' := by
 have hfs : putsX l recs ++ (gs.map onD ++ [G]) = (qs.map (fun q => putAt recs q.1) ++ gs).map onD ++ [G] := by
  unfold putsX
  rw [h.idx_at, List.map_append, List.append_assoc]
 obtain ⟨g, cap, rfl, g1, g2, g3, g4, g5⟩ := ownsRow_at hrow (by omega)
 have hul : (qs.map (sqU gv gr) ++ ex).length = qs.length + ex.length := by rw [List.length_append, List.length_map]
 have hfl : ((qs.map (fun q => putAt recs q.1) ++ gs).map onD ++ [G]).length = qs.length + ex.length := by
  rw [List.length_append, List.length_map, List.length_append, List.length_map, List.length_singleton]; omega
 have hql := h.qlen
 rw [hfs, ← hul]
 refine uallV (T := T) (S := [B]) ((qs.map (fun q => putAt recs q.1) ++ gs).map onD ++ [G]) (qs.map (sqU gv gr) ++ ex) (by rw [hul, hfl]) g 0 cap (h.vol.keep0 h.kept) (by rw [hul]; omega) (fun i hi => ?_) (fun W' k i hi => ?_) (fun k hk W' hV hpk _ => ?_)
 ·by_cases hi2 : i < qs.length
  ·rw [List.getElem_append_left (by rw [List.length_map]; exact hi2), List.getElem_map]
   exact enters_of Tryz.func48 (by kernel_rfl) rfl
  ·rw [List.getElem_append_right (by rw [List.length_map]; omega)]
   exact hen _ (List.getElem_mem _)
 ·rw [World.cell?_of_block (w := W) (a := ⟨g, _, none⟩) (k.same (h.off g1) g2)]
  have := g5 i (fnV ((qs.map (sqU gv gr) ++ ex)[i])) (by rw [List.getElem?_map, List.getElem?_eq_getElem hi]; rfl)
  rw [Nat.zero_add]
  exact this
 ·have hkl : k < qs.length + ex.length := by rw [hul] at hk; exact hk
  obtain ⟨D, hD, hF⟩ := h.mid gs [G] hgs k (by omega)
  rw [hD] at hV ⊢
  have hF1 := hF.ops
  have hF2 := hF.waits
  by_cases hi2 : k < qs.length
  ·have hm : k * v.d.stand.length ≤ 8 * 100 := Nat.mul_le_mul (by omega) hn
   have e1 : ((qs.map (fun q => putAt recs q.1) ++ gs).map onD ++ [G])[k]'(by rw [hfl]; exact hkl) = onD (putAt recs qs[k].1) := by
    rw [List.getElem_append_left (by rw [List.length_map, List.length_append, List.length_map]; omega), List.getElem_map, List.getElem_append_left (by rw [List.length_map]; exact hi2), List.getElem_map]
   have e2 : (qs.map (sqU gv gr) ++ ex)[k] = sqU gv gr qs[k] := by rw [List.getElem_append_left (by rw [List.length_map]; exact hi2), List.getElem_map]
   rw [e1, e2]
   exact h.put qs[k] (List.getElem_mem hi2) hV hpk (by show D.ops ≤ _; omega) (by show D.waits.length ≤ _; omega)
  ·obtain ⟨j, rfl⟩ : ∃ j, k = qs.length + j := ⟨k - qs.length, by omega⟩
   have hj : j < ex.length := by omega
   have e1 : ((qs.map (fun q => putAt recs q.1) ++ gs).map onD ++ [G])[qs.length + j]'(by rw [hfl]; exact hkl) = (gs.map onD ++ [G])[j]'(by rw [List.length_append, List.length_map, List.length_singleton]; omega) := by
    have e : (qs.map (fun q => putAt recs q.1) ++ gs).map onD ++ [G] = (qs.map (fun q => putAt recs q.1)).map onD ++ (gs.map onD ++ [G]) := by rw [List.map_append, List.append_assoc]
    rw [List.getElem_of_eq e, List.getElem_append_right (by rw [List.length_map, List.length_map]; omega)]
    congr 1
    rw [List.length_map, List.length_map]; omega
   have e2 : (qs.map (sqU gv gr) ++ ex)[qs.length + j]'hk = ex[j] := by
    rw [List.getElem_append_right (by rw [List.length_map]; omega)]
    congr 1
    rw [List.length_map]; omega
   rw [e1, e2]
   refine hstep j hj W' D hV hpk (hF.mono ?_)
   rw [Nat.add_mul]
   exact Nat.add_le_add_right (Nat.mul_le_mul_right _ (by omega)) _
theorem run_append_runs {w : World} (base : Nat) (v : Value) (n : Nat) (xs : List Value) (hown : w.ownsRow base 128 2 v n xs) (u : Value) (l : List (Int × Int)) (lo hi : Nat) (hsrc : RunsIn w u l lo hi)
  (h63 : n + l.length ≤ maxLen) (hbytes : (n + l.length) * 16 ≤ 140737488355328) (hbase : base ≤ w.heap.size) :
  ∃ v' w', (Builtin.append_ #[56, 56] 56 #[v, u]).run Tryz.prog w = .ok v' w' ∧ w'.ownsRow base 128 2 v' (n + l.length) (xs ++ rcells l) ∧ w.grownBy w' v.ownBlock := by
 obtain ⟨i0, q0, q1, q2, q3⟩ := infoRun
 obtain ⟨p, c, rfl⟩ := hsrc.shape
 cases p with
 | none =>
  have hl0 : l = [] := by
   rcases hsrc with ⟨h, _⟩ | ⟨b, off, c', e, _⟩
   ·exact h
   ·simp at e
  subst hl0
  have hrun := run_append_none_any (P := Tryz.prog) (w := w) base 56 56 128 i0 2 Tryz.underlying56 q0 v n c xs hown
  exact ⟨v, w, hrun, by simpa [rcells] using hown, grownBy_refl _ _⟩
 | some ad =>
  have hcell : ∀ j u, (rcells l)[j]? = some u → w.cell? (ad.add j) = some u := by
   rcases hsrc with ⟨rfl, _⟩ | ⟨b, off, c', e, h2⟩
   ·intro j u hj; simp [rcells] at hj
   ·simp at e
    obtain ⟨rfl, rfl⟩ := e
    have hh : RunsIn w (.slice (some ⟨b, off, none⟩) l.length c) l lo hi := Or.inr ⟨b, off, c, rfl, h2⟩
    intro j u hj
    rw [Go.WideShapes.add_plain]
    exact hh.cells j u hj
  obtain ⟨v', w', h1, h2, h3, _, _⟩ := run_append_own_at (P := Tryz.prog) w base 56 56 128 i0 _ 2 16 Tryz.underlying56 q0 q1 q2 q3 rfl (by decide) v n xs hown ad l.length c (rcells l) (rcells_len l) hcell (rcells_one l) h63 hbytes hbase
  exact ⟨v', w', h1, h2, h3⟩
theorem urecord (x : VC) (w : World) : Calls Tryz.prog 95 #[.agg #[.int .i64 x.kind, .int .u32 x.id, .string (bs x.name), .string (bs x.bytes)]] w fun e w' => e = .returned (.agg #[.int .i64 x.kind, .int .u32 x.id, .string (bs x.name), .int .i64 0, .slice none 0 0]) ∧ Kept [] w w' := by
 go_enter Tryz.func95, Tryz.ntmps95
 go_wp2_with fail
 obtain ⟨k, i, n, s⟩ := x
 simp only
 refine bodyPost_ret (v := .agg #[.int .i64 k, .int .u32 i, .string (bs n), .int .i64 0, .slice none 0 0]) (ret_row Tryz.results95 rfl (t := 102) ?_ Tryz.underlying102 rfl (by kernel_rfl)) rfl ⟨rfl, ?_⟩
 ·first
   | exact (own_two w _ _ _ _).2
 ·first
   | exact ((Kept.refl _ _).alloc _).alloc _
theorem cat_wf {w : World} {u : Value} {c : JCat} (h : CatIn w u c) : ∀ a ∈ runsC c, WfRun a := by
 obtain ⟨vb, vm, vn, rfl, hb, hm, hn, _⟩ := h
 have key : ∀ {u : Value} {l : List JItem}, ItemsIn w u l → ∀ x ∈ l, ∀ a ∈ x.runs, WfRun a := by
  intro u l h x hx
  obtain ⟨vs, rfl, _, h3⟩ := h
  obtain ⟨y, hy, rfl⟩ := List.mem_map.1 hx
  exact (h3 y hy).2.2
 intro a ha
 unfold runsC catR at ha
 obtain ⟨l, hl, hal⟩ := List.mem_flatten.1 ha
 obtain ⟨r, hr, rfl⟩ := List.mem_map.1 hl
 simp only [List.mem_append, List.mem_map] at hr
 rcases hr with (⟨x, hx, rfl⟩ | ⟨x, hx, rfl⟩) | ⟨x, hx, rfl⟩
 ·exact key hb x hx a hal
 ·exact key hm x hx a hal
 ·exact key hn x hx a hal
theorem sb_wf {s : SB} (h : s.may) : ∀ a ∈ s.runs, WfRun a := by
 intro a ha
 obtain ⟨k, hk, rfl⟩ := List.mem_iff_getElem.1 ha
 have h1 := lieTo_ok (Nat.le_refl _) h.2.1 k hk
 have h2 := okRun_iff.1 h1
 have h3 := h.1
 unfold SB.numOk at h3
 unfold WfRun
 omega
set_option maxRecDepth 100000 in
set_option maxHeartbeats 8000000 in
theorem uroom {T : List Nat} {w : World} {B b sb mb lo : Nat} {v : VS} (hV : VolAt T w B b sb mb lo v) (hm : v.s.may) (hc : mayC v.c) (hf : v.c.boxes.length + v.c.mans.length + v.c.names.length ≤ 5000) :
  Calls Tryz.prog 56 #[.pointer (some ⟨B, 0, none⟩)] w (GivesR (roomX v) w) := by
 obtain ⟨sv, vb, vm, vn, o, hr, hcat⟩ := hV.vol
 obtain ⟨⟨lo1, hi1, hrun⟩, _⟩ := hr
 have hrl := runsC_len hc
 have hsm := hm.1
 have hwfs := sb_wf hm
 have hwfc := cat_wf hcat.plain
 have HRUNS : Hid (∀ W, Kept [] w W → Calls Tryz.prog 115 #[.agg #[.int .u32 v.c.nextBox, .int .u32 v.c.nextMan, vb, vm, vn]] W (GivesR (runsC v.c) W)) := Lib.hid (fun W k => zcatRuns _ v.c W (hcat.plain.kept0 k) hf (by omega))
 have HB := Lib.hid hV.b_lt
 have HO : Hid (∀ W, Kept [] w W → Own W B (volCells b v.s sv v.c vb vm vn v.dead) 90) := Lib.hid (fun W k => k.own o (by simp))
 have HSR : Hid (∀ W, Kept [] w W → RunsIn W sv v.s.runs lo1 hi1) := Lib.hid (fun W k => hrun.kept0 k)
 unfold SB.numOk at hsm
 have HMI : Hid (∀ W va loa hia vb2 lob hib, RunsIn W va [(2 + v.s.journal, v.s.sectors - (2 + v.s.journal))] loa hia → RunsIn W vb2 (runsC v.c ++ v.s.runs) lob hib → Calls Tryz.prog 96 #[va, vb2] W (GivesR (roomX v) W)) := Lib.hid (fun W va loa hia vb2 lob hib h1 h2 => xminus va _ loa hia vb2 _ lob hib W h1 h2 (by simp) (by rw [List.length_append]; omega) (fun a ha => by
   obtain rfl := List.mem_singleton.1 ha
   unfold WfRun; simp only; omega) (fun a ha => by
   rcases List.mem_append.1 ha with ha | ha
   ·exact hwfc a ha
   ·exact hwfs a ha))
 have hlenC : (runsC v.c).length ≤ 80000 := by omega
 have hlenS : v.s.runs.length ≤ 16 := by omega
 have j1 : 1 ≤ v.s.journal := by omega
 have j2 : v.s.journal ≤ v.s.sectors - 2 := by omega
 have j3 : v.s.sectors ≤ 8192 := by omega
 have HLC := Lib.hid hlenC
 have HLS := Lib.hid hlenS
 obtain ⟨p1, c1, rfl⟩ := hrun.shape
 obtain ⟨d, s, c, dead⟩ := v
 obtain ⟨sq, se, jr, us, sz, rs⟩ := s
 simp only at *
 obtain ⟨fr, hfr⟩ : ∃ fr, fr = 2 + jr := ⟨_, rfl⟩
 obtain ⟨ln, hln⟩ : ∃ ln, ln = se - fr := ⟨_, rfl⟩
 generalize runsC c = RC at *
 generalize roomX _ = RX at *
 obtain ⟨x0, x1, x2, x3, x4, x5, x6, x7, x8, x9, x10, x11, x12⟩ := o.c13
 clear hV hm hc hf hcat hrun hrl hsm hwfs hwfc hlenC hlenS
 go_enter Tryz.func56, Tryz.ntmps56
 clear x0 x1 x4 x5 x12
 have HCELL : Hid (∀ W, Kept [] w W → W.cell? ⟨B, 2, none⟩ = some (.int .i64 se) ∧ W.cell? ⟨B, 6, none⟩ = some (.slice p1 rs.length c1) ∧ W.cell? ⟨B, 7, none⟩ = some (.int .u32 c.nextBox) ∧ W.cell? ⟨B, 8, none⟩ = some (.int .u32 c.nextMan) ∧ W.cell? ⟨B, 9, none⟩ = some (vb) ∧ W.cell? ⟨B, 10, none⟩ = some (vm) ∧ W.cell? ⟨B, 11, none⟩ = some (vn)) := Lib.hid (fun W k => by
  obtain ⟨_, _, a2, _, _, _, a6, a7, a8, a9, a10, a11, _⟩ := (HO.out W k).c13
  exact ⟨a2, a6, a7, a8, a9, a10, a11⟩)
 clear o
 go_upto_region 2 with fail
 refine wp_region_held_drew (S := (fun W => W.cell? ⟨B, 2, none⟩ = some (.int .i64 se) ∧ W.cell? ⟨B, 6, none⟩ = some (.slice p1 rs.length c1) ∧ W.cell? ⟨B, 7, none⟩ = some (.int .u32 c.nextBox) ∧ W.cell? ⟨B, 8, none⟩ = some (.int .u32 c.nextMan) ∧ W.cell? ⟨B, 9, none⟩ = some (vb) ∧ W.cell? ⟨B, 10, none⟩ = some (vm) ∧ W.cell? ⟨B, 11, none⟩ = some (vn))) (by kernel_rfl) (by exact HCELL.out _ ((Kept.refl [] w).drew)) (fun hHeld => ?_)
 refine take_at (i := 0) (d := some 11) (v := ?_) rfl rfl (by kernel_rfl) (by kernel_rfl) (by kernel_rfl) (fun _ _ _ h => h) (Or.inl ⟨by rfl, ?_⟩) (by assumption) ?_
 rotate_left
 ·(intro w hSw; (try dsimp only at hSw); go_simp; try with_reducible rfl)
 try simp only [Act.put, List.setIfInBounds_toArray, List.set_cons_zero, List.set_cons_succ]
 refine take_at (i := 1) (d := some 12) (v := ?_) rfl rfl (by kernel_rfl) (by kernel_rfl) (by kernel_rfl) (fun _ _ _ h => h) (Or.inl ⟨by rfl, ?_⟩) (by assumption) ?_
 rotate_left
 ·(intro w hSw; (try dsimp only at hSw); go_simp; try with_reducible rfl)
 try simp only [Act.put, List.setIfInBounds_toArray, List.set_cons_zero, List.set_cons_succ]
 refine take_at (i := 2) (d := some 13) (v := ?_) rfl rfl (by kernel_rfl) (by kernel_rfl) (by kernel_rfl) (fun _ _ _ h => h) (Or.inl ⟨by rfl, ?_⟩) (by assumption) ?_
 rotate_left
 ·(intro w hSw; (try dsimp only at hSw); go_simp; try with_reducible rfl)
 try simp only [Act.put, List.setIfInBounds_toArray, List.set_cons_zero, List.set_cons_succ]
 refine take_at (i := 3) (d := some 14) (v := ?_) rfl rfl (by kernel_rfl) (by kernel_rfl) (by kernel_rfl) (fun _ _ _ h => h) (Or.inl ⟨by rfl, ?_⟩) (by assumption) ?_
 rotate_left
 ·(intro w hSw; (try dsimp only at hSw); go_simp; try with_reducible rfl)
 try simp only [Act.put, List.setIfInBounds_toArray, List.set_cons_zero, List.set_cons_succ]
 refine take_at (i := 5) (d := some 16) (v := ?_) rfl rfl (by kernel_rfl) (by kernel_rfl) (by kernel_rfl) (fun _ _ _ h => h) (Or.inl ⟨by rfl, ?_⟩) (by assumption) ?_
 rotate_left
 ·(intro w hSw; (try dsimp only at hSw); go_simp; try with_reducible rfl)
 try simp only [Act.put, List.setIfInBounds_toArray, List.set_cons_zero, List.set_cons_succ]
 refine take_at (i := 6) (d := some 17) (v := ?_) rfl rfl (by kernel_rfl) (by kernel_rfl) (by kernel_rfl) (fun _ _ _ h => h) (Or.inl ⟨by rfl, ?_⟩) (by assumption) ?_
 rotate_left
 ·(intro w hSw; (try dsimp only at hSw); go_simp; try with_reducible rfl)
 try simp only [Act.put, List.setIfInBounds_toArray, List.set_cons_zero, List.set_cons_succ]
 refine take_at (i := 7) (d := some 18) (v := ?_) rfl rfl (by kernel_rfl) (by kernel_rfl) (by kernel_rfl) (fun _ _ _ h => h) (Or.inl ⟨by rfl, ?_⟩) (by assumption) ?_
 rotate_left
 ·(intro w hSw; (try dsimp only at hSw); go_simp; try with_reducible rfl)
 try simp only [Act.put, List.setIfInBounds_toArray, List.set_cons_zero, List.set_cons_succ]
 refine take_at (i := 8) (d := some 19) (v := ?_) rfl rfl (by kernel_rfl) (by kernel_rfl) (by kernel_rfl) (fun _ _ _ h => h) (Or.inl ⟨by rfl, ?_⟩) (by assumption) ?_
 rotate_left
 ·(intro w hSw; (try dsimp only at hSw); go_simp; try with_reducible rfl)
 try simp only [Act.put, List.setIfInBounds_toArray, List.set_cons_zero, List.set_cons_succ]
 refine take_at (i := 9) (d := some 20) (v := ?_) rfl rfl (by kernel_rfl) (by kernel_rfl) (by kernel_rfl) (fun _ _ _ h => h) (Or.inl ⟨by rfl, ?_⟩) (by assumption) ?_
 rotate_left
 ·(intro w hSw; (try dsimp only at hSw); go_simp; try with_reducible rfl)
 try simp only [Act.put, List.setIfInBounds_toArray, List.set_cons_zero, List.set_cons_succ]
 refine wpAnyH_ready (rs := [4]) (by kernel_rfl) (by simp) ?_
 refine (AllReadyH.cons rfl (fun K hK => ?_) AllReadyH.nil)
 go_simp
 ((with_reducible refine (HRUNS.out _ ((Kept.refl [] w).drew)).mono ?_)); rintro e w2 ⟨u, rfl, hown, k2⟩
 have kk := ((Kept.refl [] w).drew).trans k2
 have hown2 : w2.ownsRow w.heap.size 128 2 u RC.length (rcells RC) := ownsRow_base hown (by simp)
 have K2 := Lib.hid kk
 have OWN2 := Lib.hid hown2
 obtain ⟨pu, cu, rfl⟩ := own_shape hown
 clear hown kk k2 hown2
 go_wp2_with fail
 refine hK.out _ _ ?_ (fun hHeld => ?_)
 ·exact HCELL.out _ K2.out
 clear hK K
 try simp only [Act.put, List.setIfInBounds_toArray, List.set_cons_zero, List.set_cons_succ]
 obtain ⟨v5, w5, hrun5, hrow5, hgr5⟩ := run_append_runs w.heap.size _ RC.length (rcells RC) OWN2.out (.slice p1 rs.length c1) rs lo1 hi1 (HSR.out _ K2.out) (by have := HLC.out; have := HLS.out; unfold maxLen; omega) (by have := HLC.out; have := HLS.out; omega) K2.out.size
 have K5 := Lib.hid (K2.out.grown hgr5 (fun q hq => Or.inr (World.ownsRow.lt OWN2.out q hq).1))
 obtain ⟨p5, c5, rfl⟩ := own_shape hrow5
 have hrow5' : w5.ownsRow w.heap.size 128 2 (.slice p5 (RC.length + rs.length) c5) (RC ++ rs).length (rcells (RC ++ rs)) := by rw [List.length_append, show rcells (RC ++ rs) = rcells RC ++ rcells rs from by simp [rcells]]; exact hrow5
 have ROW5 := Lib.hid hrow5'
 have HRUN5 := Lib.hid hrun5
 clear hrun5 hrow5 hgr5 hrow5'
 refine wpAnyH_ready (rs := [10]) (by kernel_rfl) (by simp) ?_
 refine (AllReadyH.cons rfl (fun K hK => ?_) AllReadyH.nil)
 refine step_append_runJ rfl _ _ 56 56 rfl _ _ (by simp [Act.eval, Act.put]) (by simp [Act.eval, Act.put]) HRUN5.out ?_
 refine hK.out _ _ ?_ (fun hHeld => ?_)
 ·exact HCELL.out _ K5.out
 clear hK K
 try simp only [Act.put, List.setIfInBounds_toArray, List.set_cons_zero, List.set_cons_succ]
 refine take_at (i := 11) (d := some 4) (v := ?_) rfl rfl (by kernel_rfl) (by kernel_rfl) (by kernel_rfl) (fun _ _ _ h => h) (Or.inl ⟨by rfl, ?_⟩) (by assumption) ?_
 rotate_left
 ·(intro w hSw; (try dsimp only at hSw); go_simp; try with_reducible rfl)
 try simp only [Act.put, List.setIfInBounds_toArray, List.set_cons_zero, List.set_cons_succ]
 refine wpAnyH_done (by kernel_rfl) ?_ _
 try simp only [List.set_cons_succ, List.set_cons_zero]
 obtain ⟨a2, _⟩ := HCELL.out _ K5.out
 go_wp2_with fail
 with_reducible refine (HMI.out _ _ w5.heap.size (w5.heap.size + 1) _ _ _ (runs_lit1 w5 (2 + jr) (se - (2 + jr))) (RunsIn.of_own (World.ownsRow.alloc ROW5.out _))).mono ?_
 rintro e w6 ⟨u6, rfl, hown6, k6⟩
 have K6 := Lib.hid ((K5.out.alloc (.cells #[.int .i64 (2 + jr), .int .i64 (se - (2 + jr))] 128)).trans k6)
 have OWN6 := Lib.hid (ownsRow_base hown6 (K5.out.alloc (.cells #[.int .i64 (2 + jr), .int .i64 (se - (2 + jr))] 128)).size)
 obtain ⟨p6, c6, rfl⟩ := own_shape hown6
 clear hown6 k6
 go_wp2_with fail
 go_ret
 exact ⟨_, rfl, OWN6.out, K6.out⟩
end Go.Proofs.YtdkimcnlhmhpgaaGreat
