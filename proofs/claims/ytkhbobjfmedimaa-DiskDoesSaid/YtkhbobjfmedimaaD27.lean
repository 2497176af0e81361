/- Walks of chapter 9's law: an act, done to both disks. -/
import Derived.Test.YtkhbobjfmedimaaD26
import Derived.Deep.RegionHeld3
namespace Go.Proofs.Ytkhbobjfmedimaa
open Go.RowKit Go.Maps
set_option linter.unusedVariables false
set_option linter.unusedSimpArgs false

theorem BKept.own {b sb mb lo r : Nat} {w w' : World} {g : Nat} {cs : Array Value} {t : TypeId} (k : BKept b sb mb lo r w w') (o : Own w g cs t) (h1 : b < g) (h2 : sb < g) (h3 : mb < g) (h4 : r < g) (ht : t ≠ 58) : Own w' g cs t :=
  Eq.trans (k.2.2.2.2 g o.lt (by omega) (by omega) (by omega) (by omega) (Or.inr (fun cs2 f hc => by
    have o' : w.heap[g]? = some (.cells cs t (0, 0)) := o
    rw [o'] at hc
    injection hc with hc
    injection hc with _ e
    exact ht e))) o
theorem Both.lt {W0 w : World} {b sb mb lo r rlo : Nat} {d rd : DK} (h : Both W0 w b sb mb lo r rlo d rd) : b < w.heap.size ∧ sb < w.heap.size ∧ mb < w.heap.size ∧ r < w.heap.size := by
  obtain ⟨wv, n, o, os, hwr, hm, _⟩ := h.alone.disk
  obtain ⟨v0, v1, o2⟩ := h.ref.own
  exact ⟨o.lt, os.lt, hm.lt, o2.lt⟩
/-- what an act writes. -/
def textL (a : DAct) : List UInt8 := if a.full = true then sectorL a.s else a.s
def actArr (a : DAct) (kv : Value) : Array Value := #[.int .i64 a.kind, .int .i64 a.i, .string (bs a.s), .bool a.full, kv]
theorem dText (a : DAct) (p : Option Addr) (n c : Nat) (w : World) (hs : a.s.length ≤ maxLen) :
    Calls Try.prog 39 #[.agg (actArr a (.slice p n c))] w fun e w' => e = .returned (.string (bs (textL a))) ∧ w.alloc (.cells (actArr a (.slice p n c)) 30) = w' := by
  have hsec := fun W => dSector a.s W hs
  unfold textL actArr
  cases hf : a.full
  · simp only [Bool.false_eq_true, if_false]
    clear hsec
    go_enter Try.func39, Try.ntmps39
    go_wp2_with fail
    go_ret
    exact ⟨rfl, rfl⟩
  · simp only [if_true]
    have HS := Lib.hid hsec
    clear hsec
    go_enter Try.func39, Try.ntmps39
    go_wp2_with fail
    refine (HS.out _).mono ?_; rintro e w' ⟨rfl, rfl⟩
    go_wp2_with fail
    go_ret
    exact ⟨rfl, rfl⟩
/-- what an act leaves. -/
def aNext (d : DK) (a : DAct) : DK :=
  if a.kind = 1 then d else if a.kind = 2 then fNext d else if a.kind = 3 then fuseR d a.i else if a.kind = 4 then powerD d a.keep else if a.kind = 5 then sNext d a.i a.s else wNext d a.i (textL a)
def DoesSays (W0 : World) (b sb mb lo r rlo : Nat) (d : DK) (a : DAct) (e : Ending) (w' : World) : Prop := e = .returned (.bool true) ∧ Both W0 w' b sb mb lo r rlo (nrm (aNext d a)) (aNext d a)
set_option maxRecDepth 100000 in
set_option maxHeartbeats 4000000 in
theorem dDoes (W0 w : World) (b sb mb lo r rlo : Nat) (d : DK) (a : DAct) (kv : Value) (h : Both W0 w b sb mb lo r rlo (nrm d) d) (hk : BoolsIn W0 kv a.keep 0 W0.heap.size)
    (hwf : a.fits) (hs : a.s.length ≤ 400) (ho : d.ops < 100000) (hwl : d.waits.length ≤ 10000) :
    Calls Try.prog 22 #[.pointer (some ⟨b, 0, none⟩), .pointer (some ⟨r, 0, none⟩), .agg (actArr a kv)] w (DoesSays W0 b sb mb lo r rlo d a) := by
  obtain ⟨p, c, rfl⟩ := hk.shape
  have hA := h.alloc (.cells (actArr a (.slice p a.keep.length c)) 30)
  have ob := Own.new w (actArr a (.slice p a.keep.length c)) 30
  obtain ⟨l1, l2, l3, l4⟩ := h.lt
  obtain ⟨wf1, wf2, wf3, wf4⟩ := hwf
  have HK := Lib.hid hk
  clear hk
  unfold DoesSays
  have hkinds : a.kind = 1 ∨ a.kind = 2 ∨ a.kind = 3 ∨ a.kind = 4 ∨ a.kind = 5 ∨ ((a.kind == 1) = false ∧ (a.kind == 2) = false ∧ (a.kind == 3) = false ∧ (a.kind == 4) = false ∧ (a.kind == 5) = false) := by
    simp only [beq_eq_false_iff_ne]; omega
  rcases hkinds with hk1 | hk1 | hk1 | hk1 | hk1 | ⟨n1, n2, n3, n4, n5⟩
  · have e1 : aNext d a = d := by unfold aNext; rw [if_pos hk1]
    rw [e1]
    have hdr := hA.alone.read a.i
    have hqr := hA.qRead a.i
    rw [rVal_nrm, atOf_nrm] at hdr
    unfold actArr at *
    rw [hk1] at ob hA hdr hqr ⊢
    have HA := Lib.hid hA
    have HD := Lib.hid hdr
    have HQ := Lib.hid hqr
    clear hdr hqr h hA e1 hk1
    generalize rVal d a.i = X at *
    generalize atOf d a.i = Y at *
    go_enter Try.func22, Try.ntmps22
    go_wp2_with fail
    refine HD.out.mono ?_; rintro e w' ⟨rfl, rfl⟩
    go_wp2_with fail
    refine HQ.out.mono ?_; rintro e w' ⟨rfl, rfl⟩
    go_wp2_with fail
    go_ret
    exact ⟨rfl, HA.out⟩
  · have e1 : aNext d a = fNext d := by unfold aNext; rw [if_neg (by omega), if_pos hk1]
    rw [e1]
    have hdr := hA.dFlush ho hwl
    rw [fCode_nrm, fNext_nrm] at hdr
    have hqr : ∀ w', Both W0 w' b sb mb lo r rlo (nrm (fNext d)) d → Calls Try.prog 36 #[.pointer (some ⟨r, 0, none⟩)] w' fun e w2 => e = .returned (.int .i64 (fCode d)) ∧ Both W0 w2 b sb mb lo r rlo (nrm (fNext d)) (fNext d) ∧ BKept b sb mb lo r w' w2 := fun w' h' => h'.qFlush ho
    unfold actArr at *
    rw [hk1] at ob hA hdr ⊢
    have HD := Lib.hid hdr
    have HQ := Lib.hid hqr
    clear hdr hqr h hA e1 hk1
    generalize fCode d = Y at *
    go_enter Try.func22, Try.ntmps22
    go_wp2_with fail
    refine HD.out.mono ?_; rintro e w2 ⟨rfl, h2, k2⟩
    go_wp2_with fail
    refine (HQ.out _ h2).mono ?_; rintro e w3 ⟨rfl, h3, k3⟩
    go_wp2_with fail
    go_ret
    exact ⟨rfl, h3⟩
  · have e1 : aNext d a = fuseR d a.i := by unfold aNext; rw [if_neg (by omega), if_neg (by omega), if_pos hk1]
    rw [e1]
    have hdr := hA.dFuse a.i wf2
    rw [fuse_nrm] at hdr
    have hqr : ∀ w', Both W0 w' b sb mb lo r rlo (nrm (fuseR d a.i)) d → Both W0 (w'.setCell ⟨r, 2, none⟩ (.int .i64 a.i)) b sb mb lo r rlo (nrm (fuseR d a.i)) (fuseR d a.i) := fun w' h' => h'.fuseR a.i wf2
    have l1 : b < w.heap.size := l1
    unfold actArr at *
    rw [hk1] at ob hA hdr ⊢
    have HD := Lib.hid hdr
    have HQ := Lib.hid hqr
    clear hdr hqr h hA e1 hk1
    go_enter Try.func22, Try.ntmps22
    go_wp2_with fail
    refine HD.out.mono ?_; rintro e w2 ⟨rfl, h2, k2⟩
    have ob2 := k2.own ob l1 l2 l3 l4 (by decide)
    obtain ⟨q0, q1, q2, q3, q4⟩ := ob2.c5
    obtain ⟨v0, v1, o2⟩ := h2.ref.own
    obtain ⟨y0, y1, y2, y3, y4⟩ := o2.c5
    have z2 := o2.free 2
    have h3 := HQ.out _ h2
    have H3 := Lib.hid h3
    clear h2 h3 k2 ob2 o2
    go_wp2_with fail
    go_ret
    exact ⟨rfl, H3.out⟩
  · have e1 : aNext d a = powerD d a.keep := by unfold aNext; rw [if_neg (by omega), if_neg (by omega), if_neg (by omega), if_pos hk1]
    rw [e1]
    have hkA := HK.out.kept hA.alone.kept (fun x hx => by cases hx)
    have hdr := hA.dPower (.slice p a.keep.length c) a.keep 0 W0.heap.size hkA (Or.inr h.alone.hsb) hwl
    rw [powerD_nrm] at hdr
    have hqr : ∀ w', Both W0 w' b sb mb lo r rlo (nrm (powerD d a.keep)) d → Calls Try.prog 37 #[.pointer (some ⟨r, 0, none⟩), .slice p a.keep.length c] w' fun e w2 => e = .returned (.tuple #[]) ∧ Both W0 w2 b sb mb lo r rlo (nrm (powerD d a.keep)) (powerD d a.keep) ∧ BKept b sb mb lo r w' w2 := fun w' h' => h'.qPower _ a.keep 0 W0.heap.size (HK.out.kept h'.alone.kept (fun x hx => by cases hx))
    unfold actArr at *
    rw [hk1] at ob hA hdr ⊢
    have HD := Lib.hid hdr
    have HQ := Lib.hid hqr
    clear hdr hqr h hA e1 hk1 hkA HK
    go_enter Try.func22, Try.ntmps22
    go_wp2_with fail
    refine HD.out.mono ?_; rintro e w2 ⟨rfl, h2, k2⟩
    have ob2 := k2.own ob l1 l2 l3 l4 (by decide)
    obtain ⟨q0, q1, q2, q3, q4⟩ := ob2.c5
    clear ob2 k2
    go_wp2_with fail
    refine (HQ.out _ h2).mono ?_; rintro e w3 ⟨rfl, h3, k3⟩
    go_wp2_with fail
    go_ret
    exact ⟨rfl, h3⟩
  · have e1 : aNext d a = sNext d a.i a.s := by unfold aNext; rw [if_neg (by omega), if_neg (by omega), if_neg (by omega), if_neg (by omega), if_pos hk1]
    rw [e1]
    have hdr : ∀ w', Both W0 w' b sb mb lo r rlo (nrm d) d → Calls Try.prog 25 #[.pointer (some ⟨b, 0, none⟩), .int .i64 a.i, .string (bs a.s)] w' fun e w2 => e = .returned (.int .i64 (sCode d a.i a.s)) ∧ Both W0 w2 b sb mb lo r rlo (nrm (sNext d a.i a.s)) d ∧ BKept b sb mb lo r w' w2 := fun w' h' => by
      have := h'.dSpoil a.i a.s wf2 (by omega)
      rwa [sCode_nrm, sNext_nrm] at this
    have hqr : ∀ w', Both W0 w' b sb mb lo r rlo (nrm (sNext d a.i a.s)) d → Calls Try.prog 38 #[.pointer (some ⟨r, 0, none⟩), .int .i64 a.i, .string (bs a.s)] w' fun e w2 => e = .returned (.int .i64 (sCode d a.i a.s)) ∧ Both W0 w2 b sb mb lo r rlo (nrm (sNext d a.i a.s)) (sNext d a.i a.s) ∧ BKept b sb mb lo r w' w2 := fun w' h' => h'.qSpoil a.i a.s wf2 (by omega)
    unfold actArr at *
    rw [hk1] at ob hA ⊢
    have HD := Lib.hid hdr
    have HQ := Lib.hid hqr
    obtain ⟨q0, q1, q2, q3, q4⟩ := ob.c5
    clear hdr hqr h e1 hk1 HK
    generalize sCode d a.i a.s = Y at *
    go_enter Try.func22, Try.ntmps22
    go_wp2_with fail
    go_region_held3 (fun w' => w'.cell? ⟨w.heap.size, 1, none⟩ = some (.int .i64 a.i) ∧ w'.cell? ⟨w.heap.size, 2, none⟩ = some (.string (bs a.s))) (go_keep)
      (first
        | (go_at_call 25; ((with_reducible refine (HD.out _ ?_).mono ?_)); (exact hA.drew); rintro e w2 ⟨rfl, h2, k2⟩; have ob2 := k2.own (Own.drew ob) l1 l2 l3 l4 (by decide); obtain ⟨p0, p1, p2, p3, p4⟩ := ob2.c5)
        | (go_at_call 38; ((with_reducible refine (HQ.out _ ?_).mono ?_)); (exact h2); rintro e w3 ⟨rfl, h3, k3⟩; have ob3 := k3.own ob2 l1 l2 l3 l4 (by decide); obtain ⟨p0, p1, p2, p3, p4⟩ := ob3.c5))
    all_goals go_wp2_with fail
    all_goals go_ret
    all_goals exact ⟨rfl, h3⟩
  · have e1 : aNext d a = wNext d a.i (textL a) := by
      simp only [beq_eq_false_iff_ne] at n1 n2 n3 n4 n5
      unfold aNext; rw [if_neg n1, if_neg n2, if_neg n3, if_neg n4, if_neg n5]
    rw [e1]
    have hdr : ∀ w', Both W0 w' b sb mb lo r rlo (nrm d) d → Calls Try.prog 8 #[.pointer (some ⟨b, 0, none⟩), .int .i64 a.i, .string (bs (textL a))] w' fun e w2 => e = .returned (.int .i64 (wCode d a.i (textL a))) ∧ Both W0 w2 b sb mb lo r rlo (nrm (wNext d a.i (textL a))) d ∧ BKept b sb mb lo r w' w2 := fun w' h' => by
      have := h'.dWrite a.i (textL a) ho hwl
      rwa [wCode_nrm, wNext_nrm] at this
    have hqr : ∀ w', Both W0 w' b sb mb lo r rlo (nrm (wNext d a.i (textL a))) d → Calls Try.prog 40 #[.pointer (some ⟨r, 0, none⟩), .int .i64 a.i, .string (bs (textL a))] w' fun e w2 => e = .returned (.int .i64 (wCode d a.i (textL a))) ∧ Both W0 w2 b sb mb lo r rlo (nrm (wNext d a.i (textL a))) (wNext d a.i (textL a)) ∧ BKept b sb mb lo r w' w2 := fun w' h' => h'.qWrite a.i (textL a) ho (by omega)
    have htx := fun W => dText a p a.keep.length c W wf3
    obtain ⟨q0, q1, q2, q3, q4⟩ := ob.c5
    unfold actArr at *
    have HD := Lib.hid hdr
    have HQ := Lib.hid hqr
    have HT := Lib.hid htx
    have HEP : Hid (w.heap.size ≠ w.heap.size + 1) := by show _ ≠ _; omega
    clear hdr hqr h e1 HK htx
    generalize wCode d a.i (textL a) = Y at *
    generalize wNext d a.i (textL a) = ND at *
    generalize textL a = TX at *
    go_enter Try.func22, Try.ntmps22
    go_wp2_with fail
    go_region_held3 (fun w' => w'.cell? ⟨w.heap.size, 0, none⟩ = some (.int .i64 a.kind) ∧ w'.cell? ⟨w.heap.size, 1, none⟩ = some (.int .i64 a.i) ∧ w'.cell? ⟨w.heap.size, 2, none⟩ = some (.string (bs a.s)) ∧ w'.cell? ⟨w.heap.size, 3, none⟩ = some (.bool a.full) ∧ w'.cell? ⟨w.heap.size, 4, none⟩ = some (.slice p a.keep.length c)) (go_keep)
      (first
        | (go_at_call 39; ((with_reducible refine (HT.out _).mono ?_)); rintro e w' ⟨rfl, rfl⟩)
        | (go_at_call 8; ((with_reducible refine (HD.out _ ?_).mono ?_)); (exact (hA.alloc _).drew); rintro e w2 ⟨rfl, h2, k2⟩; have ob2 := k2.own (Own.drew (ob.alloc _)) l1 l2 l3 l4 (by decide); obtain ⟨p0, p1, p2, p3, p4⟩ := ob2.c5)
        | (go_at_call 40; ((with_reducible refine (HQ.out _ ?_).mono ?_)); (exact (h2.alloc _)); rintro e w3 ⟨rfl, h3, k3⟩; have ob3 := k3.own (ob2.alloc _) l1 l2 l3 l4 (by decide); obtain ⟨p0, p1, p2, p3, p4⟩ := ob3.c5))
    all_goals go_wp2_with fail
    all_goals go_ret
    all_goals exact ⟨rfl, h3⟩
end Go.Proofs.Ytkhbobjfmedimaa
