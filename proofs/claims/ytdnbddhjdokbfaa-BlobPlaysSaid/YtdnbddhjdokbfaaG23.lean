/- Layer 9: a disk, and the document's beside it, as laws see them: each call's code and what it leaves. -/
import Derived.Test.YtdnbddhjdokbfaaG22
namespace Go.Proofs.Ytdnbddhjdokbfaa
open Go.RowKit Go.Maps
set_option linter.unusedVariables false
set_option linter.unusedSimpArgs false

/-! ### what calls answer, and leave -/
def rVal (d : DK) (i : Int) : List UInt8 := if atOf d i = 0 then seen d i.toNat else []
def wCode (d : DK) (i : Int) (s : List UInt8) : Int := if atOf d i ≠ 0 then atOf d i else if s.length ≠ 128 then 1 else if d.fuse = 0 then 90 else 0
def wNext (d : DK) (i : Int) (s : List UInt8) : DK := if atOf d i = 0 ∧ s.length = 128 then writeD d i.toNat s else d
def fCode (d : DK) : Int := if d.down = true then 90 else if d.fuse = 0 then 90 else 0
def fNext (d : DK) : DK := if d.down = true then d else if d.fuse = 0 then opD d else settleD (opD d) (fun _ => true)
def sCode (d : DK) (a : Int) (s : List UInt8) : Int := if 0 ≤ a ∧ a + s.length ≤ 128 * d.stand.length then 0 else 5
def sNext (d : DK) (a : Int) (s : List UInt8) : DK := if 0 ≤ a ∧ a + s.length ≤ 128 * d.stand.length then spoilD d a.toNat s else d
/-- the document's disk, as the program's: below 0 all fuses are one. -/
def nrm (d : DK) : DK := ⟨d.stand, d.waits, max d.fuse (-1), d.ops, d.down⟩
theorem atOf_nrm (d : DK) (i : Int) : atOf (nrm d) i = atOf d i := rfl
theorem seen_nrm (d : DK) (i : Nat) : seen (nrm d) i = seen d i := rfl
theorem rVal_nrm (d : DK) (i : Int) : rVal (nrm d) i = rVal d i := rfl
theorem fuse0_nrm (d : DK) : ((nrm d).fuse = 0) = (d.fuse = 0) := by
  show (max d.fuse (-1) = 0) = (d.fuse = 0)
  apply propext; constructor <;> intro h <;> omega
theorem opD_nrm (d : DK) : opD (nrm d) = nrm (opD d) := by
  obtain ⟨st, wa, fu, op, dn⟩ := d
  unfold opD nrm
  simp only
  congr 1
  · split <;> split <;> omega
  · by_cases h : fu = 0
    · rw [if_pos h, if_pos (by omega)]
    · rw [if_neg h, if_neg (by omega)]
theorem writeD_nrm (d : DK) (i : Nat) (s : List UInt8) : writeD (nrm d) i s = nrm (writeD d i s) := by
  have h := opD_nrm d
  have h1 := congrArg DK.fuse h
  have h2 := congrArg DK.down h
  unfold writeD
  rw [h1, h2]
  rfl
theorem wCode_nrm (d : DK) (i : Int) (s : List UInt8) : wCode (nrm d) i s = wCode d i s := by
  unfold wCode
  rw [atOf_nrm]
  simp only [fuse0_nrm]
theorem wNext_nrm (d : DK) (i : Int) (s : List UInt8) : wNext (nrm d) i s = nrm (wNext d i s) := by
  unfold wNext
  rw [atOf_nrm]
  split
  · exact writeD_nrm _ _ _
  · rfl
theorem fCode_nrm (d : DK) : fCode (nrm d) = fCode d := by
  unfold fCode
  simp only [fuse0_nrm]
  rfl
theorem fNext_nrm (d : DK) : fNext (nrm d) = nrm (fNext d) := by
  unfold fNext
  simp only [fuse0_nrm]
  have e : (nrm d).down = d.down := rfl
  rw [e]
  split
  · rfl
  · split
    · exact opD_nrm d
    · rw [opD_nrm]; rfl
theorem sCode_nrm (d : DK) (a : Int) (s : List UInt8) : sCode (nrm d) a s = sCode d a s := rfl
theorem sNext_nrm (d : DK) (a : Int) (s : List UInt8) : sNext (nrm d) a s = nrm (sNext d a s) := by
  unfold sNext
  have e : (nrm d).stand = d.stand := rfl
  rw [e]
  split <;> rfl
theorem powerD_nrm (d : DK) (k : List Bool) : powerD (nrm d) k = nrm (powerD d k) := rfl
theorem fuse_nrm (d : DK) (n : Int) : fuseD (nrm d) n = nrm (fuseR d n) := rfl

/-! ### sectors are sectors -/
structure Fit (d : DK) : Prop where
  fine : ∀ x ∈ d.waits, x.1 < d.stand.length ∧ x.2.length = 128
  all : ∀ s ∈ d.stand, s.length = 128
theorem Fit.nrm {d : DK} (h : Fit d) : Fit (nrm d) := ⟨h.fine, h.all⟩
theorem Fit.op {d : DK} (h : Fit d) : Fit (opD d) := ⟨h.fine, h.all⟩
theorem atOf_zero {d : DK} {i : Int} (h : atOf d i = 0) : d.down = false ∧ 0 ≤ i ∧ i < d.stand.length := by
  unfold atOf at h
  cases hd : d.down
  · rw [hd, if_neg (by simp)] at h
    by_cases hc : i < 0 ∨ (d.stand.length : Int) ≤ i
    · rw [if_pos hc] at h; omega
    · exact ⟨rfl, by omega, by omega⟩
  · rw [hd, if_pos rfl] at h; omega
theorem Fit.write {d : DK} (h : Fit d) (i : Int) (s : List UInt8) : Fit (wNext d i s) := by
  unfold wNext
  split
  · rename_i hc
    obtain ⟨_, h1, h2⟩ := atOf_zero hc.1
    refine ⟨fun x hx => ?_, h.all⟩
    have hx : x ∈ d.waits ++ [(i.toNat, s)] := hx
    rw [List.mem_append] at hx
    rcases hx with hx | hx
    · exact h.fine x hx
    · have hx : x = (i.toNat, s) := by simpa using hx
      subst hx
      exact ⟨by show i.toNat < d.stand.length; omega, hc.2⟩
  · exact h
theorem Fit.settle {d : DK} (h : Fit d) (k : Nat → Bool) : Fit (settleD d k) :=
  ⟨(fun x hx => by cases hx), sk_all (p := fun s => s.length = 128) _ _ _ h.all (fun x hx => (h.fine x hx).2) _ (Nat.le_refl _)⟩
theorem Fit.flush {d : DK} (h : Fit d) : Fit (fNext d) := by
  unfold fNext
  split
  · exact h
  · split
    · exact h.op
    · exact h.op.settle _
theorem Fit.power {d : DK} (h : Fit d) (k : List Bool) : Fit (powerD d k) :=
  ⟨(fun x hx => by cases hx), sk_all (p := fun s => s.length = 128) _ _ _ h.all (fun x hx => (h.fine x hx).2) _ (Nat.le_refl _)⟩
theorem Fit.spoil {d : DK} (h : Fit d) (a : Int) (s : List UInt8) : Fit (sNext d a s) := by
  unfold sNext
  split
  · rename_i hc
    refine ⟨fun x hx => ?_, spoilTo_all _ _ _ _ h.all (by omega)⟩
    obtain ⟨h1, h2⟩ := h.fine x hx
    refine ⟨?_, h2⟩
    show x.1 < (spoilTo d.stand a.toNat s s.length).length
    rw [spoilTo_len]; exact h1
  · exact h
theorem Fit.fuse {d : DK} (h : Fit d) (n : Int) : Fit (fuseD d n) := ⟨h.fine, h.all⟩
theorem Fit.fuseR {d : DK} (h : Fit d) (n : Int) : Fit (fuseR d n) := ⟨h.fine, h.all⟩
theorem Fit.new (n : Nat) : Fit (newD (List.replicate n zeroS)) := by
  refine ⟨(fun x hx => by cases hx), fun s hs => ?_⟩
  have := List.eq_of_mem_replicate hs
  subst this; unfold zeroS; rw [List.length_replicate]

/-! ### a disk of the call's own -/
structure Alone (W0 w : World) (b sb mb lo : Nat) (d : DK) : Prop where
  disk : DiskAt w b sb mb lo d
  kept : Kept [] W0 w
  hb : W0.heap.size ≤ b
  hsb : W0.heap.size ≤ sb
  hmb : W0.heap.size ≤ mb
  hlo : W0.heap.size ≤ lo
  fit : Fit d
section
variable {W0 w : World} {b sb mb lo : Nat} {d : DK}
theorem Alone.step {w' : World} {d' : DK} (h : Alone W0 w b sb mb lo d) (hD : DiskAt w' b sb mb lo d') (hk : DKept b sb mb lo w w') (hf : Fit d') : Alone W0 w' b sb mb lo d' :=
  ⟨hD, DKept.to_kept hk h.kept h.hb h.hsb h.hmb h.hlo, h.hb, h.hsb, h.hmb, h.hlo, hf⟩
theorem Alone.drew (h : Alone W0 w b sb mb lo d) : Alone W0 w.drew b sb mb lo d := ⟨h.disk, h.kept.drew, h.hb, h.hsb, h.hmb, h.hlo, h.fit⟩
theorem Alone.alloc (h : Alone W0 w b sb mb lo d) (o : Obj) : Alone W0 (w.alloc o) b sb mb lo d :=
  ⟨h.disk.keep ((Kept.refl [] w).alloc o) (fun x hx => by cases hx), h.kept.alloc o, h.hb, h.hsb, h.hmb, h.hlo, h.fit⟩
theorem Alone.keep0 {w' : World} (h : Alone W0 w b sb mb lo d) (k : Kept [] w w') : Alone W0 w' b sb mb lo d :=
  ⟨h.disk.keep k (fun x hx => by cases hx), h.kept.trans k, h.hb, h.hsb, h.hmb, h.hlo, h.fit⟩
theorem Alone.len (h : Alone W0 w b sb mb lo d) : 1 ≤ d.stand.length ∧ d.stand.length ≤ 8192 := by
  obtain ⟨_, _, _, _, _, _, _, _, _, _, _, _, h7, h8, _⟩ := h.disk
  exact ⟨h7, h8⟩
theorem aNew (n : Nat) (w : World) (h1 : 1 ≤ n) (h2 : n ≤ 8192) :
    Calls Try.prog 23 #[.int .i64 n] w fun e w' => ∃ b sb mb lo, e = .returned (.tuple #[.pointer (some ⟨b, 0, none⟩), .int .i64 0]) ∧ Alone w w' b sb mb lo (newD (List.replicate n zeroS)) :=
  (dNew n w h1 h2).mono fun e w' ⟨b, sb, mb, lo, he, hD, z1, z2, z3, k⟩ => ⟨b, sb, mb, lo, he, hD, k, z3, z1, z2, (by have := DiskAt.lo_ hD; omega), Fit.new n⟩
theorem Alone.read (h : Alone W0 w b sb mb lo d) (i : Int) : Calls Try.prog 36 #[.pointer (some ⟨b, 0, none⟩), .int .i64 i] w fun e w' => e = .returned (.tuple #[.string (bs (rVal d i)), .int .i64 (atOf d i)]) ∧ w = w' := by
  by_cases hz : atOf d i = 0
  · obtain ⟨h1, h2, h3⟩ := atOf_zero hz
    obtain ⟨n, rfl⟩ := Int.eq_ofNat_of_zero_le h2
    refine (dRead b sb mb lo d n w h.disk h1 (by omega)).mono fun e w' ⟨h4, h5⟩ => ⟨?_, h5⟩
    rw [h4]; unfold rVal; rw [if_pos hz, hz]; rfl
  · refine (dRead_no b sb mb lo d i w h.disk hz).mono fun e w' ⟨h4, h5⟩ => ⟨?_, h5⟩
    rw [h4]; unfold rVal; rw [if_neg hz]; rfl
theorem Alone.write (h : Alone W0 w b sb mb lo d) (i : Int) (s : List UInt8) (ho : d.ops < 100000) (hw : d.waits.length ≤ 10000) :
    Calls Try.prog 38 #[.pointer (some ⟨b, 0, none⟩), .int .i64 i, .string (bs s)] w fun e w' => e = .returned (.int .i64 (wCode d i s)) ∧ Alone W0 w' b sb mb lo (wNext d i s) ∧ DKept b sb mb lo w w' := by
  by_cases hz : atOf d i = 0
  · by_cases hs : s.length = 128
    · obtain ⟨h1, h2, h3⟩ := atOf_zero hz
      obtain ⟨n, rfl⟩ := Int.eq_ofNat_of_zero_le h2
      have e1 : wNext d (n : Int) s = writeD d n s := by unfold wNext; rw [if_pos ⟨hz, hs⟩]; rfl
      have e2 : wCode d (n : Int) s = if d.fuse = 0 then 90 else 0 := by unfold wCode; rw [if_neg (by omega), if_neg (by omega)]
      have hf := h.fit.write (n : Int) s
      rw [e1] at hf ⊢
      rw [e2]
      exact (dWrite b sb mb lo d n s w h.disk h1 (by omega) hs ho hw).mono fun e w' ⟨h4, h5, h6⟩ => ⟨h4, h.step h5 h6 hf, h6⟩
    · have e1 : wNext d i s = d := by unfold wNext; rw [if_neg (fun hh => hs hh.2)]
      have e2 : wCode d i s = 1 := by unfold wCode; rw [if_neg (by omega), if_pos hs]
      rw [e1, e2]
      exact (dWrite_len b sb mb lo d i (bs s) w h.disk hz (by rw [bs_size]; exact hs)).mono fun e w' ⟨h4, h5⟩ => ⟨h4, by subst h5; exact h, by subst h5; exact DKept.refl _ _ _ _ _⟩
  · have e1 : wNext d i s = d := by unfold wNext; rw [if_neg (fun hh => hz hh.1)]
    have e2 : wCode d i s = atOf d i := by unfold wCode; rw [if_pos hz]
    rw [e1, e2]
    exact (dWrite_no b sb mb lo d i (bs s) w h.disk hz).mono fun e w' ⟨h4, h5⟩ => ⟨h4, by subst h5; exact h, by subst h5; exact DKept.refl _ _ _ _ _⟩
theorem Alone.flush (h : Alone W0 w b sb mb lo d) (ho : d.ops < 100000) (hw : d.waits.length ≤ 10000) :
    Calls Try.prog 19 #[.pointer (some ⟨b, 0, none⟩)] w fun e w' => e = .returned (.int .i64 (fCode d)) ∧ Alone W0 w' b sb mb lo (fNext d) ∧ DKept b sb mb lo w w' := by
  have hf := h.fit.flush
  unfold fCode fNext at *
  by_cases hd : d.down = true
  · rw [if_pos hd] at hf ⊢
    rw [if_pos hd]
    exact (dFlush_down b sb mb lo d w h.disk hd).mono fun e w' ⟨h4, h5⟩ => ⟨h4, by subst h5; exact h, by subst h5; exact DKept.refl _ _ _ _ _⟩
  · have hd' : d.down = false := by simpa using hd
    rw [if_neg hd] at hf ⊢
    rw [if_neg hd]
    by_cases h0 : d.fuse = 0
    · rw [if_pos h0] at hf ⊢
      rw [if_pos h0]
      exact (dFlush_cut b sb mb lo d w h.disk hd' h0 ho).mono fun e w' ⟨h4, h5, h6⟩ => ⟨h4, h.step h5 h6 hf, h6⟩
    · rw [if_neg h0] at hf ⊢
      rw [if_neg h0]
      exact (dFlush b sb mb lo d w h.disk hd' h0 ho (fun x hx => (h.fit.fine x hx).1) hw).mono fun e w' ⟨h4, h5, h6⟩ => ⟨h4, h.step h5 h6 hf, h6⟩
theorem Alone.power (h : Alone W0 w b sb mb lo d) (v : Value) (keep : List Bool) (lo1 hi1 : Nat) (hb : BoolsIn w v keep lo1 hi1) (hbs : sb < lo1 ∨ hi1 ≤ sb) (hw : d.waits.length ≤ 10000) :
    Calls Try.prog 20 #[.pointer (some ⟨b, 0, none⟩), v] w fun e w' => e = .returned (.tuple #[]) ∧ Alone W0 w' b sb mb lo (powerD d keep) ∧ DKept b sb mb lo w w' :=
  (dPower b sb mb lo d v keep lo1 hi1 w h.disk (fun x hx => (h.fit.fine x hx).1) hw hb hbs hb.len).mono fun e w' ⟨h4, h5, h6⟩ => ⟨h4, h.step h5 h6 (h.fit.power keep), h6⟩
theorem Alone.fuse (h : Alone W0 w b sb mb lo d) (n : Int) (hn : (Lit.int .i64 n).wf = true) :
    Calls Try.prog 50 #[.pointer (some ⟨b, 0, none⟩), .int .i64 n] w fun e w' => e = .returned (.tuple #[]) ∧ Alone W0 w' b sb mb lo (fuseD d n) ∧ DKept b sb mb lo w w' := by
  have hn2 : n ≤ 9223372036854775807 := by
    simp only [Lit.wf, Bool.and_eq_true, decide_eq_true_eq] at hn
    have := hn.2; exact this
  exact (dFuse b sb mb lo d n w h.disk hn2).mono fun e w' ⟨h4, h5, h6⟩ => by
    have hk : DKept b sb mb lo w w' := DKept.kept h6 (fun x hx => Or.inl (by simpa using hx))
    exact ⟨h4, h.step h5 hk (h.fit.fuse n), hk⟩
theorem Alone.image (h : Alone W0 w b sb mb lo d) : Calls Try.prog 21 #[.pointer (some ⟨b, 0, none⟩)] w fun e w' => e = .returned (.string (bs d.stand.flatten)) ∧ Alone W0 w' b sb mb lo d ∧ Kept [] w w' :=
  (dImage b sb mb lo d w h.disk (fun s hs => by rw [h.fit.all s hs]; omega)).mono fun e w' ⟨h4, h5⟩ => ⟨h4, h.keep0 h5, h5⟩
end

/-! ### with the document's disk beside it -/
/-- all stands but the two disks' own. -/
def BKept (b sb mb lo r : Nat) (w w' : World) : Prop :=
  w'.os = w.os ∧ w'.tape = w.tape ∧ w'.output = w.output ∧ w.heap.size ≤ w'.heap.size ∧ ∀ k, k < w.heap.size → k ≠ b → k ≠ sb → k ≠ mb → k ≠ r → (k < lo ∨ ∀ cs f, w.heap[k]? ≠ some (.cells cs 97 f)) → w'.heap[k]? = w.heap[k]?
theorem BKept.refl (b sb mb lo r : Nat) (w : World) : BKept b sb mb lo r w w := ⟨rfl, rfl, rfl, Nat.le_refl _, fun _ _ _ _ _ _ _ => rfl⟩
theorem BKept.trans {b sb mb lo r : Nat} {a w w' : World} (h : BKept b sb mb lo r a w) (k : BKept b sb mb lo r w w') : BKept b sb mb lo r a w' := by
  obtain ⟨h1, h2, h3, h4, h5⟩ := h
  obtain ⟨k1, k2, k3, k4, k5⟩ := k
  refine ⟨k1.trans h1, k2.trans h2, k3.trans h3, Nat.le_trans h4 k4, fun j hj e1 e2 e3 e5 e4 => ?_⟩
  have := h5 j hj e1 e2 e3 e5 e4
  rw [← this]
  exact k5 j (Nat.lt_of_lt_of_le hj h4) e1 e2 e3 e5 (by rw [this]; exact e4)
theorem DKept.both {b sb mb lo : Nat} {w w' : World} (h : DKept b sb mb lo w w') (r : Nat) : BKept b sb mb lo r w w' :=
  ⟨h.1, h.2.1, h.2.2.1, h.2.2.2.1, fun k hk e1 e2 e3 _ e4 => h.2.2.2.2 k hk e1 e2 e3 e4⟩
theorem Kept.both {b sb mb lo r : Nat} {w w' : World} (h : Kept [r] w w') : BKept b sb mb lo r w w' :=
  ⟨h.os, h.tape, h.output, h.size, fun k hk e1 e2 e3 e5 _ => h.block k hk (by simpa using e5)⟩
theorem Kept.both0 {b sb mb lo r : Nat} {w w' : World} (h : Kept [] w w') : BKept b sb mb lo r w w' :=
  ⟨h.os, h.tape, h.output, h.size, fun k hk e1 e2 e3 e5 _ => h.block k hk (by simp)⟩
structure Both (W0 w : World) (b sb mb lo r rlo : Nat) (d rd : DK) : Prop where
  alone : Alone W0 w b sb mb lo d
  ref : RAt w r rlo rd
  hr : W0.heap.size ≤ r
  hsr : sb < rlo
  rfit : Fit rd
section
variable {W0 w : World} {b sb mb lo r rlo : Nat} {d rd : DK}
theorem Both.of (h : Alone W0 w b sb mb lo d) {w' : World} (hr : RAt w' r w.heap.size rd) (hk : Kept [] w w') (hf : Fit rd) : Both W0 w' b sb mb lo r w.heap.size d rd := by
  refine ⟨h.keep0 hk, hr, ?_, ?_, hf⟩
  · obtain ⟨_, _, _, _, _, _, h2, _⟩ := hr
    have := h.kept.size; omega
  · obtain ⟨_, _, _, os, _⟩ := h.disk
    exact os.lt
theorem Both.dstep {w' : World} {d' : DK} (h : Both W0 w b sb mb lo r rlo d rd) (hA : Alone W0 w' b sb mb lo d') (hk : DKept b sb mb lo w w') : Both W0 w' b sb mb lo r rlo d' rd :=
  ⟨hA, h.ref.dkept h.alone.disk hk h.hsr, h.hr, h.hsr, h.rfit⟩
theorem Both.rstep {w' : World} {rd' : DK} (h : Both W0 w b sb mb lo r rlo d rd) (hR : RAt w' r rlo rd') (hk : Kept [r] w w') (hf : Fit rd') : Both W0 w' b sb mb lo r rlo d rd' :=
  ⟨⟨h.alone.disk.rkept h.ref hk, h.alone.kept.call hk (fun x hx => Or.inr ((show x = r by simpa using hx) ▸ h.hr)), h.alone.hb, h.alone.hsb, h.alone.hmb, h.alone.hlo, h.alone.fit⟩, hR, h.hr, h.hsr, hf⟩
theorem RAt.kept0 {w' : World} (h : RAt w r rlo rd) (k : Kept [] w w') : RAt w' r rlo rd := h.kept k (fun x hx => by cases hx)
theorem Both.keep0 {w' : World} (h : Both W0 w b sb mb lo r rlo d rd) (k : Kept [] w w') : Both W0 w' b sb mb lo r rlo d rd :=
  ⟨h.alone.keep0 k, h.ref.kept0 k, h.hr, h.hsr, h.rfit⟩
theorem Both.drew (h : Both W0 w b sb mb lo r rlo d rd) : Both W0 w.drew b sb mb lo r rlo d rd := h.keep0 (Kept.refl [] w).drew
theorem Both.alloc (h : Both W0 w b sb mb lo r rlo d rd) (o : Obj) : Both W0 (w.alloc o) b sb mb lo r rlo d rd := h.keep0 ((Kept.refl [] w).alloc o)
theorem Both.dWrite (h : Both W0 w b sb mb lo r rlo d rd) (i : Int) (s : List UInt8) (ho : d.ops < 100000) (hw : d.waits.length ≤ 10000) :
    Calls Try.prog 38 #[.pointer (some ⟨b, 0, none⟩), .int .i64 i, .string (bs s)] w fun e w' => e = .returned (.int .i64 (wCode d i s)) ∧ Both W0 w' b sb mb lo r rlo (wNext d i s) rd ∧ BKept b sb mb lo r w w' :=
  (h.alone.write i s ho hw).mono fun e w' ⟨h1, h2, h3⟩ => ⟨h1, h.dstep h2 h3, h3.both r⟩
theorem Both.dFlush (h : Both W0 w b sb mb lo r rlo d rd) (ho : d.ops < 100000) (hw : d.waits.length ≤ 10000) :
    Calls Try.prog 19 #[.pointer (some ⟨b, 0, none⟩)] w fun e w' => e = .returned (.int .i64 (fCode d)) ∧ Both W0 w' b sb mb lo r rlo (fNext d) rd ∧ BKept b sb mb lo r w w' :=
  (h.alone.flush ho hw).mono fun e w' ⟨h1, h2, h3⟩ => ⟨h1, h.dstep h2 h3, h3.both r⟩
theorem Both.dPower (h : Both W0 w b sb mb lo r rlo d rd) (v : Value) (keep : List Bool) (lo1 hi1 : Nat) (hb : BoolsIn w v keep lo1 hi1) (hbs : sb < lo1 ∨ hi1 ≤ sb) (hw : d.waits.length ≤ 10000) :
    Calls Try.prog 20 #[.pointer (some ⟨b, 0, none⟩), v] w fun e w' => e = .returned (.tuple #[]) ∧ Both W0 w' b sb mb lo r rlo (powerD d keep) rd ∧ BKept b sb mb lo r w w' :=
  (h.alone.power v keep lo1 hi1 hb hbs hw).mono fun e w' ⟨h1, h2, h3⟩ => ⟨h1, h.dstep h2 h3, h3.both r⟩
theorem Both.dFuse (h : Both W0 w b sb mb lo r rlo d rd) (n : Int) (hn : (Lit.int .i64 n).wf = true) :
    Calls Try.prog 50 #[.pointer (some ⟨b, 0, none⟩), .int .i64 n] w fun e w' => e = .returned (.tuple #[]) ∧ Both W0 w' b sb mb lo r rlo (fuseD d n) rd ∧ BKept b sb mb lo r w w' :=
  (h.alone.fuse n hn).mono fun e w' ⟨h1, h2, h3⟩ => ⟨h1, h.dstep h2 h3, h3.both r⟩
theorem Both.dImage (h : Both W0 w b sb mb lo r rlo d rd) : Calls Try.prog 21 #[.pointer (some ⟨b, 0, none⟩)] w fun e w' => e = .returned (.string (bs d.stand.flatten)) ∧ Both W0 w' b sb mb lo r rlo d rd ∧ Kept [] w w' :=
  h.alone.image.mono fun e w' ⟨h1, h2, h3⟩ => ⟨h1, h.keep0 h3, h3⟩
theorem Both.qRead (h : Both W0 w b sb mb lo r rlo d rd) (i : Int) : Calls Try.prog 76 #[.pointer (some ⟨r, 0, none⟩), .int .i64 i] w fun e w' => e = .returned (.tuple #[.string (bs (rVal rd i)), .int .i64 (atOf rd i)]) ∧ w = w' := by
  by_cases hz : atOf rd i = 0
  · obtain ⟨h1, h2, h3⟩ := atOf_zero hz
    obtain ⟨n, rfl⟩ := Int.eq_ofNat_of_zero_le h2
    refine (Go.Proofs.Ytdnbddhjdokbfaa.qRead r rlo rd n w h.ref h1 (by omega)).mono fun e w' ⟨h4, h5⟩ => ⟨?_, h5⟩
    rw [h4]; unfold rVal; rw [if_pos hz, hz]; rfl
  · refine (qRead_no r rlo rd i w h.ref hz).mono fun e w' ⟨h4, h5⟩ => ⟨?_, h5⟩
    rw [h4]; unfold rVal; rw [if_neg hz]; rfl
theorem Both.qWrite (h : Both W0 w b sb mb lo r rlo d rd) (i : Int) (s : List UInt8) (ho : rd.ops < 100000) (hw : rd.waits.length < 20000) :
    Calls Try.prog 74 #[.pointer (some ⟨r, 0, none⟩), .int .i64 i, .string (bs s)] w fun e w' => e = .returned (.int .i64 (wCode rd i s)) ∧ Both W0 w' b sb mb lo r rlo d (wNext rd i s) ∧ BKept b sb mb lo r w w' := by
  by_cases hz : atOf rd i = 0
  · by_cases hs : s.length = 128
    · obtain ⟨h1, h2, h3⟩ := atOf_zero hz
      obtain ⟨n, rfl⟩ := Int.eq_ofNat_of_zero_le h2
      have e1 : wNext rd (n : Int) s = writeD rd n s := by unfold wNext; rw [if_pos ⟨hz, hs⟩]; rfl
      have e2 : wCode rd (n : Int) s = if rd.fuse = 0 then 90 else 0 := by unfold wCode; rw [if_neg (by omega), if_neg (by omega)]
      have hf := h.rfit.write (n : Int) s
      rw [e1] at hf ⊢
      rw [e2]
      exact (Go.Proofs.Ytdnbddhjdokbfaa.qWrite r rlo rd n s w h.ref h1 (by omega) hs ho hw).mono fun e w' ⟨h4, h5, h6⟩ => ⟨h4, h.rstep h5 h6 hf, h6.both⟩
    · have e1 : wNext rd i s = rd := by unfold wNext; rw [if_neg (fun hh => hs hh.2)]
      have e2 : wCode rd i s = 1 := by unfold wCode; rw [if_neg (by omega), if_pos hs]
      rw [e1, e2]
      exact (qWrite_len r rlo rd i (bs s) w h.ref hz (by rw [bs_size]; exact hs)).mono fun e w' ⟨h4, h5⟩ => ⟨h4, by subst h5; exact h, by subst h5; exact BKept.refl _ _ _ _ _ _⟩
  · have e1 : wNext rd i s = rd := by unfold wNext; rw [if_neg (fun hh => hz hh.1)]
    have e2 : wCode rd i s = atOf rd i := by unfold wCode; rw [if_pos hz]
    rw [e1, e2]
    exact (qWrite_no r rlo rd i (bs s) w h.ref hz).mono fun e w' ⟨h4, h5⟩ => ⟨h4, by subst h5; exact h, by subst h5; exact BKept.refl _ _ _ _ _ _⟩
theorem Both.qFlush (h : Both W0 w b sb mb lo r rlo d rd) (ho : rd.ops < 100000) :
    Calls Try.prog 55 #[.pointer (some ⟨r, 0, none⟩)] w fun e w' => e = .returned (.int .i64 (fCode rd)) ∧ Both W0 w' b sb mb lo r rlo d (fNext rd) ∧ BKept b sb mb lo r w w' := by
  have hf := h.rfit.flush
  unfold fCode fNext at *
  by_cases hd : rd.down = true
  · rw [if_pos hd] at hf ⊢
    rw [if_pos hd]
    exact (qFlush_down r rlo rd w h.ref hd).mono fun e w' ⟨h4, h5⟩ => ⟨h4, by subst h5; exact h, by subst h5; exact BKept.refl _ _ _ _ _ _⟩
  · have hd' : rd.down = false := by simpa using hd
    rw [if_neg hd] at hf ⊢
    rw [if_neg hd]
    by_cases h0 : rd.fuse = 0
    · rw [if_pos h0] at hf ⊢
      rw [if_pos h0]
      exact (qFlush_cut r rlo rd w h.ref hd' h0 ho).mono fun e w' ⟨h4, h5, h6⟩ => ⟨h4, h.rstep h5 h6 hf, h6.both⟩
    · rw [if_neg h0] at hf ⊢
      rw [if_neg h0]
      exact (Go.Proofs.Ytdnbddhjdokbfaa.qFlush r rlo rd w h.ref hd' h0 ho (fun x hx => (h.rfit.fine x hx).1)).mono fun e w' ⟨h4, h5, h6⟩ => ⟨h4, h.rstep h5 h6 hf, h6.both⟩
theorem Both.qPower (h : Both W0 w b sb mb lo r rlo d rd) (v : Value) (keep : List Bool) (lo1 hi1 : Nat) (hb : BoolsIn w v keep lo1 hi1) :
    Calls Try.prog 56 #[.pointer (some ⟨r, 0, none⟩), v] w fun e w' => e = .returned (.tuple #[]) ∧ Both W0 w' b sb mb lo r rlo d (powerD rd keep) ∧ BKept b sb mb lo r w w' :=
  (Go.Proofs.Ytdnbddhjdokbfaa.qPower r rlo rd v keep lo1 hi1 w h.ref (fun x hx => (h.rfit.fine x hx).1) hb).mono fun e w' ⟨h4, h5, h6⟩ => ⟨h4, h.rstep h5 h6 (h.rfit.power keep), h6.both⟩
theorem Both.qImage (h : Both W0 w b sb mb lo r rlo d rd) : Calls Try.prog 26 #[.pointer (some ⟨r, 0, none⟩)] w fun e w' => e = .returned (.string (bs rd.stand.flatten)) ∧ w = w' :=
  Go.Proofs.Ytdnbddhjdokbfaa.qImage r rlo rd w h.ref (fun s hs => by rw [h.rfit.all s hs]; omega)
theorem Both.fuseR (h : Both W0 w b sb mb lo r rlo d rd) (n : Int) (hn : (Lit.int .i64 n).wf = true) : Both W0 (w.setCell ⟨r, 2, none⟩ (.int .i64 n)) b sb mb lo r rlo d (fuseR rd n) := by
  obtain ⟨h1, h2⟩ := h.ref.fuse n hn
  exact h.rstep h1 h2 (h.rfit.fuseR n)
end
end Go.Proofs.Ytdnbddhjdokbfaa
