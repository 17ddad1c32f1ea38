/- What is proved: what the small functions of a stream answer. Conditions: those that stand in each theorem. -/
import Derived.Test.YtieolnekccacbaaDirPush2
namespace Go.Proofs.Ytieolnekccacbaa
set_option linter.unusedVariables false
set_option linter.unusedSimpArgs false
set_option linter.unusedSectionVars false
open Go.RowKit Go.Maps Go.MapKept Go.ChangeMaps Fw
/-- A function that leaves the world as it was, but for draws. -/
def Says (w : World) (v : Value) : Ending → World → Prop := fun e w' => e = .returned v ∧ Same w w'
theorem Says.trans {w w1 w2 : World} {v : Value} {e : Ending} (h : Says w1 v e w2) (s : Same w w1) : Says w v e w2 := ⟨h.1, ⟨h.2.heap.trans s.heap, h.2.os.trans s.os, h.2.tape.trans s.tape, h.2.output.trans s.output⟩⟩
theorem Same.trans {w w1 w2 : World} (a : Same w w1) (b : Same w1 w2) : Same w w2 := ⟨b.heap.trans a.heap, b.os.trans a.os, b.tape.trans a.tape, b.output.trans a.output⟩
theorem at_says (p m : Nat) (d : DS) (w : World) (h : DirAt w p m d) : Calls Try.prog 13 #[.pointer (some ⟨p, 0, none⟩)] w (Says w (.int .i64 d.pl)) := by
  refine calls_W (n := 7) (vs := [.pointer (some ⟨p, 0, none⟩)]) Try.func13 rfl rfl rfl ?_
  apply W.readS LO mixed [0] (by kernel_rfl)
  · repeat' (first | rfl | with_reducible assumption | assumption | constructor)
  intro w1 f1 s1 hf1
  replace hf1 : f1 = [(0, _)] := hf1
  subst hf1
  obtain ⟨c0, c1, c2, c3, c4, c5, c6, c7⟩ := (h.same s1).blk.cls
  apply W.readS LO mixed [2] (by kernel_rfl)
  · repeat' (first | rfl | with_reducible assumption | assumption | constructor)
  intro w2 f2 s2 hf2
  replace hf2 : f2 = [(2, _)] := hf2
  subst hf2
  exact W.ret (post LO (rs := [.tmp 2]) rfl (vs := [.int .i64 d.pl]) (.tmp rfl .nil) ⟨rfl, s1.trans s2⟩)
theorem done_says (p m : Nat) (d : DS) (w : World) (h : DirAt w p m d) : Calls Try.prog 15 #[.pointer (some ⟨p, 0, none⟩)] w (Says w (.bool d.done)) := by
  refine calls_W (n := 7) (vs := [.pointer (some ⟨p, 0, none⟩)]) Try.func15 rfl rfl rfl ?_
  apply W.readS LO mixed [0] (by kernel_rfl)
  · repeat' (first | rfl | with_reducible assumption | assumption | constructor)
  intro w1 f1 s1 hf1
  replace hf1 : f1 = [(0, _)] := hf1
  subst hf1
  obtain ⟨c0, c1, c2, c3, c4, c5, c6, c7⟩ := (h.same s1).blk.cls
  apply W.readS LO mixed [2] (by kernel_rfl)
  · repeat' (first | rfl | with_reducible assumption | assumption | constructor)
  intro w2 f2 s2 hf2
  replace hf2 : f2 = [(2, _)] := hf2
  subst hf2
  exact W.ret (post LO (rs := [.tmp 2]) rfl (vs := [.bool d.done]) (.tmp rfl .nil) ⟨rfl, s1.trans s2⟩)
theorem waits_says (p m : Nat) (d : DS) (w : World) (h : DirAt w p m d) : Calls Try.prog 14 #[.pointer (some ⟨p, 0, none⟩)] w (Says w (.int .i64 d.held.length)) := by
  refine calls_W (n := 8) (vs := [.pointer (some ⟨p, 0, none⟩)]) Try.func14 rfl rfl rfl ?_
  apply W.readS LO mixed [0] (by kernel_rfl)
  · repeat' (first | rfl | with_reducible assumption | assumption | constructor)
  intro w1 f1 s1 hf1
  replace hf1 : f1 = [(0, _)] := hf1
  subst hf1
  obtain ⟨c0, c1, c2, c3, c4, c5, c6, c7⟩ := (h.same s1).blk.cls
  have hl := len_same (P := Try.prog) (h.same s1).map Try.underlying51
  apply W.readS LO mixed [2] (by kernel_rfl)
  · repeat' (first | rfl | with_reducible assumption | assumption | constructor)
  intro w2 f2 s2 hf2
  replace hf2 : f2 = [(2, _)] := hf2
  subst hf2
  exact W.ret (post LO (rs := [.tmp 2]) rfl (vs := [.int .i64 d.held.length]) (.tmp rfl .nil) ⟨rfl, s1.trans s2⟩)
theorem plus_says (a n : Int) (w : World) : Calls Try.prog 32 #[.int .u32 a, .int .i64 n] w (Says w (.int .u32 ((a + n % 4294967296) % 4294967296))) := (plus_any a n w).mono fun e w' ⟨h1, h2⟩ => ⟨h1, by rw [h2]; exact ⟨rfl, rfl, rfl, rfl⟩⟩
/-- A quiet contract, for a region. -/
theorem quiet_of {P : Program} {g : Nat} {args : Array Value} {v : Value} {w : World} (h : ∀ w', Same w w' → Calls P g args w' (Says w' v)) : ∀ w', Same w w' → Calls P g args w' fun e w'' => e = .returned v ∧ Same w w'' :=
  fun w' hs => (h w' hs).mono fun e w'' ⟨he, hw⟩ => ⟨he, hs.trans hw⟩
theorem seq_says (p m : Nat) (d : DS) (x : Int) (w : World) (h : DirAt w p m d) : Calls Try.prog 19 #[.pointer (some ⟨p, 0, none⟩), .int .i64 x] w (Says w (.int .u32 ((d.start + x % 4294967296) % 4294967296))) := by
  refine calls_W (n := 11) (vs := [.pointer (some ⟨p, 0, none⟩), .int .i64 x]) Try.func19 rfl rfl rfl ?_
  apply W.readS LO mixed [0, 1] (by kernel_rfl)
  · repeat' (first | rfl | with_reducible assumption | assumption | constructor)
  intro w1 f1 s1 hf1
  replace hf1 : f1 = [(0, _), (1, _)] := hf1
  subst hf1
  obtain ⟨c0, c1, c2, c3, c4, c5, c6, c7⟩ := (h.same s1).blk.cls
  have q := quiet_of (w := w1) fun w' _ => plus_says d.start x w'
  apply W.readS LO mixed [4] (by kernel_rfl)
  · repeat' (first | rfl | with_reducible assumption | assumption | constructor)
  intro w2 f2 s2 hf2
  replace hf2 : f2 = [(4, _)] := hf2
  subst hf2
  exact W.ret (post LO (rs := [.tmp 4]) rfl (vs := [.int .u32 _]) (.tmp rfl .nil) ⟨rfl, s1.trans s2⟩)
def pmod (v n : Int) : Int := v % n
theorem place00_says (v n : Int) (w : World) (hn : 0 < n) (hn1 : n ≤ 9223372036854775807) (hv : -9223372036854775808 ≤ v) (hv1 : v ≤ 9223372036854775807) :
    Calls Try.prog 10 #[.int .i64 v, .int .i64 n] w (Says w (.int .i64 (v % n))) := by
  refine calls_W (n := 15) (vs := [.int .i64 v, .int .i64 n]) Try.func10 rfl rfl rfl ?_
  apply W.readS LO mixed [0, 1] (by kernel_rfl)
  · repeat' (first | rfl | with_reducible assumption | assumption | constructor)
  intro w1 f1 s1 hf1
  replace hf1 : f1 = [(0, _), (1, _)] := hf1
  subst hf1
  have hne : n ≠ 0 := by omega
  have hmod : v % n = v.tmod n ∨ v % n = v.tmod n + n ∧ v.tmod n < 0 := by
    rcases Int.lt_or_le v 0 with h | h
    · have e1 : v.tmod n = -((-v) % n) := by
        have := Int.neg_tmod (a := -v) (b := n)
        rw [Int.neg_neg] at this
        rw [this, Int.tmod_eq_emod_of_nonneg (by omega)]
      have e2 : v % n = if (-v) % n = 0 then 0 else n - (-v) % n := by
        have := Int.neg_emod (a := -v) (b := n)
        rw [Int.neg_neg] at this
        rw [this]
        simp only [Int.dvd_iff_emod_eq_zero]
        split <;> omega
      have h4 := Int.emod_nonneg (-v) hne
      have h5 := Int.emod_lt_of_pos (-v) hn
      rw [e1, e2]
      by_cases h0 : (-v) % n = 0
      · left; rw [if_pos h0]; omega
      · right; rw [if_neg h0]; omega
    · left; exact (Int.tmod_eq_emod_of_nonneg h).symm
  have hlo := Int.emod_nonneg v hne
  have hhi := Int.emod_lt_of_pos v hn
  apply W.readS LO mixed [0, 1, 5] (by kernel_rfl)
  · repeat' (first | rfl | with_reducible assumption | assumption | constructor)
  intro w2 f2 s2 hf2
  replace hf2 : f2 = [(0, _), (1, _), (5, _)] := hf2
  subst hf2
  refine W.cutS (fun w' g => Same w2 w' ∧ g = [(5, .int .i64 (v % n))]) ?_ ?_
  · rcases hmod with hm | ⟨hm, hneg⟩
    · have k1 : Kn (decide (v.tmod n < 0)) false := .no (by omega)
      apply W.readS LO mixed [5, 10] (by kernel_rfl)
      · repeat' (first | rfl | with_reducible assumption | assumption | constructor)
      intro w3 f3 s3 hf3
      replace hf3 : f3 = [(5, _), (10, _)] := hf3
      subst hf3
      refine W.cond (b := false) rfl (fun h => by cases h) (fun _ => W.skip ?_)
      exact N.cut ⟨s3, rfl⟩ (sub_keys (by rw [hm]; rfl))
    · have k1 : Kn (decide (v.tmod n < 0)) true := .yes hneg
      have k2 : Kn (IntKind.i64.wrap (v.tmod n + n)) (v % n) := .of (by rw [hm]; exact IntWalk.i64_in _ (by omega))
      apply W.readS LO mixed [0, 1, 5, 10] (by kernel_rfl)
      · repeat' (first | rfl | with_reducible assumption | assumption | constructor)
      intro w3 f3 s3 hf3
      replace hf3 : f3 = [(0, _), (1, _), (5, _), (10, _)] := hf3
      subst hf3
      refine W.cond (b := true) rfl (fun _ => ?_) (fun h => by cases h)
      apply W.readN LO mixed [5] (by kernel_rfl)
      · repeat' (first | rfl | with_reducible assumption | assumption | constructor)
      intro w4 f4 s4 hf4
      replace hf4 : f4 = [(5, _)] := hf4
      subst hf4
      exact N.cut ⟨s3.trans s4, rfl⟩ (sub_keys rfl)
  · rintro w3 _ ⟨s3, rfl⟩
    apply W.readS LO mixed [4] (by kernel_rfl)
    · repeat' (first | rfl | with_reducible assumption | assumption | constructor)
    intro w4 f4 s4 hf4
    replace hf4 : f4 = [(4, _)] := hf4
    subst hf4
    exact W.ret (post LO (rs := [.tmp 4]) rfl (vs := [.int .i64 _]) (.tmp rfl .nil) ⟨rfl, ((s1.trans s2).trans s3).trans s4⟩)
end Go.Proofs.Ytieolnekccacbaa
