/- What is proved: the law of parts that may not be. Conditions: those that stand in each theorem. -/
import Derived.Test.YtnghmaejmfhigaaDefAwake
import Derived.OpenShut
namespace Go.Proofs.Ytnghmaejmfhigaa
set_option linter.unusedVariables false
set_option linter.unusedSimpArgs false
set_option linter.unusedSectionVars false
open Go.RowKit Go.Maps Go.MapKept Go.ChangeMaps Fw
def s8 : ByteArray := ⟨#[49, 50, 51, 52, 53, 54, 55, 56]⟩
def s7 : ByteArray := ⟨#[49, 50, 51, 52, 53, 54, 55]⟩
def iP : IPV := ⟨0, 5, true, false, 0, 0, 0, 0, 0, ⟨#[]⟩⟩
def i0 : IPV := ⟨0, 5, true, false, 8, 0, 0, 0, 0, ⟨#[]⟩⟩
def i1 : IPV := ⟨0, 5, false, false, 8, 0, 0, 0, 0, ⟨#[]⟩⟩
def i2 : IPV := ⟨0, 5, false, false, 1992, 0, 0, 0, 0, ⟨#[]⟩⟩
def i3 : IPV := ⟨0, 5, false, false, 0, 0, 0, 0, 0, ⟨#[]⟩⟩
def i4 (o : Int) : IPV := ⟨0, 5, true, false, o, 0, 0, 0, 0, ⟨#[]⟩⟩
def T1 : List (KeyV × EV) := (TVadd 3 [] iP s8).1
theorem wr_len : T1.length = 1 := by kernel_rfl
theorem wr_all : allB T1 = true := by kernel_rfl
theorem wr_r0 (s : ByteArray) (h1 : 1 ≤ s.size) (h2 : s.size ≤ 7) : TVadd 3 T1 i0 s = (T1, ⟨#[]⟩, false, 3) := by
  unfold TVadd
  rw [if_neg (by decide), if_pos (.inr (.inl ⟨rfl, by omega⟩))]
theorem wr_r1 : TVadd 3 T1 i1 ⟨#[]⟩ = (T1, ⟨#[]⟩, false, 3) := by
  unfold TVadd
  rw [if_neg (by decide), if_pos (.inl rfl)]
theorem wr_f2 : (T1.filter (fun p => p.1 != i2.key)) = [] := by kernel_rfl
theorem wr_r2 (s : ByteArray) (h1 : 9 ≤ s.size) (h2 : s.size ≤ 15) : TVadd 3 T1 i2 s = ([], ⟨#[]⟩, false, 5) := by
  unfold TVadd
  rw [if_neg (by decide), if_neg (by rintro (h | h | h); omega; exact absurd h.1 (by decide); exact absurd h (by decide)), if_pos (.inr (by show 2000 - (s.size : Int) < 1992; omega)), wr_f2]
theorem wr_r3 (s : ByteArray) : TVadd 3 T1 i3 s = (T1, s, true, 0) := by
  unfold TVadd
  rw [if_pos (by decide)]
theorem wr_r4 (o : Int) (s : ByteArray) (h : o < 0) : TVadd 3 T1 (i4 o) s = (T1, ⟨#[]⟩, false, 3) := by
  unfold TVadd
  rw [if_neg (by intro h; cases h.1), if_pos (.inr (.inr h))]
set_option maxRecDepth 100000 in
set_option maxHeartbeats 4000000 in
theorem wrong_walk (how v : Int) (w : World) (hh : -9223372036854775808 ≤ how ∧ how ≤ 9223372036854775807) (hv : -9223372036854775808 ≤ v ∧ v ≤ 9223372036854775807) :
    Calls Try.prog 3 #[.int .i64 how, .int .i64 v] w (Yes w) := by
  refine calls_W (n := 156) (vs := [.int .i64 how, .int .i64 v]) Try.func3 rfl rfl rfl ?_
  apply W.readS LO mixed [0, 1] (by kernel_rfl)
  · repeat' (first | rfl | with_reducible assumption | assumption | constructor)
  intro w1 f1 s1 hf1
  replace hf1 : f1 = [(0, _), (1, _)] := hf1
  subst hf1
  refine W.seq (W.list ?_)
  refine Ls.call LO rfl rfl rfl rfl rfl (vs := [.int .i64 3, .int .i64 9]) rfl (ts_new w w1 3 9 ((Mv.refl _ w).same s1)) ?_
  rintro _ w2 ⟨t, rfl, hS⟩
  refine ⟨_, rfl, ?_⟩
  apply Ls.runK LO [0, 1, 5] 1
  · repeat' (first | rfl | with_reducible assumption | assumption | constructor)
  intro w3 f3 s3 hf3
  replace hf3 : f3 = [(0, _), (1, _), (5, _)] := hf3
  subst hf3
  refine Ls.nil (N.to ?_)
  have hS : TS w w3 t 3 9 [] := hS.same s3
  refine W.cutS (fun w' g => TS w w' t 3 9 [] ∧ g = [(0, .int .i64 how), (1, .int .i64 v), (5, .pointer (some ⟨t, 0, none⟩))]) ?_ ?_
  ·
    apply W.readS LO mixed [0, 1, 5, 24] (by kernel_rfl)
    · repeat' (first | rfl | with_reducible assumption | assumption | constructor)
    intro w4 f4 s4 hf4
    replace hf4 : f4 = [(0, _), (1, _), (5, _), (24, _)] := hf4
    subst hf4
    refine W.cond (b := false) rfl (fun h => by cases h) (fun _ => W.skip ?_)
    exact N.cut ⟨hS.same s4, rfl⟩ (sub_keys rfl)
  rintro w4 _ ⟨hS, rfl⟩
  refine W.seq (W.list ?_)
  apply Ls.runK LO [0, 1, 5, 25, 26] 2
  · repeat' (first | rfl | with_reducible assumption | assumption | constructor)
  intro w5 f5 s5 hf5
  replace hf5 : f5 = [(0, _), (1, _), (5, _), (25, _), (26, _)] := hf5
  subst hf5
  refine Ls.call LO rfl rfl rfl rfl rfl (vs := [.pointer (some ⟨t, 0, none⟩), .agg (ipVs iP).toArray, .string s8]) rfl (ts_add w w5 t 3 9 [] iP s8 (hS.same s5) (ipok iP rfl rfl rfl rfl (by decide)) (by decide) rfl) ?_
  rintro _ w6 ⟨rfl, hS⟩
  refine ⟨_, rfl, ?_⟩
  refine Ls.nil (N.to ?_)
  have hS : TS w w6 t 3 9 T1 := hS
  have qv : ∀ w', Same w6 w' → Calls Try.prog 10 #[.int .i64 v, .int .i64 7] w' fun e w'' => e = .returned (.int .i64 (v % 7)) ∧ Same w6 w'' := quiet_of (w := w6) fun w' _ => place00_says v 7 w' (by decide) (by decide) hv.1 hv.2
  obtain ⟨kk, hkk⟩ : ∃ kk : Int, kk = 1 + v % 7 := ⟨_, rfl⟩
  have hk : 1 ≤ kk ∧ kk ≤ 7 := by omega
  have k1 : Kn (IntKind.i64.wrap (1 + v % 7)) kk := .of (by rw [← hkk]; exact IntWalk.i64_in _ (by omega))
  refine W.weak (g := [(0, .int .i64 how), (1, .int .i64 v), (5, .pointer (some ⟨t, 0, none⟩))]) ?_ (sub_keys rfl)
  apply W.readS LO mixed [0, 5, 6] (by kernel_rfl)
  · repeat' (first | rfl | with_reducible assumption | assumption | constructor)
  intro w7 f7 s7 hf7
  replace hf7 : f7 = [(0, _), (5, _), (6, _)] := hf7
  subst hf7
  have hS := hS.same s7
  have qh : ∀ w', Same w7 w' → Calls Try.prog 10 #[.int .i64 how, .int .i64 5] w' fun e w'' => e = .returned (.int .i64 (how % 5)) ∧ Same w7 w'' := quiet_of (w := w7) fun w' _ => place00_says how 5 w' (by decide) (by decide) hh.1 hh.2
  have hhr : 0 ≤ how % 5 ∧ how % 5 < 5 := by omega
  generalize how % 5 = hw at qh hhr
  clear k1 hkk qv s1 s3 s5 s7
  have hsz : ((s7.extract 0 kk.toNat).size : Int) = kk := by rw [ByteArray.size_extract]; show ((min kk.toNat 7 - 0 : Nat) : Int) = kk; omega
  have b0 : 0 ≤ kk := by omega
  have b1 : kk ≤ (((⟨#[49, 50, 51, 52, 53, 54, 55]⟩ : ByteArray).size : Nat) : Int) := hk.2
  have bs : (⟨#[49, 50, 51, 52, 53, 54, 55, 56]⟩ : ByteArray).size + ((⟨#[49, 50, 51, 52, 53, 54, 55]⟩ : ByteArray).extract 0 kk.toNat).size ≤ 9223372036854775807 := by
    have : ((⟨#[49, 50, 51, 52, 53, 54, 55]⟩ : ByteArray).extract 0 kk.toNat).size = (s7.extract 0 kk.toNat).size := rfl
    rw [this]; show 8 + _ ≤ _; omega
  rcases (show hw = 0 ∨ hw = 1 ∨ hw = 2 ∨ hw = 3 ∨ hw = 4 by omega) with rfl | rfl | rfl | rfl | rfl
  · refine W.cutS (fun _ _ => False) ?_ (fun _ _ h => h.elim)
    apply W.readS LO mixed [5, 6, 32] (by kernel_rfl)
    · repeat' (first | rfl | with_reducible assumption | assumption | constructor)
    intro w8 f8 s8' hf8
    replace hf8 : f8 = [(5, _), (6, _), (32, _)] := hf8
    subst hf8
    have hS := hS.same s8'
    refine W.block ?_
    have e0 : Kn ((0 : Int) == 0) true := .of rfl
    apply W.readS LO mixed [5, 6, 32, 33] (by kernel_rfl)
    · repeat' (first | rfl | with_reducible assumption | assumption | constructor)
    intro wd0 fd0 sd0 hfd0
    replace hfd0 : fd0 = [(5, _), (6, _), (32, _), (33, _)] := hfd0
    subst hfd0
    have hS := hS.same sd0
    refine W.cond (b := true) rfl (fun _ => ?_) (fun h => by cases h)
    refine W.seq (W.list ?_)
    apply Ls.runK LO [5, 36, 37, 39] 4
    · repeat' (first | rfl | with_reducible assumption | assumption | constructor)
    intro w9 f9 s9 hf9
    replace hf9 : f9 = [(5, _), (36, _), (37, _), (39, _)] := hf9
    subst hf9
    refine Ls.call LO rfl rfl rfl rfl rfl (vs := [.pointer (some ⟨t, 0, none⟩), .agg (ipVs i0).toArray, .string (s7.extract 0 kk.toNat)]) rfl (ts_add w w9 t 3 9 T1 i0 (s7.extract 0 kk.toNat) (hS.same s9) (ipok i0 rfl rfl rfl rfl (by decide)) (by omega) wr_all) ?_
    rintro _ w10 ⟨rfl, hS⟩
    refine ⟨_, rfl, ?_⟩
    rw [wr_r0 _ (by omega) (by omega)] at hS ⊢
    apply Ls.runK LO [5, 8, 9] 7
    · repeat' (first | rfl | with_reducible assumption | assumption | constructor)
    intro w11 f11 s11 hf11
    replace hf11 : f11 = [(5, _), (8, _), (9, _)] := hf11
    subst hf11
    refine Ls.nil (N.to ?_)
    have hS := hS.same s11
    refine W.seq (W.list ?_)
    have q1 := quiet_of (w := w11) fun w' s' => ts_len w w' t 3 9 _ (hS.same s')
    rw [wr_len] at q1
    apply Ls.runK LO [55] 12
    · repeat' (first | rfl | with_reducible assumption | assumption | constructor)
    intro w12 f12 s12 hf12
    replace hf12 : f12 = [(55, _)] := hf12
    subst hf12
    refine Ls.call LO rfl rfl rfl rfl rfl (vs := []) rfl (awake_walk w12) ?_
    rintro _ w13 ⟨rfl, hm13⟩
    refine ⟨_, rfl, ?_⟩
    apply Ls.runK LO [4] 2
    · repeat' (first | rfl | with_reducible assumption | assumption | constructor)
    intro w14 f14 s14 hf14
    replace hf14 : f14 = [(4, _)] := hf14
    subst hf14
    refine Ls.nil (N.to (W.ret (N.inbR (N.thenR ?_))))
    exact post (fn := Try.f3) (R := Yes w) LO (rs := [.tmp 4]) rfl (vs := [.bool true]) (.tmp rfl .nil) ⟨rfl, (((hS.mv.same s12).trans hm13).same s14)⟩
  · refine W.cutS (fun _ _ => False) ?_ (fun _ _ h => h.elim)
    apply W.readS LO mixed [5, 6, 32] (by kernel_rfl)
    · repeat' (first | rfl | with_reducible assumption | assumption | constructor)
    intro w8 f8 s8' hf8
    replace hf8 : f8 = [(5, _), (6, _), (32, _)] := hf8
    subst hf8
    have hS := hS.same s8'
    refine W.block ?_
    have e0 : Kn ((1 : Int) == 0) false := .of rfl
    apply W.readS LO mixed [5, 6, 32, 33] (by kernel_rfl)
    · repeat' (first | rfl | with_reducible assumption | assumption | constructor)
    intro wd0 fd0 sd0 hfd0
    replace hfd0 : fd0 = [(5, _), (6, _), (32, _), (33, _)] := hfd0
    subst hfd0
    have hS := hS.same sd0
    refine W.cond (b := false) rfl (fun h => by cases h) (fun _ => ?_)
    have e1 : Kn ((1 : Int) == 1) true := .of rfl
    apply W.readS LO mixed [5, 6, 32, 58] (by kernel_rfl)
    · repeat' (first | rfl | with_reducible assumption | assumption | constructor)
    intro wd1 fd1 sd1 hfd1
    replace hfd1 : fd1 = [(5, _), (6, _), (32, _), (58, _)] := hfd1
    subst hfd1
    have hS := hS.same sd1
    refine W.cond (b := true) rfl (fun _ => ?_) (fun h => by cases h)
    refine W.seq (W.list ?_)
    apply Ls.runK LO [5, 61, 62] 2
    · repeat' (first | rfl | with_reducible assumption | assumption | constructor)
    intro w9 f9 s9 hf9
    replace hf9 : f9 = [(5, _), (61, _), (62, _)] := hf9
    subst hf9
    refine Ls.call LO rfl rfl rfl rfl rfl (vs := [.pointer (some ⟨t, 0, none⟩), .agg (ipVs i1).toArray, .string ⟨#[]⟩]) rfl (ts_add w w9 t 3 9 T1 i1 ⟨#[]⟩ (hS.same s9) (ipok i1 rfl rfl rfl rfl (by decide)) (by decide) wr_all) ?_
    rintro _ w10 ⟨rfl, hS⟩
    refine ⟨_, rfl, ?_⟩
    rw [wr_r1] at hS ⊢
    apply Ls.runK LO [5, 11, 12] 7
    · repeat' (first | rfl | with_reducible assumption | assumption | constructor)
    intro w11 f11 s11 hf11
    replace hf11 : f11 = [(5, _), (11, _), (12, _)] := hf11
    subst hf11
    refine Ls.nil (N.to ?_)
    have hS := hS.same s11
    refine W.seq (W.list ?_)
    have q1 := quiet_of (w := w11) fun w' s' => ts_len w w' t 3 9 _ (hS.same s')
    rw [wr_len] at q1
    apply Ls.runK LO [78] 12
    · repeat' (first | rfl | with_reducible assumption | assumption | constructor)
    intro w12 f12 s12 hf12
    replace hf12 : f12 = [(78, _)] := hf12
    subst hf12
    refine Ls.call LO rfl rfl rfl rfl rfl (vs := []) rfl (awake_walk w12) ?_
    rintro _ w13 ⟨rfl, hm13⟩
    refine ⟨_, rfl, ?_⟩
    apply Ls.runK LO [4] 2
    · repeat' (first | rfl | with_reducible assumption | assumption | constructor)
    intro w14 f14 s14 hf14
    replace hf14 : f14 = [(4, _)] := hf14
    subst hf14
    refine Ls.nil (N.to (W.ret (N.inbR (N.thenR ?_))))
    exact post (fn := Try.f3) (R := Yes w) LO (rs := [.tmp 4]) rfl (vs := [.bool true]) (.tmp rfl .nil) ⟨rfl, (((hS.mv.same s12).trans hm13).same s14)⟩
  · refine W.cutS (fun _ _ => False) ?_ (fun _ _ h => h.elim)
    apply W.readS LO mixed [5, 6, 32] (by kernel_rfl)
    · repeat' (first | rfl | with_reducible assumption | assumption | constructor)
    intro w8 f8 s8' hf8
    replace hf8 : f8 = [(5, _), (6, _), (32, _)] := hf8
    subst hf8
    have hS := hS.same s8'
    refine W.block ?_
    have e0 : Kn ((2 : Int) == 0) false := .of rfl
    apply W.readS LO mixed [5, 6, 32, 33] (by kernel_rfl)
    · repeat' (first | rfl | with_reducible assumption | assumption | constructor)
    intro wd0 fd0 sd0 hfd0
    replace hfd0 : fd0 = [(5, _), (6, _), (32, _), (33, _)] := hfd0
    subst hfd0
    have hS := hS.same sd0
    refine W.cond (b := false) rfl (fun h => by cases h) (fun _ => ?_)
    have e1 : Kn ((2 : Int) == 1) false := .of rfl
    apply W.readS LO mixed [5, 6, 32, 58] (by kernel_rfl)
    · repeat' (first | rfl | with_reducible assumption | assumption | constructor)
    intro wd1 fd1 sd1 hfd1
    replace hfd1 : fd1 = [(5, _), (6, _), (32, _), (58, _)] := hfd1
    subst hfd1
    have hS := hS.same sd1
    refine W.cond (b := false) rfl (fun h => by cases h) (fun _ => ?_)
    have e2 : Kn ((2 : Int) == 2) true := .of rfl
    apply W.readS LO mixed [5, 6, 32, 81] (by kernel_rfl)
    · repeat' (first | rfl | with_reducible assumption | assumption | constructor)
    intro wd2 fd2 sd2 hfd2
    replace hfd2 : fd2 = [(5, _), (6, _), (32, _), (81, _)] := hfd2
    subst hfd2
    have hS := hS.same sd2
    refine W.cond (b := true) rfl (fun _ => ?_) (fun h => by cases h)
    refine W.seq (W.list ?_)
    apply Ls.runK LO [5, 84, 85, 88] 5
    · repeat' (first | rfl | with_reducible assumption | assumption | constructor)
    intro w9 f9 s9 hf9
    replace hf9 : f9 = [(5, _), (84, _), (85, _), (88, _)] := hf9
    subst hf9
    refine Ls.call LO rfl rfl rfl rfl rfl (vs := [.pointer (some ⟨t, 0, none⟩), .agg (ipVs i2).toArray, .string (s8 ++ s7.extract 0 kk.toNat)]) rfl (ts_add w w9 t 3 9 T1 i2 (s8 ++ s7.extract 0 kk.toNat) (hS.same s9) (ipok i2 rfl rfl rfl rfl (by decide)) (by rw [ByteArray.size_append]; show 8 + _ ≤ _; omega) wr_all) ?_
    rintro _ w10 ⟨rfl, hS⟩
    refine ⟨_, rfl, ?_⟩
    rw [wr_r2 _ (by rw [ByteArray.size_append]; show 9 ≤ 8 + _; omega) (by rw [ByteArray.size_append]; show 8 + _ ≤ 15; omega)] at hS ⊢
    apply Ls.runK LO [5, 14, 15] 7
    · repeat' (first | rfl | with_reducible assumption | assumption | constructor)
    intro w11 f11 s11 hf11
    replace hf11 : f11 = [(5, _), (14, _), (15, _)] := hf11
    subst hf11
    refine Ls.nil (N.to ?_)
    have hS := hS.same s11
    refine W.seq (W.list ?_)
    have q1 := quiet_of (w := w11) fun w' s' => ts_len w w' t 3 9 _ (hS.same s')
    apply Ls.runK LO [104] 12
    · repeat' (first | rfl | with_reducible assumption | assumption | constructor)
    intro w12 f12 s12 hf12
    replace hf12 : f12 = [(104, _)] := hf12
    subst hf12
    refine Ls.call LO rfl rfl rfl rfl rfl (vs := []) rfl (awake_walk w12) ?_
    rintro _ w13 ⟨rfl, hm13⟩
    refine ⟨_, rfl, ?_⟩
    apply Ls.runK LO [4] 2
    · repeat' (first | rfl | with_reducible assumption | assumption | constructor)
    intro w14 f14 s14 hf14
    replace hf14 : f14 = [(4, _)] := hf14
    subst hf14
    refine Ls.nil (N.to (W.ret (N.inbR (N.thenR ?_))))
    exact post (fn := Try.f3) (R := Yes w) LO (rs := [.tmp 4]) rfl (vs := [.bool true]) (.tmp rfl .nil) ⟨rfl, (((hS.mv.same s12).trans hm13).same s14)⟩
  · refine W.cutS (fun _ _ => False) ?_ (fun _ _ h => h.elim)
    apply W.readS LO mixed [5, 6, 32] (by kernel_rfl)
    · repeat' (first | rfl | with_reducible assumption | assumption | constructor)
    intro w8 f8 s8' hf8
    replace hf8 : f8 = [(5, _), (6, _), (32, _)] := hf8
    subst hf8
    have hS := hS.same s8'
    refine W.block ?_
    have e0 : Kn ((3 : Int) == 0) false := .of rfl
    apply W.readS LO mixed [5, 6, 32, 33] (by kernel_rfl)
    · repeat' (first | rfl | with_reducible assumption | assumption | constructor)
    intro wd0 fd0 sd0 hfd0
    replace hfd0 : fd0 = [(5, _), (6, _), (32, _), (33, _)] := hfd0
    subst hfd0
    have hS := hS.same sd0
    refine W.cond (b := false) rfl (fun h => by cases h) (fun _ => ?_)
    have e1 : Kn ((3 : Int) == 1) false := .of rfl
    apply W.readS LO mixed [5, 6, 32, 58] (by kernel_rfl)
    · repeat' (first | rfl | with_reducible assumption | assumption | constructor)
    intro wd1 fd1 sd1 hfd1
    replace hfd1 : fd1 = [(5, _), (6, _), (32, _), (58, _)] := hfd1
    subst hfd1
    have hS := hS.same sd1
    refine W.cond (b := false) rfl (fun h => by cases h) (fun _ => ?_)
    have e2 : Kn ((3 : Int) == 2) false := .of rfl
    apply W.readS LO mixed [5, 6, 32, 81] (by kernel_rfl)
    · repeat' (first | rfl | with_reducible assumption | assumption | constructor)
    intro wd2 fd2 sd2 hfd2
    replace hfd2 : fd2 = [(5, _), (6, _), (32, _), (81, _)] := hfd2
    subst hfd2
    have hS := hS.same sd2
    refine W.cond (b := false) rfl (fun h => by cases h) (fun _ => ?_)
    have e3 : Kn ((3 : Int) == 3) true := .of rfl
    apply W.readS LO mixed [5, 6, 32, 107] (by kernel_rfl)
    · repeat' (first | rfl | with_reducible assumption | assumption | constructor)
    intro wd3 fd3 sd3 hfd3
    replace hfd3 : fd3 = [(5, _), (6, _), (32, _), (107, _)] := hfd3
    subst hfd3
    have hS := hS.same sd3
    refine W.cond (b := true) rfl (fun _ => ?_) (fun h => by cases h)
    refine W.seq (W.list ?_)
    have kw : Kn ((⟨#[119, 104, 111, 108, 101]⟩ : ByteArray).toList == (⟨#[119, 104, 111, 108, 101]⟩ : ByteArray).toList) true := .of (beq_self_eq_true _)
    apply Ls.runK LO [5, 110, 111] 2
    · repeat' (first | rfl | with_reducible assumption | assumption | constructor)
    intro w9 f9 s9 hf9
    replace hf9 : f9 = [(5, _), (110, _), (111, _)] := hf9
    subst hf9
    refine Ls.call LO rfl rfl rfl rfl rfl (vs := [.pointer (some ⟨t, 0, none⟩), .agg (ipVs i3).toArray, .string ⟨#[119, 104, 111, 108, 101]⟩]) rfl (ts_add w w9 t 3 9 T1 i3 ⟨#[119, 104, 111, 108, 101]⟩ (hS.same s9) (ipok i3 rfl rfl rfl rfl (by decide)) (by decide) wr_all) ?_
    rintro _ w10 ⟨rfl, hS⟩
    refine ⟨_, rfl, ?_⟩
    rw [wr_r3] at hS ⊢
    apply Ls.runK LO [5, 16, 17, 18] 7
    · repeat' (first | rfl | with_reducible assumption | assumption | constructor)
    intro w11 f11 s11 hf11
    replace hf11 : f11 = [(5, _), (16, _), (17, _), (18, _)] := hf11
    subst hf11
    refine Ls.nil (N.to ?_)
    have hS := hS.same s11
    refine W.seq (W.list ?_)
    have q1 := quiet_of (w := w11) fun w' s' => ts_len w w' t 3 9 _ (hS.same s')
    rw [wr_len] at q1
    apply Ls.runK LO [130] 15
    · repeat' (first | rfl | with_reducible assumption | assumption | constructor)
    intro w12 f12 s12 hf12
    replace hf12 : f12 = [(130, _)] := hf12
    subst hf12
    refine Ls.call LO rfl rfl rfl rfl rfl (vs := []) rfl (awake_walk w12) ?_
    rintro _ w13 ⟨rfl, hm13⟩
    refine ⟨_, rfl, ?_⟩
    apply Ls.runK LO [4] 2
    · repeat' (first | rfl | with_reducible assumption | assumption | constructor)
    intro w14 f14 s14 hf14
    replace hf14 : f14 = [(4, _)] := hf14
    subst hf14
    refine Ls.nil (N.to (W.ret (N.inbR (N.thenR ?_))))
    exact post (fn := Try.f3) (R := Yes w) LO (rs := [.tmp 4]) rfl (vs := [.bool true]) (.tmp rfl .nil) ⟨rfl, (((hS.mv.same s12).trans hm13).same s14)⟩
  · refine W.cutS (fun w' g => TS w w' t 3 9 T1 ∧ g = [(5, .pointer (some ⟨t, 0, none⟩)), (6, .int .i64 kk)]) ?_ ?_
    ·
      apply W.readS LO mixed [5, 6, 32] (by kernel_rfl)
      · repeat' (first | rfl | with_reducible assumption | assumption | constructor)
      intro w8 f8 s8' hf8
      replace hf8 : f8 = [(5, _), (6, _), (32, _)] := hf8
      subst hf8
      have hS := hS.same s8'
      refine W.block ?_
      have e0 : Kn ((4 : Int) == 0) false := .of rfl
      apply W.readS LO mixed [5, 6, 32, 33] (by kernel_rfl)
      · repeat' (first | rfl | with_reducible assumption | assumption | constructor)
      intro wd0 fd0 sd0 hfd0
      replace hfd0 : fd0 = [(5, _), (6, _), (32, _), (33, _)] := hfd0
      subst hfd0
      have hS := hS.same sd0
      refine W.cond (b := false) rfl (fun h => by cases h) (fun _ => ?_)
      have e1 : Kn ((4 : Int) == 1) false := .of rfl
      apply W.readS LO mixed [5, 6, 32, 58] (by kernel_rfl)
      · repeat' (first | rfl | with_reducible assumption | assumption | constructor)
      intro wd1 fd1 sd1 hfd1
      replace hfd1 : fd1 = [(5, _), (6, _), (32, _), (58, _)] := hfd1
      subst hfd1
      have hS := hS.same sd1
      refine W.cond (b := false) rfl (fun h => by cases h) (fun _ => ?_)
      have e2 : Kn ((4 : Int) == 2) false := .of rfl
      apply W.readS LO mixed [5, 6, 32, 81] (by kernel_rfl)
      · repeat' (first | rfl | with_reducible assumption | assumption | constructor)
      intro wd2 fd2 sd2 hfd2
      replace hfd2 : fd2 = [(5, _), (6, _), (32, _), (81, _)] := hfd2
      subst hfd2
      have hS := hS.same sd2
      refine W.cond (b := false) rfl (fun h => by cases h) (fun _ => ?_)
      have e3 : Kn ((4 : Int) == 3) false := .of rfl
      apply W.readS LO mixed [5, 6, 32, 107] (by kernel_rfl)
      · repeat' (first | rfl | with_reducible assumption | assumption | constructor)
      intro wd3 fd3 sd3 hfd3
      replace hfd3 : fd3 = [(5, _), (6, _), (32, _), (107, _)] := hfd3
      subst hfd3
      have hS := hS.same sd3
      refine W.cond (b := false) rfl (fun h => by cases h) (fun _ => ?_)
      exact W.skip (N.inb (N.cut ⟨hS, rfl⟩ (sub_keys rfl)))
    rintro w9' _ ⟨hS, rfl⟩
    have ko : Kn (IntKind.i64.wrap (-8 * kk)) (-8 * kk) := .of (IntWalk.i64_in _ (by omega))
    refine W.seq (W.list ?_)
    apply Ls.runK LO [5, 134, 137] 4
    · repeat' (first | rfl | with_reducible assumption | assumption | constructor)
    intro w9 f9 s9 hf9
    replace hf9 : f9 = [(5, _), (134, _), (137, _)] := hf9
    subst hf9
    refine Ls.call LO rfl rfl rfl rfl rfl (vs := [.pointer (some ⟨t, 0, none⟩), .agg (ipVs (i4 (-8 * kk))).toArray, .string s8]) rfl (ts_add w w9 t 3 9 T1 (i4 (-8 * kk)) s8 (hS.same s9) (ipok (i4 (-8 * kk)) rfl rfl rfl rfl (by show -9223372036854775808 ≤ -8 * kk ∧ -8 * kk ≤ 9223372036854775807; omega)) (by decide) wr_all) ?_
    rintro _ w10 ⟨rfl, hS⟩
    refine ⟨_, rfl, ?_⟩
    rw [wr_r4 _ _ (by omega)] at hS ⊢
    apply Ls.runK LO [5, 20, 21] 7
    · repeat' (first | rfl | with_reducible assumption | assumption | constructor)
    intro w11 f11 s11 hf11
    replace hf11 : f11 = [(5, _), (20, _), (21, _)] := hf11
    subst hf11
    refine Ls.nil (N.to ?_)
    have hS := hS.same s11
    refine W.seq (W.list ?_)
    have q1 := quiet_of (w := w11) fun w' s' => ts_len w w' t 3 9 _ (hS.same s')
    rw [wr_len] at q1
    apply Ls.runK LO [153] 12
    · repeat' (first | rfl | with_reducible assumption | assumption | constructor)
    intro w12 f12 s12 hf12
    replace hf12 : f12 = [(153, _)] := hf12
    subst hf12
    refine Ls.call LO rfl rfl rfl rfl rfl (vs := []) rfl (awake_walk w12) ?_
    rintro _ w13 ⟨rfl, hm13⟩
    refine ⟨_, rfl, ?_⟩
    apply Ls.runK LO [4] 2
    · repeat' (first | rfl | with_reducible assumption | assumption | constructor)
    intro w14 f14 s14 hf14
    replace hf14 : f14 = [(4, _)] := hf14
    subst hf14
    refine Ls.nil (N.to (W.ret (?_)))
    exact post (fn := Try.f3) (R := Yes w) LO (rs := [.tmp 4]) rfl (vs := [.bool true]) (.tmp rfl .nil) ⟨rfl, (((hS.mv.same s12).trans hm13).same s14)⟩
theorem wrong_law (how v : Int) (w : World) (h0 : (Lit.int .i64 how).wf = true) (h1 : (Lit.int .i64 v).wf = true) : Calls Try.prog 3 #[.int .i64 how, .int .i64 v] w (Yes w) := wrong_walk how v w (bounds_i64 h0) (bounds_i64 h1)
end Go.Proofs.Ytnghmaejmfhigaa
