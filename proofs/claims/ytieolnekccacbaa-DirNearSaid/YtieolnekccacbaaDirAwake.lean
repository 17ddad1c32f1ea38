/- What is proved: the example. Conditions: those that stand in each theorem. -/
import Derived.Test.YtieolnekccacbaaDirStart
namespace Go.Proofs.Ytieolnekccacbaa
set_option linter.unusedVariables false
set_option linter.unusedSimpArgs false
set_option linter.unusedSectionVars false
open Go.RowKit Go.Maps Go.MapKept Go.ChangeMaps Fw
def aw1 : DS := ⟨100, 10, 10, 0, [(1, 98)], ⟨#[]⟩, -1, false⟩
def aw2 : DS := ⟨100, 10, 10, 2, [], ⟨#[97, 98]⟩, -1, false⟩
theorem aw_1 : (DS.new 100 10 10).push 101 ⟨#[98]⟩ false = (aw1, ⟨4, 0, ⟨#[]⟩, false⟩) := by kernel_rfl
theorem aw_2 : aw1.push 100 ⟨#[97]⟩ false = (aw2, ⟨1, 0, ⟨#[97, 98]⟩, false⟩) := by kernel_rfl
theorem GBlk.cls {w : World} {r : Nat} {g : GotV} (h : GBlk w r g) : Cl w ⟨r, 0, none⟩ (.int .i64 g.kind) ∧ Cl w ⟨r, 1, none⟩ (.int .i64 g.from_) ∧ Cl w ⟨r, 2, none⟩ (.string g.data) ∧ Cl w ⟨r, 3, none⟩ (.bool g.fin) := by
  obtain ⟨a, b, c, d⟩ := h.cells
  exact ⟨⟨a⟩, ⟨b⟩, ⟨c⟩, ⟨d⟩⟩
/-- A law's answer. -/
def Yes (w : World) (e : Ending) (w' : World) : Prop := e = .returned (.bool true) ∧ Mv (fun _ => False) w w'
set_option maxRecDepth 100000 in
set_option maxHeartbeats 4000000 in
theorem awake_walk (w : World) : Calls Try.prog 9 #[] w (Yes w) := by
  refine calls_W (n := 39) (vs := []) Try.func9 rfl rfl rfl ?_
  apply W.readS LO mixed [] (by kernel_rfl)
  · repeat' (first | rfl | with_reducible assumption | assumption | constructor)
  intro w1 f1 s1 hf1
  replace hf1 : f1 = [] := hf1
  subst hf1
  refine W.seq (W.list (Ls.call LO rfl rfl rfl rfl rfl (vs := [.int .u32 100, .int .i64 10, .int .i64 10]) rfl (start_walk 100 10 10 w1) ?_))
  rintro _ w2 ⟨p, m, rfl, hD, hp, hm, hmv2⟩
  refine ⟨_, rfl, ?_⟩
  apply Ls.runK LO [1] 1
  · repeat' (first | rfl | with_reducible assumption | assumption | constructor)
  intro w3 f3 s3 hf3
  replace hf3 : f3 = [(1, _)] := hf3
  subst hf3
  refine Ls.nil (N.to ?_)
  have hD := hD.same s3
  have hmv : Mv (fun _ => False) w w3 := (((Mv.refl _ w).same s1).trans hmv2).same s3
  have hp : w.heap.size ≤ p := by rw [s1.heap] at hp; exact hp
  have hm : w.heap.size ≤ m := by rw [s1.heap] at hm; exact hm
  clear s1 hmv2 s3
  refine W.cutS (fun w' g => Same w3 w' ∧ g = [(1, .pointer (some ⟨p, 0, none⟩))]) ?_ ?_
  ·
    apply W.readS LO mixed [1, 6] (by kernel_rfl)
    · repeat' (first | rfl | with_reducible assumption | assumption | constructor)
    intro w4 f4 s4 hf4
    replace hf4 : f4 = [(1, _), (6, _)] := hf4
    subst hf4
    refine W.cond (b := false) rfl (fun h => by cases h) (fun _ => W.skip ?_)
    exact N.cut ⟨s4, rfl⟩ (sub_keys rfl)
  rintro w5 _ ⟨s5, rfl⟩
  have hD := hD.same s5
  have hmv := hmv.same s5
  clear s5
  refine W.seq (W.list ?_)
  apply Ls.runK LO [1, 7] 1
  · repeat' (first | rfl | with_reducible assumption | assumption | constructor)
  intro w6 f6 s6 hf6
  replace hf6 : f6 = [(1, _), (7, _)] := hf6
  subst hf6
  have c1 : Can (DS.new 100 10 10) 1 := by
    refine ⟨by decide, by decide, by decide, by decide, by decide, by decide, by decide, ⟨by decide, by decide, by decide, by decide⟩⟩
  refine Ls.pushed (sq := 101) (s := ⟨#[98]⟩) (fin := false) rfl rfl rfl rfl rfl rfl rfl rfl rfl rfl rfl rfl rfl (hD.same s6) c1 ?_
  rw [aw_1]
  intro w7 r hD7 hG7 hrp hrm hr hm7
  refine Ls.nil (N.to ?_)
  have hmv7 : Mv (fun _ => False) w w7 := (hmv.same s6).cut hm7 fun i hi e => by rcases e with e | e <;> omega
  have hr' : w.heap.size ≤ r := Nat.le_trans (hmv.same s6).size hr
  clear hmv hD hm7
  refine W.seq (W.list ?_)
  apply Ls.runK LO [1, 2, 9] 1
  · repeat' (first | rfl | with_reducible assumption | assumption | constructor)
  intro w8 f8 s8 hf8
  replace hf8 : f8 = [(1, _), (2, _), (9, _)] := hf8
  subst hf8
  have c2 : Can aw1 1 := by
    refine ⟨by decide, by decide, by decide, by decide, by decide, by decide, by decide, ⟨by decide, by decide, by decide, by decide⟩⟩
  refine Ls.pushed (sq := 100) (s := ⟨#[97]⟩) (fin := false) rfl rfl rfl rfl rfl rfl rfl rfl rfl rfl rfl rfl rfl (hD7.same s8) c2 ?_
  rw [aw_2]
  intro w9 r2 hD9 hG9 hrp9 hrm9 hr9 hm9
  refine Ls.nil (N.to ?_)
  have hG : GBlk w9 r ⟨4, 0, ⟨#[]⟩, false⟩ := (hG7.same s8).moved hm9 (fun e => by rcases e with e | e <;> omega)
  have hmv9 : Mv (fun _ => False) w w9 := (hmv7.same s8).cut hm9 fun i hi e => by rcases e with e | e <;> omega
  obtain ⟨a0, a1, a2, a3⟩ := hG.cls
  obtain ⟨b0, b1, b2, b3⟩ := hG9.cls
  have ks : Kn ((⟨#[97, 98]⟩ : ByteArray).toList == (⟨#[97, 98]⟩ : ByteArray).toList) true := .of (beq_self_eq_true _)
  have q1 := quiet_of (w := w9) fun w' s' => at_says p m aw2 w' (hD9.same s')
  have q2 := quiet_of (w := w9) fun w' s' => seq_says p m aw2 2 w' (hD9.same s')
  apply W.readS LO mixed [0] (by kernel_rfl)
  · repeat' (first | rfl | with_reducible assumption | assumption | constructor)
  intro w10 f10 s10 hf10
  replace hf10 : f10 = [(0, _)] := hf10
  subst hf10
  exact W.ret (post LO (rs := [.tmp 0]) rfl (vs := [.bool true]) (.tmp rfl .nil) ⟨rfl, hmv9.same s10⟩)
end Go.Proofs.Ytieolnekccacbaa
