/- What is proved: the law of all rules, as its row asks. Conditions: those that stand in each theorem. -/
import Derived.Test.YtbbafhpnlmmjjaaGrpAll8
import Derived.Test.YtbbafhpnlmmjjaaFwArg
import Derived.OpenShut
namespace Go.Proofs.Ytbbafhpnlmmjjaa
set_option linter.unusedVariables false
set_option linter.unusedSimpArgs false
set_option linter.unusedSectionVars false
open Go.RowKit Go.ChangeShapes Fw
section
variable {H : Type} {enc : TypeId × Value → H} {W : World}
theorem zz3 : Try.prog.cellsOf 3 = 1 := by kernel_rfl
theorem zz23 : Try.prog.cellsOf 23 = 1 := by kernel_rfl
theorem zz4 : Try.prog.cellsOf 4 = 1 := by kernel_rfl
theorem zz9 : Try.prog.cellsOf 9 = 1 := by kernel_rfl
theorem u32_of {a : Int} (h : (Lit.int .u32 a).wf = true) : U32 a := by have := bounds_u32 h; unfold U32; omega
theorem open_tup {n : Nat} {cs : List Value} {r : DataW H × List MemPlace} (h : DataW.trod enc Try.prog W 0 (fun _ => true) true n 25 cs = some r) : ∃ x : TupV, cs = x.cs ∧ TupU x := by
  obtain ⟨m, o⟩ := opn (l := [(0, 3), (1, 23), (2, 23), (3, 3), (4, 3)]) (by kernel_rfl) (by kernel_rfl) h
  have hl : cs.length = 5 := o.len.trans (by kernel_rfl)
  obtain ⟨x0, h0, _⟩ := o.int (i := 0) rfl Try.underlying3 zz3
  obtain ⟨x1, h1, u1⟩ := o.int (i := 1) rfl Try.underlying23 zz23
  obtain ⟨x2, h2, u2⟩ := o.int (i := 2) rfl Try.underlying23 zz23
  obtain ⟨x3, h3, _⟩ := o.int (i := 3) rfl Try.underlying3 zz3
  obtain ⟨x4, h4, _⟩ := o.int (i := 4) rfl Try.underlying3 zz3
  refine ⟨⟨x0, x1, x2, x3, x4⟩, list_is (by rw [hl]; rfl) fun j u hj => ?_, u32_of u1, u32_of u2⟩
  match j, hj with
  | 0, hj => cases hj; exact h0
  | 1, hj => cases hj; exact h1
  | 2, hj => cases hj; exact h2
  | 3, hj => cases hj; exact h3
  | 4, hj => cases hj; exact h4
  | j + 5, hj => simp [TupV.cs] at hj
theorem open_net {n : Nat} {cs : List Value} {r : DataW H × List MemPlace} (h : DataW.trod enc Try.prog W 0 (fun _ => true) true n 48 cs = some r) : ∃ x : Int × Int, U32 x.1 ∧ cs = ncs x := by
  obtain ⟨m, o⟩ := opn (l := [(0, 23), (1, 3)]) (by kernel_rfl) (by kernel_rfl) h
  have hl : cs.length = 2 := o.len.trans (by kernel_rfl)
  obtain ⟨x0, h0, u0⟩ := o.int (i := 0) rfl Try.underlying23 zz23
  obtain ⟨x1, h1, _⟩ := o.int (i := 1) rfl Try.underlying3 zz3
  refine ⟨(x0, x1), u32_of u0, list_is (by rw [hl]; rfl) fun j u hj => ?_⟩
  match j, hj with
  | 0, hj => cases hj; exact h0
  | 1, hj => cases hj; exact h1
  | j + 2, hj => simp [ncs] at hj
theorem open_span {n : Nat} {cs : List Value} {r : DataW H × List MemPlace} (h : DataW.trod enc Try.prog W 0 (fun _ => true) true n 50 cs = some r) : ∃ x : Int × Int, True ∧ cs = scs x := by
  obtain ⟨m, o⟩ := opn (l := [(0, 3), (1, 3)]) (by kernel_rfl) (by kernel_rfl) h
  have hl : cs.length = 2 := o.len.trans (by kernel_rfl)
  obtain ⟨x0, h0, _⟩ := o.int (i := 0) rfl Try.underlying3 zz3
  obtain ⟨x1, h1, _⟩ := o.int (i := 1) rfl Try.underlying3 zz3
  refine ⟨(x0, x1), True.intro, list_is (by rw [hl]; rfl) fun j u hj => ?_⟩
  match j, hj with
  | 0, hj => cases hj; exact h0
  | 1, hj => cases hj; exact h1
  | j + 2, hj => simp [scs] at hj
theorem open_cont {n : Nat} {cs : List Value} {r : DataW H × List MemPlace} (h : DataW.trod enc Try.prog W 0 (fun _ => true) true n 54 cs = some r) : ∃ x : ContV, True ∧ cs = x.cs := by
  obtain ⟨m, o⟩ := opn (l := [(0, 9), (1, 4), (2, 4), (3, 3), (4, 3), (5, 4), (6, 3), (7, 3)]) (by kernel_rfl) (by kernel_rfl) h
  have hl : cs.length = 8 := o.len.trans (by kernel_rfl)
  obtain ⟨x0, h0, _⟩ := o.str (i := 0) rfl Try.underlying9 zz9
  obtain ⟨x1, h1⟩ := o.bool (i := 1) rfl Try.underlying4 zz4
  obtain ⟨x2, h2⟩ := o.bool (i := 2) rfl Try.underlying4 zz4
  obtain ⟨x3, h3, _⟩ := o.int (i := 3) rfl Try.underlying3 zz3
  obtain ⟨x4, h4, _⟩ := o.int (i := 4) rfl Try.underlying3 zz3
  obtain ⟨x5, h5⟩ := o.bool (i := 5) rfl Try.underlying4 zz4
  obtain ⟨x6, h6, _⟩ := o.int (i := 6) rfl Try.underlying3 zz3
  obtain ⟨x7, h7, _⟩ := o.int (i := 7) rfl Try.underlying3 zz3
  refine ⟨⟨x0, x1, x2, x3, x4, x5, x6, x7⟩, True.intro, list_is (by rw [hl]; rfl) fun j u hj => ?_⟩
  match j, hj with
  | 0, hj => cases hj; exact h0
  | 1, hj => cases hj; exact h1
  | 2, hj => cases hj; exact h2
  | 3, hj => cases hj; exact h3
  | 4, hj => cases hj; exact h4
  | 5, hj => cases hj; exact h5
  | 6, hj => cases hj; exact h6
  | 7, hj => cases hj; exact h7
  | j + 8, hj => simp [ContV.cs] at hj
theorem open_set {n : Nat} {cs : List Value} {r : DataW H × List MemPlace} (h : DataW.trod enc Try.prog W 0 (fun _ => true) true n 31 cs = some r) : ∃ s : SetV, cs = s.cs ∧ NetsAt W s ∧ ∀ x ∈ s.l, U32 x.1 := by
  obtain ⟨m, o⟩ := opn (l := [(0, 4), (1, 29)]) (by kernel_rfl) (by kernel_rfl) h
  have hl : cs.length = 2 := o.len.trans (by kernel_rfl)
  obtain ⟨x0, h0⟩ := o.bool (i := 0) rfl Try.underlying4 zz4
  obtain ⟨y, hy⟩ := o.fld 1 1 _ rfl
  have hz : Try.prog.cellsOf 29 = 1 := by kernel_rfl
  rw [hz] at hy
  haveI : Inhabited (Int × Int) := ⟨(0, 0)⟩
  obtain ⟨l, a, cap, hcs, _, hr, hok⟩ := open_rows (f := ncs) ncs_len (by decide) Try.underlying29 (by kernel_rfl) (fun n cs r h => open_net h) hy
  have h1 := take_one hcs
  refine ⟨⟨x0, .slice a l.length cap, l⟩, list_is (by rw [hl]; rfl) fun j u hj => ?_, hr, hok⟩
  match j, hj with
  | 0, hj => cases hj; exact h0
  | 1, hj => cases hj; exact h1
  | j + 2, hj => simp [SetV.cs] at hj
theorem open_ports {n : Nat} {cs : List Value} {r : DataW H × List MemPlace} (h : DataW.trod enc Try.prog W 0 (fun _ => true) true n 34 cs = some r) : ∃ s : SetV, cs = s.cs ∧ SpansAt W s := by
  obtain ⟨m, o⟩ := opn (l := [(0, 4), (1, 32)]) (by kernel_rfl) (by kernel_rfl) h
  have hl : cs.length = 2 := o.len.trans (by kernel_rfl)
  obtain ⟨x0, h0⟩ := o.bool (i := 0) rfl Try.underlying4 zz4
  obtain ⟨y, hy⟩ := o.fld 1 1 _ rfl
  have hz : Try.prog.cellsOf 32 = 1 := by kernel_rfl
  rw [hz] at hy
  haveI : Inhabited (Int × Int) := ⟨(0, 0)⟩
  obtain ⟨l, a, cap, hcs, _, hr, _⟩ := open_rows (f := scs) scs_len (by decide) Try.underlying32 (by kernel_rfl) (fun n cs r h => open_span h) hy
  have h1 := take_one hcs
  refine ⟨⟨x0, .slice a l.length cap, l⟩, list_is (by rw [hl]; rfl) fun j u hj => ?_, hr⟩
  match j, hj with
  | 0, hj => cases hj; exact h0
  | 1, hj => cases hj; exact h1
  | j + 2, hj => simp [SetV.cs] at hj
theorem open_rule {n : Nat} {cs : List Value} {r : DataW H × List MemPlace} (h : DataW.trod enc Try.prog W 0 (fun _ => true) true n 37 cs = some r) : ∃ x : RuleX, RuleX0 W x ∧ cs = x.cs := by
  obtain ⟨m, o⟩ := opn (l := [(0, 3), (1, 3), (2, 31), (4, 34), (6, 31), (8, 34), (10, 4), (11, 3), (12, 35), (13, 3), (14, 3)]) (by kernel_rfl) (by kernel_rfl) h
  have hl : cs.length = 15 := o.len.trans (by kernel_rfl)
  have zs : Try.prog.cellsOf 31 = 2 := by kernel_rfl
  have zp : Try.prog.cellsOf 34 = 2 := by kernel_rfl
  have zc : Try.prog.cellsOf 35 = 1 := by kernel_rfl
  obtain ⟨x0, h0, _⟩ := o.int (i := 0) rfl Try.underlying3 zz3
  obtain ⟨x1, h1, _⟩ := o.int (i := 1) rfl Try.underlying3 zz3
  obtain ⟨y2, g2⟩ := o.fld 2 2 _ rfl
  rw [zs] at g2
  obtain ⟨fn, e2, n2, u2⟩ := open_set g2
  obtain ⟨y3, g3⟩ := o.fld 3 4 _ rfl
  rw [zp] at g3
  obtain ⟨fp, e3, n3⟩ := open_ports g3
  obtain ⟨y4, g4⟩ := o.fld 4 6 _ rfl
  rw [zs] at g4
  obtain ⟨tn, e4, n4, u4⟩ := open_set g4
  obtain ⟨y5, g5⟩ := o.fld 5 8 _ rfl
  rw [zp] at g5
  obtain ⟨tp, e5, n5⟩ := open_ports g5
  obtain ⟨x6, h6⟩ := o.bool (i := 6) rfl Try.underlying4 zz4
  obtain ⟨x7, h7, _⟩ := o.int (i := 7) rfl Try.underlying3 zz3
  obtain ⟨y8, g8⟩ := o.fld 8 12 _ rfl
  rw [zc] at g8
  haveI : Inhabited ContV := ⟨⟨⟨#[]⟩, false, false, 0, 0, false, 0, 0⟩⟩
  obtain ⟨cl, ca, ccap, hcs, _, hcr, _⟩ := open_rows (f := ContV.cs) ccs_len (by decide) Try.underlying35 (by kernel_rfl) (fun n cs r h => open_cont h) g8
  have h8 := take_one hcs
  obtain ⟨x9, h9, _⟩ := o.int (i := 9) rfl Try.underlying3 zz3
  obtain ⟨x10, h10, _⟩ := o.int (i := 10) rfl Try.underlying3 zz3
  obtain ⟨a2, b2⟩ := take_two e2
  obtain ⟨a3, b3⟩ := take_two e3
  obtain ⟨a4, b4⟩ := take_two e4
  obtain ⟨a5, b5⟩ := take_two e5
  refine ⟨⟨⟨x0, x1, fn, fp, tn, tp, x6, x7, .slice ca cl.length ccap, x9, x10⟩, cl⟩, ⟨n2, n3, n4, n5, hcr, u2, u4⟩, list_is (by rw [hl]; rfl) fun j u hj => ?_⟩
  match j, hj with
  | 0, hj => cases hj; exact h0
  | 1, hj => cases hj; exact h1
  | 2, hj => cases hj; exact a2
  | 3, hj => cases hj; exact b2
  | 4, hj => cases hj; exact a3
  | 5, hj => cases hj; exact b3
  | 6, hj => cases hj; exact a4
  | 7, hj => cases hj; exact b4
  | 8, hj => cases hj; exact a5
  | 9, hj => cases hj; exact b5
  | 10, hj => cases hj; exact h6
  | 11, hj => cases hj; exact h7
  | 12, hj => cases hj; exact h8
  | 13, hj => cases hj; exact h9
  | 14, hj => cases hj; exact h10
  | j + 15, hj => simp [RuleX.cs, RuleV.cs] at hj
end
theorem open_api_Tuple {H : Type} {enc : TypeId × Value → H} {W : World} {cs : Array Value} {d : DataW H} {ps : List MemPlace} (h : DataW.Trod enc Try.prog W 0 (fun _ => true) true 25 (.agg cs) d ps) : ∃ x : TupV, cs = x.cs.toArray ∧ TupU x := by
  obtain ⟨fuel, hf⟩ := h
  have hf : DataW.trod enc Try.prog W 0 (fun _ => true) true fuel 25 cs.toList = some (d, ps) := hf
  obtain ⟨x, hx, hu⟩ := open_tup hf
  exact ⟨x, by rw [← hx], hu⟩
theorem open_api_Rule {H : Type} {enc : TypeId × Value → H} {W : World} {fs : Array Field} {a : Option Addr} {len cap : Nat} {d : DataW H} {ps : List MemPlace}
    (ht : Try.prog.underlying 22 = some (.slice 37)) (_ : Try.prog.underlying 37 = some (.struct fs)) (hc : Try.prog.cellsOf 37 = 15) (h : DataW.Trod enc Try.prog W 0 (fun _ => true) true 22 (.slice a len cap) d ps) :
    ∃ l : List RuleX, len = l.length ∧ Rd W 15 (.slice a l.length cap) l.length (l.flatMap RuleX.cs) ∧ ∀ x ∈ l, RuleX0 W x := by
  obtain ⟨fuel, hf⟩ := h
  haveI : Inhabited RuleX := ⟨⟨⟨0, 0, S0, S0, S0, S0, false, 0, .slice none 0 0, 0, 0⟩, []⟩⟩
  obtain ⟨l, a', cap', hcs, _, hr, hok⟩ := open_rows (f := RuleX.cs) xcs_len (by decide) ht hc (fun n cs r h => open_rule h) hf
  have hcs : [Value.slice a len cap] = [.slice a' l.length cap'] := hcs
  injection hcs with hcs _
  injection hcs with e1 e2 e3
  subst e1 e3
  exact ⟨l, e2, hr, hok⟩
theorem all_law (b : Option Addr) (cap : Nat) (l : List RuleX) (t : TupV) (dir : Int) (w : World) (hr : Rd w 15 (.slice b l.length cap) l.length (l.flatMap RuleX.cs)) (hl : ∀ x ∈ l, RuleX0 w x) (hT : TupU t) (_ : (Lit.int .i64 dir).wf = true) :
    Calls Try.prog 3 #[.slice b l.length cap, .agg t.cs.toArray, .int .i64 dir] w (Yes w) :=
  all_walk _ l t dir w ⟨hr, hl⟩ hT
end Go.Proofs.Ytbbafhpnlmmjjaa
