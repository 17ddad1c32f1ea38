/- What is proved: both streams side by side: start, sameness, letters by numbers, what a push needs. Conditions: those that stand in each theorem. -/
import Derived.Test.YtieolnekccacbaaDirRef4
namespace Go.Proofs.Ytieolnekccacbaa
set_option linter.unusedVariables false
set_option linter.unusedSimpArgs false
set_option linter.unusedSectionVars false
open Go.RowKit Go.Maps Go.MapKept Go.ChangeMaps Fw
def RS.new (s b h : Int) : RS := ⟨s, min (max b 0) 1024, min (max h 0) 1024, ⟨#[]⟩, [], [], -1, false⟩
theorem RS.new_ds (s b h : Int) : (RS.new s b h).ds = DS.new s b h := by
  have e1 : keep ⟨#[]⟩ (min (max h 0) 1024) = ⟨#[]⟩ := empty_of (by rw [size_keep]; show min 0 _ = 0; omega)
  have e2 : min (max b 0) 1024 = max 0 (min b 1024) := by omega
  have e3 : min (max h 0) 1024 = max 0 (min h 1024) := by omega
  unfold RS.ds RS.new DS.new
  simp only [e1]
  rw [e2, e3]
  rfl
theorem RS.new_inv (s b h : Int) : RInv (RS.new s b h) := ⟨rfl, .nil, fun x hx => (by cases hx), fun x hx => (by cases hx), .inl rfl, by show 0 ≤ min (max b 0) 1024; omega, by show 0 ≤ min (max h 0) 1024; omega⟩
def RNewPost (s b h : Int) (w : World) (e : Ending) (w' : World) : Prop :=
  ∃ q, e = .returned (.pointer (some ⟨q, 0, none⟩)) ∧ RAt w' q (.slice none 0 0) (.slice none 0 0) (RS.new s b h) ∧ w.heap.size ≤ q ∧ Mv (fun _ => False) w w'
theorem rstart_walk (s b h : Int) (w : World) : Calls Try.prog 16 #[.int .u32 s, .int .i64 b, .int .i64 h] w (RNewPost s b h w) := by
  refine calls_W (n := 16) (vs := [.int .u32 s, .int .i64 b, .int .i64 h]) Try.func16 rfl rfl rfl ?_
  apply W.readS LO mixed [0, 1, 2] (by kernel_rfl)
  · repeat' (first | rfl | with_reducible assumption | assumption | constructor)
  intro w1 f1 s1 hf1
  replace hf1 : f1 = [(0, _), (1, _), (2, _)] := hf1
  subst hf1
  refine W.seq (W.list ?_)
  have k1 : Kn (if 0 > b then 0 else b) (max b 0) := .of (by split <;> omega)
  have k2 : Kn (if 1024 < max b 0 then 1024 else max b 0) (min (max b 0) 1024) := .of (by split <;> omega)
  have k3 : Kn (if 0 > h then 0 else h) (max h 0) := .of (by split <;> omega)
  have k4 : Kn (if 1024 < max h 0 then 1024 else max h 0) (min (max h 0) 1024) := .of (by split <;> omega)
  apply Ls.runK LO [14] 8
  · repeat' (first | rfl | with_reducible assumption | assumption | constructor)
  intro w2 f2 s2 hf2
  replace hf2 : f2 = [(14, _)] := hf2
  subst hf2
  refine Ls.box rfl rfl rfl rfl rfl (vs := (RS.new s b h).vs (.slice none 0 0) (.slice none 0 0)) rfl ?_
  have b1 := heap_alloc_new w2 (.cells ((RS.new s b h).vs (.slice none 0 0) (.slice none 0 0)).toArray 59)
  have m1 : Mv (fun _ => False) w2 (w2.alloc (.cells ((RS.new s b h).vs (.slice none 0 0) (.slice none 0 0)).toArray 59)) := (Mv.refl _ w2).alloc _
  generalize w2.alloc (.cells ((RS.new s b h).vs (.slice none 0 0) (.slice none 0 0)).toArray 59) = w3 at b1 m1
  obtain ⟨q, hq⟩ : ∃ q, q = w2.heap.size := ⟨_, rfl⟩
  rw [← hq] at b1
  rw [← hq]
  apply Ls.runK LO [6] 1
  · repeat' (first | rfl | with_reducible assumption | assumption | constructor)
  intro w4 f4 s4 hf4
  replace hf4 : f4 = [(6, _)] := hf4
  subst hf4
  refine Ls.nil (N.to (W.ret (post LO (rs := [.tmp 6]) rfl (vs := [.pointer (some ⟨q, 0, none⟩)]) (.tmp rfl .nil) ⟨q, rfl, ?_, ?_, ?_⟩)))
  · exact RAt.same ⟨b1, Own.nil _ _, Own.nil _ _, ⟨(fun e => by cases e), fun e => by cases e⟩, fun k e => by cases e⟩ s4
  · rw [hq, s2.heap, s1.heap]; exact Nat.le_refl _
  · exact ((((Mv.refl _ w).same s1).same s2).trans m1).same s4
theorem same_says (p m q : Nat) (vp vb : Value) (D : RS) (w : World) (h : DirAt w p m D.ds) (h2 : RAt w q vp vb D) (I : RInv D) : Calls Try.prog 18 #[.pointer (some ⟨p, 0, none⟩), .pointer (some ⟨q, 0, none⟩)] w (Says w (.bool true)) := by
  refine calls_W (n := 26) (vs := [.pointer (some ⟨p, 0, none⟩), .pointer (some ⟨q, 0, none⟩)]) Try.func18 rfl rfl rfl ?_
  apply W.readS LO mixed [0, 1] (by kernel_rfl)
  · repeat' (first | rfl | with_reducible assumption | assumption | constructor)
  intro w1 f1 s1 hf1
  replace hf1 : f1 = [(0, _), (1, _)] := hf1
  subst hf1
  have hd1 := h.same s1
  have hr1 := h2.same s1
  obtain ⟨c0, c1, c2, c3, c4, c5, c6, c7⟩ := hr1.cls
  have q1 : ∀ w', Same w1 w' → Calls Try.prog 13 #[.pointer (some ⟨p, 0, none⟩)] w' fun e w'' => e = .returned (.int .i64 D.told.size) ∧ Same w1 w'' := quiet_of (w := w1) fun w' s' => at_says p m D.ds w' (hd1.same s')
  have q2 := quiet_of (w := w1) fun w' s' => rat_says q vp vb D w' (hr1.same s')
  have el : D.zip.length = D.places.length := by unfold RS.zip; rw [List.length_zip, I.len]; omega
  have q3 : ∀ w', Same w1 w' → Calls Try.prog 14 #[.pointer (some ⟨p, 0, none⟩)] w' fun e w'' => e = .returned (.int .i64 D.places.length) ∧ Same w1 w'' := by
    rw [← el]
    exact quiet_of (w := w1) fun w' s' => waits_says p m D.ds w' (hd1.same s')
  have q4 := quiet_of (w := w1) fun w' s' => rwaits_says q vp vb D w' (hr1.same s')
  have q5 : ∀ w', Same w1 w' → Calls Try.prog 15 #[.pointer (some ⟨p, 0, none⟩)] w' fun e w'' => e = .returned (.bool D.over) ∧ Same w1 w'' := quiet_of (w := w1) fun w' s' => done_says p m D.ds w' (hd1.same s')
  have k1 : Kn ((D.told.size : Int) == (D.told.size : Int)) true := .of (beq_self_eq_true _)
  have k2 : Kn ((D.places.length : Int) == (D.places.length : Int)) true := .of (beq_self_eq_true _)
  have k3 : Kn (D.over == D.over) true := .of (beq_self_eq_true _)
  apply W.readS LO mixed [4] (by kernel_rfl)
  · repeat' (first | rfl | with_reducible assumption | assumption | constructor)
  intro w2 f2 s2 hf2
  replace hf2 : f2 = [(4, _)] := hf2
  subst hf2
  exact W.ret (post LO (rs := [.tmp 4]) rfl (vs := [.bool true]) (.tmp rfl .nil) ⟨rfl, s1.trans s2⟩)
/-- Both of them. -/
structure Both (w w' : World) (p m q : Nat) (vp vb : Value) (D : RS) (i : Nat) : Prop where
  d : DirAt w' p m D.ds
  r : RAt w' q vp vb D
  inv : RInv D
  mv : Mv (fun _ => False) w w'
  fd : w.heap.size ≤ p ∧ w.heap.size ≤ m
  fr : ∀ k, RB q vp vb k → w.heap.size ≤ k
  sep : ∀ k, RB q vp vb k → k ≠ p ∧ k ≠ m
  bg : 0 ≤ D.begin_ ∧ D.begin_ < 4294967296
  bu : D.buffer ≤ 1024
  hs : D.hist ≤ 1024
  told : (D.told.size : Int) ≤ 1024 * i
  fin : D.fin ≤ 1024 * (i + 1)
  few : i ≤ 1000
theorem Both.same {w w' w'' : World} {p m q : Nat} {vp vb : Value} {D : RS} {i : Nat} (h : Both w w' p m q vp vb D i) (s : Same w' w'') : Both w w'' p m q vp vb D i := ⟨h.d.same s, h.r.same s, h.inv, h.mv.same s, h.fd, h.fr, h.sep, h.bg, h.bu, h.hs, h.told, h.fin, h.few⟩
theorem Both.can {w w' : World} {p m q : Nat} {vp vb : Value} {D : RS} {i : Nat} (h : Both w w' p m q vp vb D i) (n : Nat) (hn : n ≤ 100000) : Can D.ds n ∧ RCan D n := by
  have h1 := h.inv.few
  have h2 := h.inv.bu
  have h3 := h.inv.hs
  have h4 := h.bu
  have h5 := h.hs
  have h6 := h.told
  have h7 := h.fin
  have h8 := h.few
  have hf : -1 ≤ D.fin := by rcases h.inv.fi with e | e <;> omega
  have el : D.zip.length = D.places.length := by unfold RS.zip; rw [List.length_zip, h.inv.len]; omega
  refine ⟨⟨by show 0 ≤ (D.told.size : Int); omega, by show (D.told.size : Int) ≤ _; omega, hf, by show D.fin ≤ _; omega, by omega, h2, h4, ⟨by show D.zip.length + n ≤ _; omega, h3, h5, ?_⟩⟩, ⟨⟨h.inv.len, h.inv.nd, by omega, by omega⟩, h.bg, ⟨h2, h4⟩, ⟨h3, h5⟩, ⟨hf, by omega⟩, hn, by omega⟩⟩
  show ((keep D.told D.hist).size : Int) = min D.hist D.told.size
  rw [size_keep]
  omega
theorem Both.step {w w' w'' : World} {p m q : Nat} {vp vb v2 b2 : Value} {D : RS} {i : Nat} (h : Both w w' p m q vp vb D i) (hi : i < 1000) (n : Int) (s : ByteArray) (fin : Bool) (hd : DirAt w'' p m (D.push n s fin).1.ds) (hr : RAt w'' q v2 b2 (D.push n s fin).1)
    (hm : Mv (fun k => k = p ∨ k = m ∨ RB q vp vb k) w' w'') (ho : ∀ k, RB q v2 b2 k → RB q vp vb k ∨ w'.heap.size ≤ k) : Both w w'' p m q v2 b2 (D.push n s fin).1 (i + 1) := by
  obtain ⟨_, st⟩ := rpush_same D h.inv n s fin
  have h4 := h.bu
  have h6 := h.told
  have h7 := h.fin
  have hz := h.mv.size
  refine ⟨hd, hr, st.inv, h.mv.cut hm fun k hk e => ?_, h.fd, fun k hk => ?_, fun k hk => ?_, by rw [st.bg]; exact h.bg, by rw [st.bu]; exact h4, by rw [st.hs]; exact h.hs, by have := st.told; omega, ?_, hi⟩
  · have := h.fd
    rcases e with e | e | e
    · omega
    · omega
    · have := h.fr k e; omega
  · rcases ho k hk with e | e
    · exact h.fr k e
    · omega
  · rcases ho k hk with e | e
    · exact h.sep k e
    · have h1 := h.d.blk.lt
      have h2 := h.d.map.lt
      omega
  · rcases st.fin with e | e <;> omega
theorem own_blk {w : World} {e : TypeId} {v : Value} {xs : List Value} (h : Own w e v xs) (k : Nat) (hk : v.ownBlock = some k) : ∃ cur, w.heap[k]? = some (.cells cur e (0, 0)) := by
  rcases h.2 with ⟨rfl, _⟩ | ⟨g, cap, cur, rfl, _, hg, _⟩
  · cases hk
  · have e1 : g = k := Option.some.inj hk
    rw [e1] at hg
    exact ⟨cur, hg⟩
/-- A block of another type is none of its own. -/
theorem RAt.off {w : World} {q r T : Nat} {vp vb : Value} {D : RS} {cs : Array Value} (h : RAt w q vp vb D) (hr : w.heap[r]? = some (.cells cs T (0, 0))) (h1 : T ≠ 59) (h2 : T ≠ 3) (h3 : T ≠ 5) (k : Nat) (hk : RB q vp vb k) : k ≠ r := by
  rintro rfl
  rcases hk with rfl | hk | hk
  · rw [h.blk] at hr
    injection hr with e; injection e with _ e; exact h1 e.symm
  · obtain ⟨cur, hc⟩ := own_blk h.op _ hk
    rw [hc] at hr
    injection hr with e; injection e with _ e; exact h2 e.symm
  · obtain ⟨cur, hc⟩ := own_blk h.ob _ hk
    rw [hc] at hr
    injection hr with e; injection e with _ e; exact h3 e.symm
end Go.Proofs.Ytieolnekccacbaa
