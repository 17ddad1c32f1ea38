/- What is proved: the law of orders: its inner function. Conditions: those that stand in each theorem. -/
import Derived.Test.YtieolnekccacbaaDirOrd
namespace Go.Proofs.Ytieolnekccacbaa
set_option linter.unusedVariables false
set_option linter.unusedSimpArgs false
set_option linter.unusedSectionVars false
open Go.RowKit Go.Maps Go.MapKept Go.ChangeMaps Fw
/-- A variable of one cell. -/
def Var1 (w : World) (b T : Nat) (v : Value) : Prop := w.heap[b]? = some (.cells #[v] T (0, 0))
theorem Var1.lt {w : World} {b T : Nat} {v : Value} (h : Var1 w b T v) : b < w.heap.size := (Array.getElem?_eq_some_iff.1 h).1
theorem Var1.cl {w : World} {b T : Nat} {v : Value} (h : Var1 w b T v) : Cl w ⟨b, 0, none⟩ v := ⟨by unfold World.cell?; rw [h]; rfl⟩
theorem Var1.moved {S : Nat → Prop} {w w' : World} {b T : Nat} {v : Value} (h : Var1 w b T v) (m : Mv S w w') (hs : ¬ S b) : Var1 w' b T v := (m.block b h.lt hs).trans h
theorem Var1.same {w w' : World} {b T : Nat} {v : Value} (h : Var1 w b T v) (s : Same w w') : Var1 w' b T v := by unfold Var1; rw [s.heap]; exact h
/-- The law's variables. -/
structure OW (w : World) (p m bs bt bd bo : Nat) (start : Int) (s : ByteArray) (d : DS) : Prop where
  dir : DirAt w p m d
  vs : Var1 w bs 22 (.int .u32 start)
  vt : Var1 w bt 9 (.string s)
  vd : Var1 w bd 25 (.pointer (some ⟨p, 0, none⟩))
  vo : Var1 w bo 9 (.string (s.extract 0 d.pl.toNat))
  ne : (bs ≠ p ∧ bs ≠ m ∧ bs ≠ bo) ∧ (bt ≠ p ∧ bt ≠ m ∧ bt ≠ bo) ∧ (bd ≠ p ∧ bd ≠ m ∧ bd ≠ bo) ∧ p ≠ bo ∧ m ≠ bo
theorem OW.same {w w' : World} {p m bs bt bd bo : Nat} {start : Int} {s : ByteArray} {d : DS} (h : OW w p m bs bt bd bo start s d) (e : Same w w') : OW w' p m bs bt bd bo start s d :=
  ⟨h.dir.same e, h.vs.same e, h.vt.same e, h.vd.same e, h.vo.same e, h.ne⟩
theorem OW.moved {S : Nat → Prop} {w w' : World} {p m bs bt bd bo : Nat} {start : Int} {s : ByteArray} {d : DS} (h : OW w p m bs bt bd bo start s d) (e : Mv S w w') (hS : ¬ S p ∧ ¬ S m ∧ ¬ S bs ∧ ¬ S bt ∧ ¬ S bd ∧ ¬ S bo) : OW w' p m bs bt bd bo start s d :=
  ⟨h.dir.moved e hS.1 hS.2.1, h.vs.moved e hS.2.2.1, h.vt.moved e hS.2.2.2.1, h.vd.moved e hS.2.2.2.2.1, h.vo.moved e hS.2.2.2.2.2, h.ne⟩
theorem oinv_can {start : Int} {s : ByteArray} {d : DS} (I : OInv start s d) (hN : s.size ≤ 60) (hl : d.held.length ≤ 100) (n : Nat) (hn : n ≤ 100) : Can d n := by
  obtain ⟨st, bu, hi, p0, p1, nd, hl', la, fi, dn⟩ := I
  refine ⟨p0, by omega, by rcases fi with h | h <;> omega, by rcases fi with h | h <;> omega, by omega, by omega, by omega, ⟨by omega, by omega, by omega, ?_⟩⟩
  rw [la, ByteArray.size_extract, hi]
  omega
/-- So many places, so many bytes. -/
theorem few_keys {l : List (Int × Int)} (hn : (l.map (·.1)).Nodup) (a : Int) (k : Nat) (h : ∀ q ∈ l, a ≤ q.1 ∧ q.1 < a + k) : l.length ≤ k := by
  induction k generalizing l with
  | zero =>
    cases l with
    | nil => simp
    | cons q r => have := h q List.mem_cons_self; omega
  | succ k ih =>
    have h1 := ih (l := l.filter (fun q => q.1 != a + k)) (nodup_filter _ hn) (fun q hq => by
      obtain ⟨h1, h2⟩ := List.mem_filter.1 hq
      have := h q h1
      simp only [bne_iff_ne, ne_eq] at h2
      omega)
    cases hl : l.lookup (a + k) with
    | none =>
      have : l.filter (fun q => q.1 != a + k) = l := List.filter_eq_self.2 fun q hq => by
        have := lookup_none.1 hl q hq
        simpa using this
      rw [this] at h1; omega
    | some c =>
      have := cut_len hn hl
      omega
theorem oinv_few {start : Int} {s : ByteArray} {d : DS} (I : OInv start s d) (hN : s.size ≤ 60) : d.held.length ≤ 100 := by
  have := few_keys I.nd 0 100 fun q hq => by
    have h := I.hl q.1 q.2 (lookup_of_mem I.nd hq)
    have := I.p0
    omega
  exact this
def CloPost (start : Int) (s : ByteArray) (p m bs bt bd bo : Nat) (d : DS) (fr n : Nat) (w : World) (e : Ending) (w' : World) : Prop :=
  e = .returned (.bool true) ∧ ∃ d', OInv start s d' ∧ OW w' p m bs bt bd bo start s d' ∧ (∀ x, Has d x → Has d' x) ∧ (∀ x : Int, (fr : Int) ≤ x → x < fr + n → Has d' x) ∧ (fr + n = s.size → d'.fin = s.size) ∧ (d.fin = s.size → d'.fin = s.size) ∧
    Mv (fun k => k = p ∨ k = m ∨ k = bo) w w'
set_option maxRecDepth 100000 in
set_option maxHeartbeats 4000000 in
theorem clo_walk (start : Int) (hs : 0 ≤ start ∧ start < 4294967296) (s : ByteArray) (hN : s.size ≤ 60) (p m bs bt bd bo : Nat) (d : DS) (fr n : Nat) (hn : 1 ≤ n) (hfn : fr + n ≤ s.size) (wrong : Bool) (w : World) (I : OInv start s d) (hw : OW w p m bs bt bd bo start s d)
    (hwr : wrong = true → ∀ x : Int, (fr : Int) ≤ x → x < fr + n → Has d x) :
    Calls Try.prog 23 #[.int .i64 fr, .int .i64 n, .bool wrong, .pointer (some ⟨bt, 0, none⟩), .pointer (some ⟨bd, 0, none⟩), .pointer (some ⟨bs, 0, none⟩), .pointer (some ⟨bo, 0, none⟩)] w (CloPost start s p m bs bt bd bo d fr n w) := by
  refine calls_W (n := 74) (vs := [.int .i64 fr, .int .i64 n, .bool wrong, .pointer (some ⟨bt, 0, none⟩), .pointer (some ⟨bd, 0, none⟩), .pointer (some ⟨bs, 0, none⟩), .pointer (some ⟨bo, 0, none⟩)]) Try.func23 rfl rfl rfl ?_
  apply W.readS LO mixed [0, 1, 2, 3, 4, 5, 6] (by kernel_rfl)
  · repeat' (first | rfl | with_reducible assumption | assumption | constructor)
  intro w1 f1 s1 hf1
  replace hf1 : f1 = [(0, _), (1, _), (2, _), (3, _), (4, _), (5, _), (6, _)] := hf1
  subst hf1
  have hw1 := hw.same s1
  have ct := hw1.vt.cl
  have k1 : Kn (IntKind.i64.wrap ((fr : Int) + n)) ((fr : Int) + n) := .of (IntWalk.i64_in _ (by omega))
  have g0 : 0 ≤ (fr : Int) := by omega
  have g1 : (fr : Int) ≤ (fr : Int) + n := by omega
  have g2 : (fr : Int) + n ≤ (s.size : Int) := by omega
  apply W.readS LO mixed [0, 1, 2, 3, 4, 5, 6, 11] (by kernel_rfl)
  · repeat' (first | rfl | with_reducible assumption | assumption | constructor)
  intro w2 f2 s2 hf2
  replace hf2 : f2 = [(0, _), (1, _), (2, _), (3, _), (4, _), (5, _), (6, _), (11, _)] := hf2
  subst hf2
  have hw2 := hw1.same s2
  have hm2 : Mv (fun _ => False) w w2 := ((Mv.refl _ w).same s1).same s2
  clear s1 s2 ct hw1
  obtain ⟨data, hdd⟩ : ∃ data, data = if wrong = true then Go.Proofs.Ytieolnekccacbaa.zeros n else s.extract fr (fr + n) := ⟨_, rfl⟩
  refine W.cutS (fun w' g => (OW w' p m bs bt bd bo start s d ∧ Mv (fun _ => False) w w') ∧ g = [(0, .int .i64 fr), (1, .int .i64 n), (3, .pointer (some ⟨bt, 0, none⟩)), (4, .pointer (some ⟨bd, 0, none⟩)), (5, .pointer (some ⟨bs, 0, none⟩)), (6, .pointer (some ⟨bo, 0, none⟩)), (11, .string data)]) ?_ ?_
  ·
    apply W.readS LO mixed [0, 1, 3, 4, 5, 6, 11, 19] (by kernel_rfl)
    · repeat' (first | rfl | with_reducible assumption | assumption | constructor)
    intro w3 f3 s3 hf3
    replace hf3 : f3 = [(0, _), (1, _), (3, _), (4, _), (5, _), (6, _), (11, _), (19, _)] := hf3
    subst hf3
    have hw3 := hw2.same s3
    have hm3 := hm2.same s3
    refine W.cond (b := wrong) rfl (fun he => ?_) (fun he => W.skip ?_)
    · subst he
      refine W.list ?_
      apply Ls.runK LO [0, 1, 3, 4, 5, 6, 20] 1
      · repeat' (first | rfl | with_reducible assumption | assumption | constructor)
      intro w4 f4 s4 hf4
      replace hf4 : f4 = [(0, _), (1, _), (3, _), (4, _), (5, _), (6, _), (20, _)] := hf4
      subst hf4
      refine Ls.zeros rfl rfl rfl rfl (k := n) rfl rfl rfl rfl rfl (by omega) ?_
      intro w5 m5
      apply Ls.runK LO [0, 1, 3, 4, 5, 6, 11] 1
      · repeat' (first | rfl | with_reducible assumption | assumption | constructor)
      intro w6 f6 s6 hf6
      replace hf6 : f6 = [(0, _), (1, _), (3, _), (4, _), (5, _), (6, _), (11, _)] := hf6
      subst hf6
      rw [if_pos rfl] at hdd
      subst hdd
      exact Ls.nil (N.cut ⟨⟨((hw3.same s4).moved m5 (by simp)).same s6, ((hm3.same s4).trans m5).same s6⟩, rfl⟩ (sub_keys rfl))
    · have e1 : (fr : Int).toNat = fr := by omega
      have e2 : ((fr : Int) + n).toNat = fr + n := by omega
      rw [he, if_neg (by simp)] at hdd
      subst hdd
      rw [e1, e2]
      exact N.cut ⟨⟨hw3, hm3⟩, rfl⟩ (sub_keys rfl)
  rintro w3 _ ⟨⟨hw3, hm3⟩, rfl⟩
  clear hw2 hm2
  have hsz : data.size = n := by
    rw [hdd]
    split
    · exact size_zeros n
    · rw [ByteArray.size_extract]; omega
  have hdata : ∀ x : Int, (fr : Int) ≤ x → x < fr + n → Has d x ∨ byteAt data.data.toList (x - fr) = byteAt s.data.toList x := by
    intro x h1 h2
    cases hwg : wrong with
    | true => exact .inl (hwr hwg x h1 h2)
    | false =>
      right
      rw [hdd, hwg, if_neg (by simp)]
      unfold byteAt
      rw [ByteArray.data_extract, Array.toList_extract]
      simp only [List.extract_eq_take_drop, List.getD_eq_getElem?_getD, List.getElem?_take, List.getElem?_drop]
      rw [if_pos (by omega), show fr + (x - fr).toNat = x.toNat by omega]
  have hpost := ord_push start hs s hN d I fr n hn hfn data hsz hdata _ rfl
  obtain ⟨c1, c2, c3, c4⟩ := And.intro hw3.vt.cl (And.intro hw3.vd.cl (And.intro hw3.vs.cl hw3.vo.cl))
  refine W.seq (W.list ?_)
  have ka : Kn (IntKind.u32.wrap (fr : Int)) (fr : Int) := .of (by show (fr : Int) % 4294967296 = fr; omega)
  have kb : Kn (IntKind.u32.wrap (start + (fr : Int))) ((start + (fr : Int)) % 4294967296) := .of rfl
  have kc : Kn ((fr : Int) + n == (s.size : Int)) (decide (fr + n = s.size)) := .of (by
    by_cases e : fr + n = s.size
    · rw [decide_eq_true e, beq_iff_eq]; omega
    · rw [decide_eq_false e, beq_eq_false_iff_ne]; omega)
  apply Ls.runK LO [0, 1, 3, 4, 5, 6, 23, 27, 28, 34] 12
  · repeat' (first | rfl | with_reducible assumption | assumption | constructor)
  intro w4 f4 s4 hf4
  replace hf4 : f4 = [(0, _), (1, _), (3, _), (4, _), (5, _), (6, _), (23, _), (27, _), (28, _), (34, _)] := hf4
  subst hf4
  have hw4 := hw3.same s4
  have hm4 := hm3.same s4
  refine Ls.pushed (sq := (start + fr) % 4294967296) (s := data) (fin := decide (fr + n = s.size)) rfl rfl rfl rfl rfl rfl rfl rfl rfl rfl rfl rfl rfl hw4.dir (oinv_can I hN (oinv_few I hN) _ (by omega)) ?_
  generalize d.push ((start + fr) % 4294967296) data (decide (fr + n = s.size)) = R at hpost
  obtain ⟨d', g⟩ := R
  intro w5 r hD5 hG5 hrp hrm hr hm5
  refine Ls.nil (N.to ?_)
  have hvs5 := hw4.vs.moved hm5 (fun e => by rcases e with e | e; exact hw4.ne.1.1 e; exact hw4.ne.1.2.1 e)
  have hvt5 := hw4.vt.moved hm5 (fun e => by rcases e with e | e; exact hw4.ne.2.1.1 e; exact hw4.ne.2.1.2.1 e)
  have hvd5 := hw4.vd.moved hm5 (fun e => by rcases e with e | e; exact hw4.ne.2.2.1.1 e; exact hw4.ne.2.2.1.2.1 e)
  have hvo5 := hw4.vo.moved hm5 (fun e => by rcases e with e | e; exact hw4.ne.2.2.2.1 e.symm; exact hw4.ne.2.2.2.2 e.symm)
  have hm5' : Mv (fun k => k = p ∨ k = m ∨ k = bo) w w5 := hm4.mono (fun k e => e.elim) |>.cut hm5 fun i hi e => by rcases e with e | e; exact .inl e; exact .inr (.inl e)
  have hro : r ≠ bo := by have := hw4.vo.lt; omega
  have hrt : r ≠ bt := by have := hw4.vt.lt; omega
  have hrd : r ≠ bd := by have := hw4.vd.lt; omega
  have hne := hw4.ne
  clear hm5 hr hw4 hm4 s4 ka kb kc hm3 hw3 c1 c2 c3 c4 hdata
  obtain ⟨inv, has, new, fin, fin', k5, kk1, kk0, kk2⟩ := hpost
  simp only at inv has new fin fin' k5 kk1 kk0 kk2 hD5 hG5
  refine W.cutS (fun w' g' => (OW w' p m bs bt bd bo start s d' ∧ GBlk w' r g ∧ Mv (fun k => k = p ∨ k = m ∨ k = bo) w w') ∧ g' = [(0, .int .i64 fr), (1, .int .i64 n), (3, .pointer (some ⟨bt, 0, none⟩)), (4, .pointer (some ⟨bd, 0, none⟩)), (6, .pointer (some ⟨bo, 0, none⟩)), (12, .pointer (some ⟨r, 0, none⟩))]) ?_ ?_
  · obtain ⟨a0, a1, a2, a3⟩ := hG5.cls
    by_cases hk : g.kind = 1
    · have k1 : Kn (g.kind == 1) true := .of (by rw [hk]; rfl)
      apply W.readS LO mixed [0, 1, 3, 4, 6, 12, 38] (by kernel_rfl)
      · repeat' (first | rfl | with_reducible assumption | assumption | constructor)
      intro w6 f6 s6 hf6
      replace hf6 : f6 = [(0, _), (1, _), (3, _), (4, _), (6, _), (12, _), (38, _)] := hf6
      subst hf6
      refine W.cond (b := true) rfl (fun _ => ?_) (fun h => by cases h)
      obtain ⟨hfrom, happ⟩ := kk1 hk
      have hG6 := hG5.same s6
      have hvo6 := hvo5.same s6
      obtain ⟨a0, a1, a2, a3⟩ := hG6.cls
      have c4 := hvo6.cl
      have hsize : ((s.extract 0 d.pl.toNat).size : Int) = d.pl := by
        have h1 := I.p0; have h2 := I.p1
        rw [ByteArray.size_extract]; omega
      have k2 : Kn (g.from_ != ((s.extract 0 d.pl.toNat).size : Int)) false := .of (by rw [hfrom, hsize]; exact bne_self_eq_false _)
      refine W.cutS (fun w' g' => Same w6 w' ∧ g' = [(0, .int .i64 fr), (1, .int .i64 n), (3, .pointer (some ⟨bt, 0, none⟩)), (4, .pointer (some ⟨bd, 0, none⟩)), (6, .pointer (some ⟨bo, 0, none⟩)), (12, .pointer (some ⟨r, 0, none⟩))]) ?_ ?_
      ·
        apply W.readS LO mixed [0, 1, 3, 4, 6, 12, 43] (by kernel_rfl)
        · repeat' (first | rfl | with_reducible assumption | assumption | constructor)
        intro w7 f7 s7 hf7
        replace hf7 : f7 = [(0, _), (1, _), (3, _), (4, _), (6, _), (12, _), (43, _)] := hf7
        subst hf7
        refine W.cond (b := false) rfl (fun h => by cases h) (fun _ => W.skip ?_)
        exact N.cut ⟨s7, rfl⟩ (sub_keys rfl)
      rintro w7 _ ⟨s7, rfl⟩
      have hG7 := hG6.same s7
      have hvo7 := hvo6.same s7
      obtain ⟨a0, a1, a2, a3⟩ := hG7.cls
      have c4 := hvo7.cl
      have hgs : g.data.size ≤ s.size := by
        have := congrArg ByteArray.size happ
        rw [ByteArray.size_append, ByteArray.size_extract, ByteArray.size_extract] at this
        omega
      have hsum : (s.extract 0 d.pl.toNat).size + g.data.size ≤ 9223372036854775807 := by
        rw [ByteArray.size_extract]; omega
      refine W.list ?_
      apply Ls.runK LO [0, 1, 3, 4, 6, 12, 47] 4
      · repeat' (first | rfl | with_reducible assumption | assumption | constructor)
      intro w8 f8 s8 hf8
      replace hf8 : f8 = [(0, _), (1, _), (3, _), (4, _), (6, _), (12, _), (47, _)] := hf8
      subst hf8
      have hvo8 := hvo7.same s8
      refine Ls.store LO rfl rfl rfl rfl rfl (vs := [.string (s.extract 0 d.pl.toNat ++ g.data)]) rfl rfl rfl hvo8 rfl ?_
      intro w9 hb9 hm9 _
      refine Ls.nil (N.cut ⟨⟨?_, ?_, ?_⟩, rfl⟩ (sub_keys rfl))
      · refine ⟨(((hD5.same s6).same s7).same s8).moved hm9 hne.2.2.2.1 hne.2.2.2.2, (((hvs5.same s6).same s7).same s8).moved hm9 hne.1.2.2, (((hvt5.same s6).same s7).same s8).moved hm9 hne.2.1.2.2, (((hvd5.same s6).same s7).same s8).moved hm9 hne.2.2.1.2.2, ?_, hne⟩
        have : Var1 w9 bo 9 (.string (s.extract 0 d.pl.toNat ++ g.data)) := hb9
        rw [happ] at this
        exact this
      · exact (hG7.same s8).moved hm9 hro
      · exact (((hm5'.same s6).same s7).same s8).cut hm9 fun i _ e => .inr (.inr e)
    · have k1 : Kn (g.kind == 1) false := .of (by rw [beq_eq_false_iff_ne]; exact hk)
      apply W.readS LO mixed [0, 1, 3, 4, 6, 12, 38] (by kernel_rfl)
      · repeat' (first | rfl | with_reducible assumption | assumption | constructor)
      intro w6 f6 s6 hf6
      replace hf6 : f6 = [(0, _), (1, _), (3, _), (4, _), (6, _), (12, _), (38, _)] := hf6
      subst hf6
      refine W.cond (b := false) rfl (fun h => by cases h) (fun _ => W.skip ?_)
      refine N.cut ⟨⟨⟨hD5.same s6, hvs5.same s6, hvt5.same s6, hvd5.same s6, ?_, hne⟩, hG5.same s6, hm5'.same s6⟩, rfl⟩ (sub_keys rfl)
      rw [kk0 hk]
      exact hvo5.same s6
  rintro w6 _ ⟨⟨hw6, hG6, hm6⟩, rfl⟩
  obtain ⟨a0, a1, a2, a3⟩ := hG6.cls
  have ct := hw6.vt.cl
  have cd := hw6.vd.cl
  have co := hw6.vo.cl
  have q1 := quiet_of (w := w6) fun w' s' => at_says p m d' w' (hw6.dir.same s')
  have k5' : Kn (g.kind != 5) true := .of (by rw [bne_iff_ne]; exact k5)
  have hsize : ((s.extract 0 d'.pl.toNat).size : Int) = d'.pl := by
    have h1 := inv.p0; have h2 := inv.p1
    rw [ByteArray.size_extract]; omega
  have k6 : Kn (d'.pl == ((s.extract 0 d'.pl.toNat).size : Int)) true := .of (by rw [hsize]; exact beq_self_eq_true _)
  have last : ∀ w7, Same w6 w7 → CloPost start s p m bs bt bd bo d fr n w (.returned (.bool true)) w7 := fun w7 s7 =>
    ⟨rfl, d', inv, hw6.same s7, has, new, fin, fin', hm6.same s7⟩
  by_cases hk2 : g.kind = 2
  · have k7 : Kn (g.kind != 2) false := .of (by rw [hk2]; rfl)
    have e1 : (fr : Int).toNat = fr := by omega
    have e2 : ((fr : Int) + n).toNat = fr + n := by omega
    have k8 : Kn (g.data.toList == (s.extract (fr : Int).toNat ((fr : Int) + n).toNat).toList) true := .of (by rw [kk2 hk2, e1, e2]; exact beq_self_eq_true _)
    apply W.readS LO mixed [10] (by kernel_rfl)
    · repeat' (first | rfl | with_reducible assumption | assumption | constructor)
    intro w7 f7 s7 hf7
    replace hf7 : f7 = [(10, _)] := hf7
    subst hf7
    exact W.ret (post LO (rs := [.tmp 10]) rfl (vs := [.bool true]) (.tmp rfl .nil) (last w7 s7))
  · have k7 : Kn (g.kind != 2) true := .of (by rw [bne_iff_ne]; exact hk2)
    apply W.readS LO mixed [10] (by kernel_rfl)
    · repeat' (first | rfl | with_reducible assumption | assumption | constructor)
    intro w7 f7 s7 hf7
    replace hf7 : f7 = [(10, _)] := hf7
    subst hf7
    exact W.ret (post LO (rs := [.tmp 10]) rfl (vs := [.bool true]) (.tmp rfl .nil) (last w7 s7))
end Go.Proofs.Ytieolnekccacbaa
