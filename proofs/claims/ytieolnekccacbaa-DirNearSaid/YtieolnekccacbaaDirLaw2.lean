/- What is proved: the law of what is told again. Conditions: those that stand in each theorem. -/
import Derived.Test.YtieolnekccacbaaDirLaw1
namespace Go.Proofs.Ytieolnekccacbaa
set_option linter.unusedVariables false
set_option linter.unusedSimpArgs false
set_option linter.unusedSectionVars false
open Go.RowKit Go.Maps Go.MapKept Go.ChangeMaps Fw
/-! ### Plain -/
theorem bytes_ext {a b : ByteArray} (h : a.data.toList = b.data.toList) : a = b := by
  cases a; cases b
  congr
  exact Array.toList_inj.1 h
theorem app_none (s : ByteArray) : s ++ strOfNums [] = s := by
  apply bytes_ext
  simp [strOfNums]
theorem none_app (s : ByteArray) : (⟨#[]⟩ : ByteArray) ++ s = s := by
  apply bytes_ext
  simp
theorem keep_self {s : ByteArray} {n : Int} (h : s.size ≤ n.toNat) : keep s n = s := by
  unfold keep
  rw [show s.size - n.toNat = 0 by omega]
  exact ByteArray.extract_zero_size
theorem keep_part (s : ByteArray) (n : Int) (a b : Nat) (h0 : s.size - n.toNat ≤ a) (h1 : a ≤ b) (h2 : b ≤ s.size) : (keep s n).extract (a - (s.size - n.toNat)) (b - (s.size - n.toNat)) = s.extract a b := by
  unfold keep
  apply bytes_ext
  simp only [ByteArray.data_extract, Array.extract_extract]
  have e1 : s.size - n.toNat + (a - (s.size - n.toNat)) = a := by omega
  have e2 : min (s.size - n.toNat + (b - (s.size - n.toNat))) s.size = b := by omega
  rw [e1, e2]
/-- A push of what went on. -/
theorem push_old (d : DS) (n : Int) (s : ByteArray) (off : Int) (hoff : plc d.start n d.pl = off) (hs : s.size ≠ 0) (h0 : 0 ≤ d.pl) (hb : 0 ≤ d.buffer) (hf : d.fin = -1) (hdone : d.done = false) (hd : (d.held.map (·.1)).Nodup) (hno : d.held.lookup d.pl = none)
    (hl : d.last.size ≤ d.hist.toNat) (hen : off + s.size ≤ d.pl) :
    d.push n s false = (d, if 0 ≤ off ∧ d.pl - d.hist ≤ off then ⟨2, off, d.last.extract (off - (d.pl - d.last.size)).toNat (off + s.size - (d.pl - d.last.size)).toNat, false⟩ else ⟨3, 0, ⟨#[]⟩, false⟩) := by
  unfold DS.push
  rw [if_neg (by omega), hoff]
  have t : d.trim off (off + s.size) s false = (off + s.size, s, false) := by
    unfold DS.trim
    rw [if_pos (by rw [hf]; decide)]
  rw [t, if_neg (by show ¬ d.pl + d.buffer < off + s.size; omega)]
  have hi : ins d.held off s.data.toList d.pl = d.held := ins_low _ _ _ _ (by have : s.data.toList.length = s.size := Array.length_toList; omega)
  have h4 : d = ⟨d.start, d.buffer, d.hist, d.pl + ((0 : Nat) : Int), (ins d.held off s.data.toList d.pl).filter (fun q => !(decide (d.pl ≤ q.1) && decide (q.1 < d.pl + ((0 : Nat) : Int)))), keep (d.last ++ strOfNums ((List.range 0).map fun _ => 0)) d.hist, -1, d.done || false⟩ := by
    have e1 : (ins d.held off s.data.toList d.pl).filter (fun q => !(decide (d.pl ≤ q.1) && decide (q.1 < d.pl + ((0 : Nat) : Int)))) = d.held := by
      rw [hi]
      apply List.filter_eq_self.2
      intro q _
      simp only [Bool.not_eq_true', Bool.and_eq_false_iff, decide_eq_false_iff_not]
      omega
    have e2 : keep (d.last ++ strOfNums ((List.range 0).map fun _ => 0)) d.hist = d.last := by
      rw [show (List.range 0).map (fun _ => (0 : Int)) = [] from rfl, app_none, keep_self hl]
    rw [e1, e2]
    cases d
    simp_all
  have hlast : false = (decide (d.pl + ((0 : Nat) : Int) = -1) && !d.done) := by
    rw [decide_eq_false (by omega)]; rfl
  have := push2_eq d off (off + s.size) s false (-1) (by rw [hf]; simp) hd 0 (fun _ => 0) (fun i hi => absurd hi (Nat.not_lt_zero i)) (by left; rw [hi]; simpa using hno) false hlast d h4
  rw [this]
  rw [if_neg (by simp), if_neg (by omega)]
  simp only [Int.ofNat_zero, Int.add_zero, Bool.false_and]
def od1 (start h : Int) (text : ByteArray) : DS := ⟨start, 200, max 0 (min h 1024), text.size, [], keep text (max 0 (min h 1024)), -1, false⟩
theorem bytes_len (s : ByteArray) : s.data.toList.length = s.size := Array.length_toList
theorem text_at (text : ByteArray) (x : Int) : (ins [] 0 text.data.toList 0).lookup x = if 0 ≤ x ∧ x < text.size then some (byteAt text.data.toList x) else none := by
  rw [ins_lookup, bytes_len]
  by_cases h : 0 ≤ x ∧ x < text.size
  · rw [if_pos h, if_pos (show 0 ≤ x ∧ 0 ≤ x ∧ x < 0 + (text.size : Int) by omega), Int.sub_zero]; rfl
  · rw [if_neg h, if_neg (show ¬ (0 ≤ x ∧ 0 ≤ x ∧ x < 0 + (text.size : Int)) by omega)]; rfl
/-- A text that comes first, whole. -/
theorem push_first (start b h : Int) (hs : 0 ≤ start ∧ start < 4294967296) (text : ByteArray) (hn : text.size ≠ 0) (hb : (text.size : Int) ≤ max 0 (min b 1024)) :
    (DS.new start b h).push start text false = (⟨start, max 0 (min b 1024), max 0 (min h 1024), text.size, [], keep text (max 0 (min h 1024)), -1, false⟩, ⟨1, 0, text, false⟩) := by
  unfold DS.push
  rw [if_neg (by omega)]
  have e : plc (DS.new start b h).start start (DS.new start b h).pl = 0 := by
    have := plc_at (start := start) (o := 0) (near := 0) hs (by decide) (by decide) (by decide)
    rw [Int.add_zero, Int.emod_eq_of_lt hs.1 hs.2] at this
    exact this
  rw [e]
  have t : (DS.new start b h).trim 0 ((0 : Int) + text.size) text false = ((0 : Int) + text.size, text, false) := by
    unfold DS.trim
    rw [if_pos (by show (-1 : Int) < 0; decide)]
  rw [t, if_neg (by show ¬ (0 : Int) + max 0 (min b 1024) < 0 + (text.size : Int); omega)]
  have hT : ∀ i : Nat, i < text.size → (ins (DS.new start b h).held 0 text.data.toList (DS.new start b h).pl).lookup ((DS.new start b h).pl + i) = some ((fun i : Nat => byteAt text.data.toList (((0 : Nat) : Int) + (i : Int))) i) ∧ (DS.new start b h).pl + i ≠ -1 := by
    intro i hi
    refine ⟨?_, by show (0 : Int) + i ≠ -1; omega⟩
    show (ins [] 0 text.data.toList 0).lookup (0 + (i : Int)) = _
    rw [text_at, if_pos (by omega)]
    rfl
  have hE : (ins (DS.new start b h).held 0 text.data.toList (DS.new start b h).pl).lookup ((DS.new start b h).pl + (text.size : Int)) = none ∨ (DS.new start b h).pl + (text.size : Int) = -1 := by
    left
    show (ins [] 0 text.data.toList 0).lookup (0 + (text.size : Int)) = _
    rw [text_at, if_neg (by omega)]
  have hout : strOfNums ((List.range text.size).map fun i : Nat => byteAt text.data.toList (((0 : Nat) : Int) + (i : Int))) = text := by
    rw [nums_part text text.size 0 (by omega), Nat.zero_add]
    exact ByteArray.extract_zero_size
  have h4 : (⟨start, max 0 (min b 1024), max 0 (min h 1024), text.size, [], keep text (max 0 (min h 1024)), -1, false⟩ : DS) = ⟨start, max 0 (min b 1024), max 0 (min h 1024), 0 + (text.size : Int), (ins [] 0 text.data.toList 0).filter (fun q => !(decide (0 ≤ q.1) && decide (q.1 < 0 + (text.size : Int)))), keep (⟨#[]⟩ ++ strOfNums ((List.range text.size).map fun i : Nat => byteAt text.data.toList (((0 : Nat) : Int) + (i : Int)))) (max 0 (min h 1024)), -1, false || false⟩ := by
    rw [hout, none_app]
    congr 1
    · omega
    · symm
      apply List.filter_eq_nil_iff.2
      intro q hq
      have hm := lookup_of_mem (ins_nodup text.data.toList [] 0 0 List.nodup_nil) hq
      rw [text_at] at hm
      by_cases h2 : 0 ≤ q.1 ∧ q.1 < (text.size : Int)
      · simp only [Bool.not_eq_true, Bool.not_eq_false', Bool.and_eq_true, decide_eq_true_eq]; omega
      · rw [if_neg h2] at hm; cases hm
  have hlast : false = (decide ((DS.new start b h).pl + (text.size : Int) = -1) && !(DS.new start b h).done) := by
    rw [decide_eq_false (by show ¬ (0 : Int) + (text.size : Int) = -1; omega)]; rfl
  rw [push2_eq (DS.new start b h) 0 ((0 : Int) + text.size) text false (-1) rfl List.nodup_nil text.size _ hT hE false hlast _ h4]
  rw [if_pos (by left; omega), hout]; rfl
theorem od1_old (start h : Int) (hs : 0 ≤ start ∧ start < 4294967296) (hh : 0 ≤ h ∧ h < 120) (text : ByteArray) (hn : text.size ≤ 100) (n off : Int) (hoff : plc start n text.size = off) (s : ByteArray) (hsz : s.size ≠ 0) (hen : off + s.size ≤ text.size) :
    (od1 start h text).push n s false = (od1 start h text, if 0 ≤ off ∧ text.size - h ≤ off then ⟨2, off, text.extract off.toNat (off.toNat + s.size), false⟩ else ⟨3, 0, ⟨#[]⟩, false⟩) := by
  have hm : max 0 (min h 1024) = h := by omega
  have hl : (od1 start h text).last.size ≤ (od1 start h text).hist.toNat := by
    show (keep text (max 0 (min h 1024))).size ≤ (max 0 (min h 1024)).toNat
    rw [size_keep]; omega
  have := push_old (od1 start h text) n s off hoff hsz (by show (0 : Int) ≤ text.size; omega) (by show (0 : Int) ≤ 200; decide) rfl rfl List.nodup_nil rfl hl hen
  rw [this]
  show (od1 start h text, if 0 ≤ off ∧ (text.size : Int) - max 0 (min h 1024) ≤ off then (⟨2, off, (keep text (max 0 (min h 1024))).extract (off - (text.size - (keep text (max 0 (min h 1024))).size)).toNat (off + s.size - (text.size - (keep text (max 0 (min h 1024))).size)).toNat, false⟩ : GotV) else ⟨3, 0, ⟨#[]⟩, false⟩) = _
  rw [hm]
  by_cases hc : 0 ≤ off ∧ (text.size : Int) - h ≤ off
  · rw [if_pos hc, if_pos hc, size_keep]
    have := keep_part text h off.toNat (off.toNat + s.size) (by omega) (by omega) (by omega)
    rw [← this]
    congr 3 <;> omega
  · rw [if_neg hc, if_neg hc]
theorem od1_can (start h : Int) (text : ByteArray) (hn : text.size ≤ 100) (n : Nat) (h1 : n ≤ 100) : Can (od1 start h text) n := by
  refine ⟨by show (0 : Int) ≤ text.size; omega, by show (text.size : Int) ≤ _; omega, by show (-1 : Int) ≤ -1; decide, by show (-1 : Int) ≤ _; decide, by omega, by show (0 : Int) ≤ 200; decide, by show (200 : Int) ≤ 1024; decide, ⟨by show 0 + n ≤ _; omega, by show 0 ≤ max 0 (min h 1024); omega, by show max 0 (min h 1024) ≤ 1024; omega, ?_⟩⟩
  show ((keep text (max 0 (min h 1024))).size : Int) = min (max 0 (min h 1024)) text.size
  rw [size_keep]; omega
/-! ### The walk -/
set_option maxRecDepth 100000 in
set_option maxHeartbeats 4000000 in
theorem olds_walk (start : Int) (text : ByteArray) (hi fr n : Int) (w : World) (hs : 0 ≤ start ∧ start < 4294967296) (hh : -9223372036854775808 ≤ hi ∧ hi ≤ 9223372036854775807) (hf : -9223372036854775808 ≤ fr ∧ fr ≤ 9223372036854775807) (hn : -9223372036854775808 ≤ n ∧ n ≤ 9223372036854775807) :
    Calls Try.prog 3 #[.int .u32 start, .string text, .int .i64 hi, .int .i64 fr, .int .i64 n] w (Yes w) := by
  refine calls_W (n := 128) (vs := [.int .u32 start, .string text, .int .i64 hi, .int .i64 fr, .int .i64 n]) Try.func3 rfl rfl rfl ?_
  apply W.readS LO mixed [0, 1, 2, 3, 4] (by kernel_rfl)
  · repeat' (first | rfl | with_reducible assumption | assumption | constructor)
  intro w1 f1 s1 hf1
  replace hf1 : f1 = [(0, _), (1, _), (2, _), (3, _), (4, _)] := hf1
  subst hf1
  refine W.cutS (fun w' g => (Same w w' ∧ g = [(0, .int .u32 start), (1, .string text), (2, .int .i64 hi), (3, .int .i64 fr), (4, .int .i64 n)]) ∧ text.size ≠ 0 ∧ text.size ≤ 100) ?_ ?_
  · by_cases hsz : text.size ≠ 0 ∧ text.size ≤ 100
    · have k1 : Kn (decide ((text.size : Int) < 1)) false := .no (by omega)
      have k2 : Kn (decide (100 < (text.size : Int))) false := .no (by omega)
      apply W.readS LO mixed [0, 1, 2, 3, 4, 25] (by kernel_rfl)
      · repeat' (first | rfl | with_reducible assumption | assumption | constructor)
      intro w4 f4 s4 hf4
      replace hf4 : f4 = [(0, _), (1, _), (2, _), (3, _), (4, _), (25, _)] := hf4
      subst hf4
      refine W.cond (b := false) rfl (fun h => by cases h) (fun _ => W.skip ?_)
      exact N.cut ⟨⟨s1.trans s4, rfl⟩, hsz⟩ (sub_keys rfl)
    · obtain ⟨c1, c2, k1, k2, hc⟩ : ∃ c1 c2, Kn (decide ((text.size : Int) < 1)) c1 ∧ Kn (decide (100 < (text.size : Int))) c2 ∧ (c1 = true ∨ c1 = false ∧ c2 = true) := by
        by_cases h0 : text.size = 0
        · exact ⟨true, false, .yes (by omega), .no (by omega), .inl rfl⟩
        · exact ⟨false, true, .no (by omega), .yes (by omega), .inr ⟨rfl, rfl⟩⟩
      refine W.cutS (fun w' g => Same w w' ∧ g = [(25, .bool true)]) ?_ ?_
      · rcases hc with rfl | ⟨rfl, rfl⟩
        ·
          apply W.readN LO mixed [25] (by kernel_rfl)
          · repeat' (first | rfl | with_reducible assumption | assumption | constructor)
          intro w4 f4 s4 hf4
          replace hf4 : f4 = [(25, _)] := hf4
          subst hf4
          exact N.cut ⟨s1.trans s4, rfl⟩ (sub_keys rfl)
        ·
          apply W.readN LO mixed [25] (by kernel_rfl)
          · repeat' (first | rfl | with_reducible assumption | assumption | constructor)
          intro w4 f4 s4 hf4
          replace hf4 : f4 = [(25, _)] := hf4
          subst hf4
          exact N.cut ⟨s1.trans s4, rfl⟩ (sub_keys rfl)
      rintro w5 _ ⟨s5, rfl⟩
      refine W.cond (b := true) rfl (fun _ => ?_) (fun h => by cases h)
      refine W.seq (W.list ?_)
      refine Ls.call LO rfl rfl rfl rfl rfl (vs := []) rfl (awake_walk w5) ?_
      rintro _ w6 ⟨rfl, hm6⟩
      refine ⟨_, rfl, ?_⟩
      apply Ls.runK LO [10] 1
      · repeat' (first | rfl | with_reducible assumption | assumption | constructor)
      intro w7 f7 s7 hf7
      replace hf7 : f7 = [(10, _)] := hf7
      subst hf7
      refine Ls.nil (N.to (W.ret (N.thenR (post LO (rs := [.tmp 10]) rfl (vs := [.bool true]) (.tmp rfl .nil) ⟨rfl, ((((Mv.refl _ w).same s5).trans hm6)).same s7⟩))))
  rintro w2 _ ⟨⟨s2, rfl⟩, hsz0, hsz1⟩
  have q1 := quiet_of (w := w2) fun w' s' => place00_says hi 120 w' (by decide) (by decide) hh.1 hh.2
  obtain ⟨h, hh', hhr⟩ : ∃ h, hi % 120 = h ∧ (0 ≤ h ∧ h < 120) := ⟨_, rfl, by omega⟩
  rw [hh'] at q1
  apply W.readS LO mixed [0, 1, 3, 4, 11] (by kernel_rfl)
  · repeat' (first | rfl | with_reducible assumption | assumption | constructor)
  intro w3 f3 s3 hf3
  replace hf3 : f3 = [(0, _), (1, _), (3, _), (4, _), (11, _)] := hf3
  subst hf3
  refine W.seq (W.list ?_)
  apply Ls.runK LO [0, 1, 3, 4, 11, 29, 30] 2
  · repeat' (first | rfl | with_reducible assumption | assumption | constructor)
  intro w4 f4 s4 hf4
  replace hf4 : f4 = [(0, _), (1, _), (3, _), (4, _), (11, _), (29, _), (30, _)] := hf4
  subst hf4
  refine Ls.call LO rfl rfl rfl rfl rfl (vs := [.int .u32 start, .int .i64 200, .int .i64 h]) rfl (start_walk start 200 h w4) ?_
  rintro _ w5 ⟨p, m, rfl, hD, hp, hm, hmv4⟩
  refine ⟨_, rfl, ?_⟩
  apply Ls.runK LO [0, 1, 3, 4, 11, 12] 1
  · repeat' (first | rfl | with_reducible assumption | assumption | constructor)
  intro w6 f6 s6 hf6
  replace hf6 : f6 = [(0, _), (1, _), (3, _), (4, _), (11, _), (12, _)] := hf6
  subst hf6
  refine Ls.nil (N.to ?_)
  have hD := hD.same s6
  have hmv : Mv (fun _ => False) w w6 := (((((Mv.refl _ w).same s2).same s3).same s4).trans hmv4).same s6
  have hp : w.heap.size ≤ p := by rw [s4.heap, s3.heap, s2.heap] at hp; exact hp
  have hm : w.heap.size ≤ m := by rw [s4.heap, s3.heap, s2.heap] at hm; exact hm
  clear hmv4 s1 s2 s3 s4 s6 q1 hh'
  refine W.cutS (fun w' g => Same w6 w' ∧ g = [(0, .int .u32 start), (1, .string text), (3, .int .i64 fr), (4, .int .i64 n), (11, .int .i64 h), (12, .pointer (some ⟨p, 0, none⟩))]) ?_ ?_
  ·
    apply W.readS LO mixed [0, 1, 3, 4, 11, 12, 33] (by kernel_rfl)
    · repeat' (first | rfl | with_reducible assumption | assumption | constructor)
    intro w4 f4 s4 hf4
    replace hf4 : f4 = [(0, _), (1, _), (3, _), (4, _), (11, _), (12, _), (33, _)] := hf4
    subst hf4
    refine W.cond (b := false) rfl (fun h => by cases h) (fun _ => W.skip ?_)
    exact N.cut ⟨s4, rfl⟩ (sub_keys rfl)
  rintro w7 _ ⟨s7, rfl⟩
  have hD := hD.same s7
  have hmv := hmv.same s7
  clear s7
  -- the text
  refine W.seq (W.list ?_)
  apply Ls.runK LO [0, 1, 3, 4, 11, 12, 34, 35, 36] 3
  · repeat' (first | rfl | with_reducible assumption | assumption | constructor)
  intro w8 f8 s8 hf8
  replace hf8 : f8 = [(0, _), (1, _), (3, _), (4, _), (11, _), (12, _), (34, _), (35, _), (36, _)] := hf8
  subst hf8
  refine Ls.pushed (sq := start) (s := text) (fin := false) rfl rfl rfl rfl rfl rfl rfl rfl rfl rfl rfl rfl rfl (hD.same s8) (new_can _ _ _ _ (by omega)) ?_
  rw [push_first start 200 h hs text hsz0 (by omega)]
  intro w9 r hD9 hG9 hrp hrm hr hm9
  have hmv9 : Mv (fun _ => False) w w9 := (hmv.same s8).cut hm9 fun i hi e => by rcases e with e | e <;> omega
  have hr : w.heap.size ≤ r := Nat.le_trans (hmv.same s8).size hr
  refine Ls.nil (N.to ?_)
  obtain ⟨a0, a1, a2, a3⟩ := hG9.cls
  have hD9 : DirAt w9 p m (od1 start h text) := hD9
  clear hmv hD hm9 s8
  refine W.cutS (fun w' g => Same w9 w' ∧ g = [(0, .int .u32 start), (1, .string text), (3, .int .i64 fr), (4, .int .i64 n), (11, .int .i64 h), (12, .pointer (some ⟨p, 0, none⟩))]) ?_ ?_
  · have ks : Kn (text.toList == text.toList) true := .of (beq_self_eq_true _)
    apply W.readS LO mixed [0, 1, 3, 4, 11, 12, 46] (by kernel_rfl)
    · repeat' (first | rfl | with_reducible assumption | assumption | constructor)
    intro w4 f4 s4 hf4
    replace hf4 : f4 = [(0, _), (1, _), (3, _), (4, _), (11, _), (12, _), (46, _)] := hf4
    subst hf4
    refine W.cond (b := false) rfl (fun h => by cases h) (fun _ => W.skip ?_)
    exact N.cut ⟨s4, rfl⟩ (sub_keys rfl)
  rintro w10 _ ⟨s10, rfl⟩
  have hD9 := hD9.same s10
  have hmv9 := hmv9.same s10
  clear s10 a0 a1 a2 a3 hG9
  -- the place and the length
  obtain ⟨F, hF⟩ : ∃ F : Nat, fr % (text.size : Int) = F := ⟨(fr % (text.size : Int)).toNat, by have := Int.emod_nonneg fr (show (text.size : Int) ≠ 0 by omega); omega⟩
  have hF1 : F < text.size := by have := Int.emod_lt_of_pos fr (show (0 : Int) < text.size by omega); omega
  have q1 := quiet_of (w := w10) fun w' s' => place00_says fr text.size w' (by omega) (by omega) hf.1 hf.2
  rw [hF] at q1
  apply W.readS LO mixed [0, 1, 4, 11, 12, 14] (by kernel_rfl)
  · repeat' (first | rfl | with_reducible assumption | assumption | constructor)
  intro w11 f11 s11 hf11
  replace hf11 : f11 = [(0, _), (1, _), (4, _), (11, _), (12, _), (14, _)] := hf11
  subst hf11
  have hD9 := hD9.same s11
  have hmv9 := hmv9.same s11
  clear q1 s11
  obtain ⟨K, hK⟩ : ∃ K : Nat, 1 + n % ((text.size : Int) - F) = K := ⟨(1 + n % ((text.size : Int) - F)).toNat, by have := Int.emod_nonneg n (show (text.size : Int) - F ≠ 0 by omega); omega⟩
  have hK1 : 1 ≤ K ∧ F + K ≤ text.size := by have := Int.emod_nonneg n (show (text.size : Int) - F ≠ 0 by omega); have := Int.emod_lt_of_pos n (show (0 : Int) < (text.size : Int) - F by omega); omega
  have k0 : Kn (IntKind.i64.wrap ((text.size : Int) - F)) ((text.size : Int) - F) := .of (IntWalk.i64_in _ (by omega))
  have q1 := quiet_of (w := w11) fun w' s' => place00_says n ((text.size : Int) - F) w' (by omega) (by omega) hn.1 hn.2
  have k1 : Kn (IntKind.i64.wrap (1 + n % ((text.size : Int) - F))) (K : Int) := .of (by rw [hK]; exact IntWalk.i64_in _ (by omega))
  apply W.readS LO mixed [0, 1, 11, 12, 14, 15] (by kernel_rfl)
  · repeat' (first | rfl | with_reducible assumption | assumption | constructor)
  intro w12 f12 s12 hf12
  replace hf12 : f12 = [(0, _), (1, _), (11, _), (12, _), (14, _), (15, _)] := hf12
  subst hf12
  have hD9 := hD9.same s12
  have hmv9 := hmv9.same s12
  clear q1 k0 k1 s12 hF hK hf hn
  -- again
  refine W.seq (W.list ?_)
  have k1 : Kn (IntKind.u32.wrap (F : Int)) (F : Int) := .of (by show (F : Int) % 4294967296 = F; omega)
  have k2 : Kn (IntKind.u32.wrap (start + (F : Int))) ((start + (F : Int)) % 4294967296) := .of rfl
  apply Ls.runK LO [0, 1, 11, 12, 14, 15, 58, 62, 63] 6
  · repeat' (first | rfl | with_reducible assumption | assumption | constructor)
  intro w13 f13 s13 hf13
  replace hf13 : f13 = [(0, _), (1, _), (11, _), (12, _), (14, _), (15, _), (58, _), (62, _), (63, _)] := hf13
  subst hf13
  have hD9 := hD9.same s13
  have hmv9 := hmv9.same s13
  refine Ls.zeros rfl rfl rfl rfl (k := K) rfl rfl rfl rfl rfl (by omega) ?_
  intro w14 m14
  have hD9 := hD9.moved m14 (fun e => e) (fun e => e)
  have hmv9 := hmv9.trans m14
  clear s13 m14 k1 k2
  refine Ls.pushed (sq := (start + F) % 4294967296) (s := Go.Proofs.Ytieolnekccacbaa.zeros K) (fin := false) rfl rfl rfl rfl rfl rfl rfl rfl rfl rfl rfl rfl rfl hD9 (od1_can start h text hsz1 _ (by rw [size_zeros]; omega)) ?_
  rw [od1_old start h hs hhr text hsz1 _ F (plc_at hs (by omega) (by omega) (by omega)) (Go.Proofs.Ytieolnekccacbaa.zeros K) (by rw [size_zeros]; omega) (by rw [size_zeros]; omega), size_zeros]
  intro w15 r2 hD15 hG15 hrp15 hrm15 hr15 hm15
  have hmv15 : Mv (fun _ => False) w w15 := hmv9.cut hm15 fun i hi e => by rcases e with e | e <;> omega
  have hr15 : w.heap.size ≤ r2 := Nat.le_trans hmv9.size hr15
  clear hmv9 hD9 hm15
  refine Ls.nil (N.to ?_)
  obtain ⟨a0, a1, a2, a3⟩ := hG15.cls
  have k0 : Kn (IntKind.i64.wrap ((text.size : Int) - h)) ((text.size : Int) - h) := .of (IntWalk.i64_in _ (by omega))
  by_cases hg : (F : Int) < (text.size : Int) - h
  · rw [if_neg (by omega)] at a0 a1 a2 a3
    have k1 : Kn (decide ((F : Int) < (text.size : Int) - h)) true := .yes hg
    have ks : Kn ((⟨#[]⟩ : ByteArray).toList == (⟨#[]⟩ : ByteArray).toList) true := .of (beq_self_eq_true _)
    refine W.cutS (fun _ _ => False) ?_ (fun _ _ h => h.elim)
    apply W.readS LO mixed [16, 72] (by kernel_rfl)
    · repeat' (first | rfl | with_reducible assumption | assumption | constructor)
    intro w16 f16 s16 hf16
    replace hf16 : f16 = [(16, _), (72, _)] := hf16
    subst hf16
    refine W.cond (b := true) rfl (fun _ => ?_) (fun h => by cases h)
    obtain ⟨a0, a1, a2, a3⟩ := (hG15.same s16).cls
    rw [if_neg (by omega)] at a0 a1 a2 a3
    refine W.seq (W.list ?_)
    apply Ls.runK LO [81] 9
    · repeat' (first | rfl | with_reducible assumption | assumption | constructor)
    intro w17 f17 s17 hf17
    replace hf17 : f17 = [(81, _)] := hf17
    subst hf17
    have hmv17 := (hmv15.same s16).same s17
    refine Ls.call LO rfl rfl rfl rfl rfl (vs := []) rfl (awake_walk w17) ?_
    rintro _ w18 ⟨rfl, hm18⟩
    refine ⟨_, rfl, ?_⟩
    apply Ls.runK LO [10] 2
    · repeat' (first | rfl | with_reducible assumption | assumption | constructor)
    intro w19 f19 s19 hf19
    replace hf19 : f19 = [(10, _)] := hf19
    subst hf19
    refine Ls.nil (N.to (W.ret (N.thenR (post LO (rs := [.tmp 10]) rfl (vs := [.bool true]) (.tmp rfl .nil) ⟨rfl, (hmv17.trans hm18).same s19⟩))))
  · have k1 : Kn (decide ((F : Int) < (text.size : Int) - h)) false := .no hg
    refine W.cutS (fun w' g => Same w15 w' ∧ g = [(0, .int .u32 start), (1, .string text), (12, .pointer (some ⟨p, 0, none⟩)), (14, .int .i64 F), (15, .int .i64 K), (16, .pointer (some ⟨r2, 0, none⟩))]) ?_ ?_
    ·
      apply W.readS LO mixed [0, 1, 12, 14, 15, 16, 72] (by kernel_rfl)
      · repeat' (first | rfl | with_reducible assumption | assumption | constructor)
      intro w4 f4 s4 hf4
      replace hf4 : f4 = [(0, _), (1, _), (12, _), (14, _), (15, _), (16, _), (72, _)] := hf4
      subst hf4
      refine W.cond (b := false) rfl (fun h => by cases h) (fun _ => W.skip ?_)
      exact N.cut ⟨s4, rfl⟩ (sub_keys rfl)
    rintro w16 _ ⟨s16, rfl⟩
    have hD15 := hD15.same s16
    have hmv15 := hmv15.same s16
    have hG15 := hG15.same s16
    rw [if_pos (by omega)] at hG15
    clear a0 a1 a2 a3 s16 k0 k1
    refine W.seq (W.list ?_)
    have k2 : Kn (IntKind.u32.wrap (start - 1)) ((start + -1) % 4294967296) := .of rfl
    apply Ls.runK LO [1, 12, 14, 15, 16, 84, 86] 3
    · repeat' (first | rfl | with_reducible assumption | assumption | constructor)
    intro w17 f17 s17 hf17
    replace hf17 : f17 = [(1, _), (12, _), (14, _), (15, _), (16, _), (84, _), (86, _)] := hf17
    subst hf17
    have hD15 := hD15.same s17
    have hmv15 := hmv15.same s17
    have hG15 := hG15.same s17
    have hr2 : r2 < w17.heap.size := (Array.getElem?_eq_some_iff.1 hG15).1
    refine Ls.pushed (sq := (start + -1) % 4294967296) (s := ⟨#[122]⟩) (fin := false) rfl rfl rfl rfl rfl rfl rfl rfl rfl rfl rfl rfl rfl hD15 (od1_can start h text hsz1 1 (by omega)) ?_
    rw [od1_old start h hs hhr text hsz1 _ (-1) (plc_at hs (by omega) (by omega) (by omega)) ⟨#[122]⟩ (by decide) (by show (-1 : Int) + ((1 : Nat) : Int) ≤ _; omega), if_neg (by omega)]
    intro w18 r3 hD18 hG18 hrp18 hrm18 hr18 hm18
    have hG15 := hG15.moved hm18 (fun e => by rcases e with e | e <;> omega)
    have hmv18 : Mv (fun _ => False) w w18 := hmv15.cut hm18 fun i hi e => by rcases e with e | e <;> omega
    clear hmv15 hm18 s17 k2
    refine Ls.nil (N.to ?_)
    obtain ⟨a0, a1, a2, a3⟩ := hG15.cls
    obtain ⟨b0, b1, b2, b3⟩ := hG18.cls
    have k1 : Kn (IntKind.i64.wrap ((F : Int) + K)) ((F : Int) + K) := .of (IntWalk.i64_in _ (by omega))
    have ks : Kn ((text.extract (F : Int).toNat ((F : Int).toNat + K)).toList == (text.extract (F : Int).toNat ((F : Int) + K).toNat).toList) true := .of (by rw [show ((F : Int) + K).toNat = (F : Int).toNat + K by omega]; exact beq_self_eq_true _)
    have kf : Kn ((F : Int) == F) true := .of (beq_self_eq_true _)
    have g0 : 0 ≤ (F : Int) := by omega
    have g1 : (F : Int) ≤ (F : Int) + K := by omega
    have g2 : (F : Int) + K ≤ (text.size : Int) := by omega
    refine W.seq ?_
    have q1 := quiet_of (w := w18) fun w' s' => at_says p m (od1 start h text) w' (hD18.same s')
    have kt : Kn ((text.size : Int) == text.size) true := .of (beq_self_eq_true _)
    apply W.qtailK LO mixed [125] 38 (by kernel_rfl)
    · repeat' (first | rfl | with_reducible assumption | assumption | constructor)
    intro w20 f20 s20 hf20
    replace hf20 : f20 = [(125, _)] := hf20
    subst hf20
    have hmv20 := hmv18.same s20
    refine Ls.call LO rfl rfl rfl rfl rfl (vs := []) rfl (awake_walk w20) ?_
    rintro _ w21 ⟨rfl, hm21⟩
    refine ⟨_, rfl, ?_⟩
    apply Ls.runK LO [10] 2
    · repeat' (first | rfl | with_reducible assumption | assumption | constructor)
    intro w22 f22 s22 hf22
    replace hf22 : f22 = [(10, _)] := hf22
    subst hf22
    refine Ls.nil (N.to (W.ret (post LO (rs := [.tmp 10]) rfl (vs := [.bool true]) (.tmp rfl .nil) ⟨rfl, (hmv20.trans hm21).same s22⟩)))
theorem olds_law (start : Int) (text : ByteArray) (hi fr n : Int) (w : World) (h0 : (Lit.int .u32 start).wf = true) (_ : text.size ≤ 140737488351232) (h1 : (Lit.int .i64 hi).wf = true) (h2 : (Lit.int .i64 fr).wf = true) (h3 : (Lit.int .i64 n).wf = true) :
    Calls Try.prog 3 #[.int .u32 start, .string text, .int .i64 hi, .int .i64 fr, .int .i64 n] w (Yes w) :=
  olds_walk start text hi fr n w (by have := bounds_u32 h0; omega) (bounds_i64 h1) (bounds_i64 h2) (bounds_i64 h3)
end Go.Proofs.Ytieolnekccacbaa
