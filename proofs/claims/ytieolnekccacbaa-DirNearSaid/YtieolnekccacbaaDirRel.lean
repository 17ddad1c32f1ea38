/- What is proved: what 'release' answers. Conditions: those that stand in each theorem. -/
import Derived.Test.YtieolnekccacbaaDirBase
import Derived.IntWalk
import Derived.Deep.DeepMust
import Derived.RegionTactic
import Derived.StillTailTactics
import Derived.Deep.RegionLaw
import Derived.ChangeAlike
namespace Go.Proofs.Ytieolnekccacbaa
set_option linter.unusedVariables false
set_option linter.unusedSimpArgs false
set_option linter.unusedSectionVars false
open Go.RowKit Go.Maps Go.MapKept Go.ChangeMaps

/-- What is held from a place on, without a gap: the next place, what is still held, the bytes. -/
def rel : Nat → Int → List (Int × Int) → Int → Int × List (Int × Int) × List Int
  | 0, pl, l, _ => (pl, l, [])
  | k + 1, pl, l, fin => match l.lookup pl with
    | none => (pl, l, [])
    | some c => if pl = fin then (pl, l, []) else ((rel k (pl + 1) (l.filter (fun q => q.1 != pl)) fin).1, (rel k (pl + 1) (l.filter (fun q => q.1 != pl)) fin).2.1, c :: (rel k (pl + 1) (l.filter (fun q => q.1 != pl)) fin).2.2)


theorem rel_none {n : Nat} {pl fin : Int} {l : List (Int × Int)} (h : l.lookup pl = none ∨ pl = fin) : rel n pl l fin = (pl, l, []) := by
  cases n with
  | zero => rfl
  | succ k =>
    simp only [rel]
    rcases h with h | h
    · rw [h]
    · cases hl : l.lookup pl with
      | none => rfl
      | some c => simp only; rw [if_pos h]

theorem cut_len {l : List (Int × Int)} (hn : (l.map (·.1)).Nodup) {x c : Int} (h : l.lookup x = some c) : l.length = (l.filter (fun q => q.1 != x)).length + 1 := by
  induction l with
  | nil => cases h
  | cons q r ih =>
    rw [List.map_cons, List.nodup_cons] at hn
    rw [List.lookup_cons] at h
    by_cases e : x = q.1
    · subst e
      have : r.filter (fun z => z.1 != q.1) = r := List.filter_eq_self.2 (fun z hz => by
        simp only [bne_iff_ne, ne_eq]
        intro e
        have hm := List.mem_map_of_mem (f := Prod.fst) hz
        exact hn.1 (e ▸ hm))
      rw [List.filter_cons, if_neg (by simp), this, List.length_cons]
    · rw [beq_eq_false_iff_ne.2 e] at h
      rw [List.filter_cons, if_pos (by simpa using fun h => e h.symm), List.length_cons, List.length_cons, ← ih hn.2 h]
/-- What 'release' leaves. -/
def DS.rels (d : DS) : DS := { d with pl := (rel d.held.length d.pl d.held d.fin).1, held := (rel d.held.length d.pl d.held d.fin).2.1, last := keep (d.last ++ strOfNums (rel d.held.length d.pl d.held d.fin).2.2) d.hist }
def RelPost (p m : Nat) (d : DS) (w : World) (e : Ending) (w' : World) : Prop :=
  e = .returned (.string (strOfNums (rel d.held.length d.pl d.held d.fin).2.2)) ∧ DirAt w' p m d.rels ∧ Mv (fun k => k = p ∨ k = m) w w'

set_option maxRecDepth 100000 in
set_option maxHeartbeats 1000000 in
theorem release_any (p m : Nat) (d : DS) (w : World) (h : DirAt w p m d) (hl : d.held.length ≤ 1000000) (h0 : 0 ≤ d.pl) (h1 : d.pl ≤ 1099511627776) (hh : 0 ≤ d.hist) (hh1 : d.hist ≤ 1024) (hs : d.last.size ≤ 1024) :
    Calls Try.prog 26 #[.pointer (some ⟨p, 0, none⟩)] w (RelPost p m d w) := by
  obtain ⟨i0, hi, hz0, hz1, hz2⟩ := info_parts info_u8
  go_enter Try.func26, Try.ntmps26
  go_wp2
  go_loopg [3, 4, 5] d.held.length (fun n b _ _ wr => ∃ pl l acc, n = l.length ∧ d.pl ≤ pl ∧ pl ≤ d.pl + d.held.length ∧ DirAt wr p m { d with pl := pl, held := l } ∧ Mv (fun k => k = p ∨ k = m) w wr ∧
    rel d.held.length d.pl d.held d.fin = ((rel l.length pl l d.fin).1, (rel l.length pl l d.fin).2.1, acc ++ (rel l.length pl l d.fin).2.2) ∧
    wr.ownsRow w.heap.size 5 1 b acc.length (acc.map (Value.int .u8)) ∧ acc.length + l.length = d.held.length ∧ pl = d.pl + acc.length)
  case atStart => exact ⟨d.pl, d.held, [], rfl, by omega, by omega, h, Mv.refl _ _, by simp, World.ownsRow_nil _ _ _ _, by simp, by simp⟩
  case round =>
    obtain ⟨pl, l, acc, hn, hp0, hp1, hD, hmv, hrel, hown, hlen, hpl⟩ := hrel
    obtain ⟨c0, c1, c2, c3, c4, c5, c6, c7⟩ := hD.blk.cells
    have hr : Hid (rel d.held.length d.pl d.held d.fin = ((rel l.length pl l d.fin).1, (rel l.length pl l d.fin).2.1, acc ++ (rel l.length pl l d.fin).2.2)) := hrel
    have hpl' := Lib.hid hpl
    have hn' := Lib.hid hn
    have hlen' := Lib.hid hlen
    have ha : acc.length ≤ 1000000 := by omega
    clear hrel hpl hn hlen
    have hlk := fun n => (ML.drewN hD.map n).look (P := Try.prog) KMd Try.underlying51 (zero_u8 _) pl (okK_mk (by omega) (by omega)) true
    by_cases hx : l.lookup pl = none ∨ pl = d.fin
    · have hE : Hid (rel l.length pl l d.fin = (pl, l, [])) := rel_none hx
      cases hk : l.lookup pl
      case' none =>
        clear hx
        simp only [hk, Option.map_none, Option.getD_none, Option.isSome_none, if_true] at hlk
        clear hk
        go_wp2
        go_quiet (fail)
        go_wp2
        go_quiet (fail)
        go_wp2
      case' some c =>
        have hf : (pl == d.fin) = true := by
          rcases hx with hx | hx
          · rw [hk] at hx; cases hx
          · simpa using hx
        clear hx
        simp only [hk, Option.map_some, Option.getD_some, Option.isSome_some, if_true] at hlk
        clear hk
        go_wp2
        go_quiet (fail)
        go_wp2
        go_quiet (fail)
        go_wp2
      all_goals
        refine wp_tail 9 (by kernel_rfl) (by kernel_rfl) ?_
        intro W hW
        have hs1 : Same wr W := by rw [hW]; exact ⟨rfl, rfl, rfl, rfl⟩
        have hD1 := hD.same hs1
        have hm1 := Lib.hid (hmv.same hs1)
        have hown1 := own_same hown hs1
        clear hW hlk hown hmv hs1 hD c0 c1 c2 c3 c4 c5 c6 c7
        have c5 := hD1.blk.cells.2.2.2.2.2.1
        have f5 := hD1.blk.free 5
        have hcv := own_str (P := Try.prog) (w := W) (src := 30) (dst := 9) Try.underlying30 Try.underlying5 Try.underlying9 hown1
        have hsz := small_join (a := d.last) (b := strOfNums acc) (by rw [size_nums]; omega)
        simp only [List.take_succ_cons, List.take_zero, List.drop_succ_cons, List.drop_zero]
        repeat still_step
        refine wpStill_nil ?_
        go_wp2
        have hD2 : DirAt (W.setCell ⟨p, 5, none⟩ (.string (d.last ++ strOfNums acc))) p m { d with pl := pl, held := l, last := d.last ++ strOfNums acc } :=
          ⟨hD1.blk.set 5 _ rfl, hD1.map.moved ((Mv.refl (· = p) W).setCell (.inr rfl) _) (Ne.symm hD1.ne)⟩
        have hm2 := Lib.hid (hm1.out.setCell (p := ⟨p, 5, none⟩) (.inr (.inl rfl)) (.string (d.last ++ strOfNums acc)))
        have hown2 := ownsRow_setCell_below hown1 (a := ⟨p, 5, none⟩) h.blk.lt (.string (d.last ++ strOfNums acc))
        clear hD1 hm1 hown1 c5 f5 hcv hsz
        refine wp_tail 19 (by kernel_rfl) (by kernel_rfl) ?_
        intro W2 hW2
        generalize W.setCell ⟨p, 5, none⟩ (.string (d.last ++ strOfNums acc)) = W1 at hD2 hm2 hown2 hW2
        have hs2 : Same W1 W2 := by rw [hW2]; exact ⟨rfl, rfl, rfl, rfl⟩
        have hD3 := hD2.same hs2
        have hm3 := Lib.hid (hm2.out.same hs2)
        have hown3 := own_same hown2 hs2
        clear hW2 hs2 hD2 hm2 hown2
        have c2 := hD3.blk.cells.2.2.1
        have c5 := hD3.blk.cells.2.2.2.2.2.1
        have f5 := hD3.blk.free 5
        obtain ⟨t, ht⟩ : ∃ t, t = d.last ++ strOfNums acc := ⟨_, rfl⟩
        have hz : t.size ≤ 2000000 := by rw [ht, ByteArray.size_append, size_nums]; omega
        rw [← ht] at hD3 c5
        rw [← ht]
        have ht' := Lib.hid ht
        clear ht
        simp only [List.take_succ_cons, List.take_zero, List.drop_succ_cons, List.drop_zero]
        obtain ⟨k, hk⟩ : ∃ k : Nat, k = t.size - d.hist.toNat := ⟨_, rfl⟩
        have hmx : (if 0 < IntKind.i64.wrap (↑t.size - d.hist) then IntKind.i64.wrap (↑t.size - d.hist) else 0) = (k : Int) := by
          rw [IntWalk.i64_in _ (by omega)]
          split <;> omega
        have hk1 : (k : Int) ≤ t.size := by omega
        have hk2 : Hid (t.extract k t.size = keep t d.hist) := by
          show _ = _
          unfold keep
          rw [hk]
        clear hk
        have hD4 : DirAt (W2.setCell ⟨p, 5, none⟩ (.string (t.extract k t.size))) p m { d with pl := pl, held := l, last := t.extract k t.size } :=
          ⟨hD3.blk.set 5 _ rfl, hD3.map.moved ((Mv.refl (· = p) W2).setCell (.inr rfl) _) (Ne.symm hD3.ne)⟩
        have hm4 := Lib.hid (hm3.out.setCell (p := ⟨p, 5, none⟩) (.inr (.inl rfl)) (.string (t.extract k t.size)))
        have hcv := own_str (P := Try.prog) (src := 30) (dst := 9) Try.underlying30 Try.underlying5 Try.underlying9 (ownsRow_setCell_below hown3 (a := ⟨p, 5, none⟩) h.blk.lt (.string (t.extract k t.size)))
        repeat still_step
        refine wpStill_nil ?_
        go_wp2
        go_ret
        have e1 := hE.out
        have e2 := hr.out
        rw [e1] at e2
        refine ⟨?_, ?_, hm4.out⟩
        · rw [e2, List.append_nil]
          rfl
        · unfold DS.rels
          rw [e2, List.append_nil, ← ht'.out, ← hk2.out]
          exact hD4
    · have hx1 : l.lookup pl ≠ none := fun e => hx (.inl e)
      have hx2 : (pl == d.fin) = false := by simpa using fun e => hx (.inr e)
      clear hx
      cases hk : l.lookup pl with
      | none => exact absurd hk hx1
      | some c =>
        clear hx1
        simp only [hk, Option.map_some, Option.getD_some, Option.isSome_some, if_true] at hlk
        have hk' := Lib.hid hk
        clear hk
        go_wp2
        go_quiet (fail)
        go_wp2
        go_quiet (fail)
        go_wp2
        refine wp_tail 8 (by kernel_rfl) (by kernel_rfl) ?_
        intro W hW
        have hs1 : Same wr W := by rw [hW]; exact ⟨rfl, rfl, rfl, rfl⟩
        have hD1 := hD.same hs1
        have hm1 := Lib.hid (hmv.same hs1)
        have hown1 := own_same hown hs1
        have hnd := Lib.hid (keys_of hD.map KMd)
        clear hW hlk hown hmv hs1 hD c0 c1 c2 c3 c4 c5 c6 c7
        have c3 := hD1.blk.cells.2.2.2.1
        have c4 := hD1.blk.cells.2.2.2.2.1
        simp only [List.take_succ_cons, List.take_zero, List.drop_succ_cons, List.drop_zero]
        repeat still_step
        refine wpStill_nil ?_
        refine wpL_delete rfl rfl KMd Try.underlying51 hD1.map rfl pl rfl (okK_mk (by omega) (by omega)) ?_
        intro W2 hM2 hmv2
        have hD2 : DirAt W2 p m { d with pl := pl, held := l.filter (fun q => q.1 != pl) } := ⟨hD1.blk.moved hmv2 hD1.ne, hM2⟩
        have hm2 := Lib.hid (hm1.out.cut hmv2 (fun i _ e => .inr e))
        have hbm := h.map.lt
        have hbp := h.blk.lt
        have hown2 := own_moved hown1 hmv2 (fun k hk e => by omega)
        have hzW : w.heap.size ≤ W2.heap.size := hm2.out.size
        clear hD1 hm1 hown1 hM2 hmv2 c3 c4
        go_wp2_with (first
          | (at_builtin; go_must (refine wpList_append_own _ rfl _ _ 30 rfl w.heap.size 5 i0 (.int .u8 0) 1 1 Try.underlying30 hi hz0 hz1 hz2 rfl (by decide) _ _ _ rfl (hown2.alloc _) ⟨W2.heap.size, 0, none⟩ 1 1 [.int .u8 c] rfl rfl ?c1 ?c2 ?c3 ?c4 ?c5 ?_))
          | go_in)
        try case c1 => exact cell_one_new _ _ _
        try case c2 => first | exact ints_oneCell .u8 [c] | rfl
        try case c3 => first | (unfold maxLen; omega) | omega
        try case c4 => omega
        try case c5 => first | omega | (simp; omega)
        intro v1 W3 hown3 hgrow _
        have hgr : Mv (fun k => w.heap.size ≤ k) W2 W3 := ((Mv.refl _ W2).alloc _).grown hgrow (fun k e => .inr (hown2.lt k e).1)
        have hD3 := hD2.moved hgr (by omega) (by omega)
        have hm3 := Lib.hid (hm2.out.cut hgr (fun i hi e => by omega))
        have hown3 := Lib.hid hown3
        clear hD2 hm2 hown2 hgrow hgr
        have c3 := hD3.blk.cells.2.2.2.1
        have f3 := hD3.blk.free 3
        have hm5 := Lib.hid (hm3.out.setCell (p := ⟨p, 3, none⟩) (.inr (.inl rfl)) (.int .i64 (pl + 1)))
        have hD5 : DirAt (W3.setCell ⟨p, 3, none⟩ (.int .i64 (pl + 1))) p m { d with pl := pl + 1, held := l.filter (fun q => q.1 != pl) } :=
          ⟨hD3.blk.set 3 _ rfl, hD3.map.moved ((Mv.refl (· = p) W3).setCell (.inr rfl) _) (Ne.symm hD3.ne)⟩
        have hown5 := Lib.hid (ownsRow_setCell_below hown3.out (a := ⟨p, 3, none⟩) hbp (.int .i64 (pl + 1)))
        have hcut := Lib.hid (cut_len hnd.out hk'.out)
        go_wp2
        go_roundg (l.filter (fun q => q.1 != pl)).length
        case measure => have := hn'.out; have := hcut.out; omega
        case rel =>
          refine ⟨pl + 1, _, acc ++ [c], rfl, by omega, ?_, hD5, hm5.out, ?_, by simpa using hown5.out, ?_, ?_⟩
          · have := hpl'.out; have := hlen'.out; have := hcut.out; omega
          · have e1 := hr.out
            rw [e1]
            have e2 := hcut.out
            rw [show l.length = (l.filter (fun q => q.1 != pl)).length + 1 by omega, rel, hk'.out]
            have hne : pl ≠ d.fin := by simpa using hx2
            simp only [hne, if_false, List.append_assoc, List.cons_append, List.nil_append]
          · have := hlen'.out; have := hcut.out; simp only [List.length_append, List.length_cons, List.length_nil]; omega
          · have := hpl'.out; simp only [List.length_append, List.length_cons, List.length_nil]; omega
end Go.Proofs.Ytieolnekccacbaa
