/- What is proved: the reference's push answers as the stream's, by lists. Conditions: those that stand in each theorem. -/
import Derived.Test.YtieolnekccacbaaDirRef3
namespace Go.Proofs.Ytieolnekccacbaa
set_option linter.unusedVariables false
set_option linter.unusedSimpArgs false
set_option linter.unusedSectionVars false
open Go.RowKit Go.Maps Go.MapKept Go.ChangeMaps
/-- The stream that the reference's state tells of. -/
def RS.ds (D : RS) : DS := ⟨D.begin_, D.buffer, D.hist, D.told.size, D.zip, keep D.told D.hist, D.fin, D.over⟩
structure RInv (D : RS) : Prop where
  len : D.places.length = D.bytes.length
  nd : D.places.Nodup
  lo : ∀ x ∈ D.places, (D.told.size : Int) < x
  hi : ∀ x ∈ D.places, x < D.told.size + D.buffer
  fi : D.fin = -1 ∨ ((D.told.size : Int) ≤ D.fin ∧ ∀ x ∈ D.places, x < D.fin)
  bu : 0 ≤ D.buffer
  hs : 0 ≤ D.hist
theorem far_zip : ∀ (ps bs : List Int) (x : Int), ps.length = bs.length → far (ps.zip bs) x = ps.any fun y => decide (x ≤ y)
  | [], [], _, _ => rfl
  | [], _ :: _, _, h => by cases h
  | _ :: _, [], _, h => by cases h
  | p :: ps, b :: bs, x, h => by
    have := far_zip ps bs x (by simpa using h)
    unfold far at this ⊢
    rw [List.zip_cons_cons, List.any_cons, List.any_cons, this]
theorem keep_list (s : ByteArray) (n : Int) : (keep s n).data.toList = s.data.toList.drop (s.size - n.toNat) := by
  unfold keep
  rw [ByteArray.data_extract, Array.toList_extract]
  have : s.data.toList.length = s.size := bytes_len s
  rw [List.extract_eq_take_drop]
  apply List.take_of_length_le
  rw [List.length_drop, this]
  exact Nat.le_refl _
theorem keep_app (a b : ByteArray) (n : Int) : keep (keep a n ++ b) n = keep (a ++ b) n := by
  apply ByteArray.ext
  apply Array.toList_inj.1
  rw [keep_list, keep_list, ByteArray.data_append, ByteArray.data_append, Array.toList_append, Array.toList_append, keep_list, ByteArray.size_append, ByteArray.size_append, size_keep, List.drop_append, List.drop_append, List.drop_drop, List.length_drop, bytes_len]
  congr 1
  · congr 1; omega
  · congr 1; omega
theorem keep_ext (s : ByteArray) (h off en : Int) (h0 : 0 ≤ off) (h1 : (s.size : Int) - h ≤ off) (h2 : off ≤ en) (h3 : en ≤ s.size) :
    (keep s h).extract (off - (s.size - (keep s h).size)).toNat (en - (s.size - (keep s h).size)).toNat = s.extract off.toNat en.toNat := by
  rw [size_keep]
  unfold keep
  rw [ByteArray.extract_extract]
  congr 1 <;> omega
theorem nodup_count : ∀ (b : Nat) (l : List Int) (a : Int), l.Nodup → (∀ x ∈ l, a ≤ x ∧ x < a + b) → l.length ≤ b
  | 0, l, a, _, h => by
    cases l with
    | nil => simp
    | cons x r => have := h x List.mem_cons_self; omega
  | b + 1, l, a, hn, h => by
    have h1 := nodup_count b (l.erase (a + b)) a (hn.erase _) (fun x hx => by
      have hm := List.mem_of_mem_erase hx
      have h2 := h x hm
      have : x ≠ a + b := fun e => by rw [e] at hx; exact List.Nodup.not_mem_erase hn hx
      omega)
    by_cases hm : a + (b : Int) ∈ l
    · rw [List.length_erase_of_mem hm] at h1; omega
    · rw [List.erase_of_not_mem hm] at h1; omega
theorem RInv.few {D : RS} (I : RInv D) : (D.places.length : Int) ≤ D.buffer := by
  have := nodup_count D.buffer.toNat D.places D.told.size I.nd (fun x hx => by have := I.lo x hx; have := I.hi x hx; have := I.bu; omega)
  have := I.bu
  omega
theorem mem_of_lookup {l : List (Int × Int)} {x c : Int} (h : l.lookup x = some c) : x ∈ l.map (·.1) := by
  induction l with
  | nil => cases h
  | cons q r ih =>
    rw [List.lookup_cons] at h
    by_cases e : x = q.1
    · rw [e]; exact List.mem_cons_self
    · rw [beq_eq_false_iff_ne.2 e] at h
      exact List.mem_cons_of_mem _ (ih h)
theorem lookup_of_mem' {l : List (Int × Int)} {x : Int} (h : x ∈ l.map (·.1)) : ∃ c, l.lookup x = some c := by
  cases hl : l.lookup x with
  | some c => exact ⟨c, rfl⟩
  | none =>
    obtain ⟨q, hq, e⟩ := List.mem_map.1 h
    exact absurd e (lookup_none.1 hl q hq)
theorem RS.fst_zip {D : RS} (h : D.places.length = D.bytes.length) : D.zip.map (·.1) = D.places := List.map_fst_zip (Nat.le_of_eq h)
structure RStep (D D' : RS) : Prop where
  inv : RInv D'
  bg : D'.begin_ = D.begin_
  bu : D'.buffer = D.buffer
  hs : D'.hist = D.hist
  told : (D'.told.size : Int) ≤ D.told.size + D.buffer
  fin : D'.fin = D.fin ∨ D'.fin ≤ D.told.size + D.buffer
theorem rpush2_same (D : RS) (I : RInv D) (off en : Int) (s : ByteArray) (fin : Bool) (hen : en = off + s.size) (hov : en ≤ D.told.size + D.buffer) (htr : D.fin = -1 ∨ en ≤ D.fin ∨ s.size = 0) :
    D.ds.push2 off en s fin = ((D.push2 off en s fin).1.ds, (D.push2 off en s fin).2) ∧ RStep D (D.push2 off en s fin).1 := by
  obtain ⟨fn, hfn⟩ : ∃ fn, fn = if fin = true ∧ D.fin < 0 ∧ (D.told.size : Int) ≤ en ∧ far D.zip en = false then en else D.fin := ⟨_, rfl⟩
  have hfst := RS.fst_zip I.len
  have hndz : (D.zip.map (·.1)).Nodup := by rw [hfst]; exact I.nd
  obtain ⟨H, hH⟩ : ∃ H, H = ins D.zip off s.data.toList D.told.size := ⟨_, rfl⟩
  have hHn : (H.map (·.1)).Nodup := by rw [hH]; exact ins_nodup _ _ _ _ hndz
  have hfar : ∀ x, D.zip.any (fun q => decide (x ≤ q.1)) = D.places.any fun y => decide (x ≤ y) := fun x => far_zip _ _ x I.len
  have hzm : ∀ x c, D.zip.lookup x = some c → x ∈ D.places := fun x c h => by rw [← hfst]; exact mem_of_lookup h
  have hkey : ∀ x c, H.lookup x = some c → x ∈ D.places ∨ ((D.told.size : Int) ≤ x ∧ off ≤ x ∧ x < en) := by
    intro x c h
    rw [hH, ins_lookup, bytes_len] at h
    cases hz : D.zip.lookup x with
    | some v => exact .inl (hzm x v hz)
    | none =>
      rw [hz] at h
      by_cases hc : (D.told.size : Int) ≤ x ∧ off ≤ x ∧ x < off + (s.size : Int)
      · right; omega
      · rw [if_neg hc] at h; simp at h
  have hrange : ∀ x c, H.lookup x = some c → (D.told.size : Int) ≤ x ∧ x < D.told.size + D.buffer := by
    intro x c h
    rcases hkey x c h with h1 | h1
    · have := I.lo x h1; have := I.hi x h1; omega
    · omega
  have hfn1 : fn = -1 ∨ ((D.told.size : Int) ≤ fn ∧ ∀ x c, H.lookup x = some c → x < fn) := by
    rw [hfn]
    split
    · rename_i hc
      right
      refine ⟨hc.2.2.1, fun x c h => ?_⟩
      rcases hkey x c h with h1 | h1
      · have h2 := hc.2.2.2
        unfold far at h2
        rw [hfar, List.any_eq_false] at h2
        have := h2 x h1
        simp only [decide_eq_true_eq] at this
        omega
      · omega
    · rcases I.fi with h | h
      · exact .inl h
      · right
        refine ⟨h.1, fun x c hx => ?_⟩
        rcases hkey x c hx with h1 | h1
        · exact h.2 x h1
        · rcases htr with h2 | h2 | h2
          · omega
          · omega
          · omega
  have hfn2 : fn = D.fin ∨ fn ≤ D.told.size + D.buffer := by
    rw [hfn]
    split
    · right; exact hov
    · left; rfl
  obtain ⟨j, T, hT, hE⟩ := gap H D.told.size fn
  have hno : H.lookup ((D.told.size : Int) + j) = none := by
    rcases hE with h | h
    · exact h
    · cases hl : H.lookup ((D.told.size : Int) + j) with
      | none => rfl
      | some c =>
        rcases hfn1 with h1 | h1
        · omega
        · have := h1.2 _ _ hl; omega
  have hjb : (D.told.size : Int) + j ≤ D.told.size + D.buffer := by
    cases j with
    | zero => have := I.bu; omega
    | succ j => have := (hrange _ _ (hT j (by omega)).1).2; omega
  have hjf : fn = -1 ∨ (D.told.size : Int) + j ≤ fn := by
    rcases hfn1 with h | h
    · exact .inl h
    · right
      cases j with
      | zero => omega
      | succ j => have := h.2 _ _ (hT j (by omega)).1; omega
  have hTr : ∀ i : Nat, i < j → H.lookup ((D.told.size : Int) + i) = some (T i) ∧ (D.told.size : Int) + i ≠ -1 := fun i hi => ⟨(hT i hi).1, by omega⟩
  have hrel := rel_spec _ (D.told.size : Int) H (-1) j T rfl hHn hTr (.inl hno)
  obtain ⟨F, hF⟩ : ∃ F, F = H.filter (fun q => !(decide ((D.told.size : Int) ≤ q.1) && decide (q.1 < (D.told.size : Int) + j))) := ⟨_, rfl⟩
  obtain ⟨out, hout⟩ : ∃ out, out = strOfNums ((List.range j).map T) := ⟨_, rfl⟩
  have hosz : out.size = j := by rw [hout]; exact size_out j T
  obtain ⟨now, hnow⟩ : ∃ now, now = (decide ((D.told.size : Int) + (j : Int) = fn) && !D.over) := ⟨_, rfl⟩
  have hD1 : (if fin = true ∧ D.fin < 0 ∧ (D.told.size : Int) ≤ en ∧ (D.places.any fun y => decide (en ≤ y)) = false then { D with fin := en } else D) = { D with fin := fn } := by
    rw [hfn]
    unfold far
    rw [hfar]
    split <;> rfl
  have hnow' : (!D.over && decide (fn = ((D.told ++ out).size : Int))) = now := by
    rw [hnow, ByteArray.size_append, hosz, Bool.and_comm]
    congr 1
    exact decide_eq_decide.2 ⟨fun h => by omega, fun h => by omega⟩
  have hpush : D.push2 off en s fin = (⟨D.begin_, D.buffer, D.hist, D.told ++ out, F.map (·.1), F.map (·.2), fn, D.over || now⟩,
      if out.size ≠ 0 ∨ now = true then ⟨1, D.told.size, out, now⟩ else if (D.told.size : Int) < en then ⟨4, 0, ⟨#[]⟩, false⟩ else if 0 ≤ off ∧ (D.told.size : Int) - D.hist ≤ off then
      ⟨2, off, (D.told ++ out).extract off.toNat en.toNat, fin && (D.over || now) && decide (en = fn)⟩ else ⟨3, 0, ⟨#[]⟩, false⟩) := by
    unfold RS.push2
    simp only [hD1]
    have ez : ({ D with fin := fn } : RS).zip = D.zip := rfl
    simp only [ez, ← hH]
    have e2 : (({ D with fin := fn } : RS).put H).zip = H := RS.put_zip _ H
    have e3 : (({ D with fin := fn } : RS).put H).places.length = H.length := by simp [RS.put]
    have e4 : (({ D with fin := fn } : RS).put H).told = D.told := rfl
    unfold RS.rels
    rw [e2, e3, e4, hrel]
    simp only [← hF, ← hout]
    have e5 : (({ D with fin := fn } : RS).put H).fin = fn := rfl
    simp only [e5, hnow']
    rfl
  have hfl : ∀ x, x ∈ F.map (·.1) → ∃ c, H.lookup x = some c ∧ (D.told.size : Int) + j < x := by
    intro x hx
    obtain ⟨c, hc⟩ := lookup_of_mem' hx
    rw [hF, filter_lookup_out] at hc
    by_cases h1 : (D.told.size : Int) ≤ x ∧ x < D.told.size + j
    · rw [if_pos h1] at hc; cases hc
    · rw [if_neg h1] at hc
      have h2 := hrange x c hc
      have h3 : x ≠ (D.told.size : Int) + j := fun e => by rw [e, hno] at hc; cases hc
      exact ⟨c, hc, by omega⟩
  have htsz : ((D.told ++ out).size : Int) = D.told.size + j := by rw [ByteArray.size_append, hosz]; omega
  rw [hpush]
  refine ⟨?_, ?_⟩
  · have hp := push2_eq D.ds off en s fin fn hfn hndz j T (by show ∀ i : Nat, i < j → (ins D.zip off s.data.toList D.told.size).lookup ((D.told.size : Int) + i) = some (T i) ∧ _; rw [← hH]; exact hT)
      (by show (ins D.zip off s.data.toList D.told.size).lookup ((D.told.size : Int) + j) = none ∨ _; rw [← hH]; exact hE) now hnow _ rfl
    rw [hp]
    have e1 : (⟨D.ds.start, D.ds.buffer, D.ds.hist, D.ds.pl + j, (ins D.ds.held off s.data.toList D.ds.pl).filter (fun q => !(decide (D.ds.pl ≤ q.1) && decide (q.1 < D.ds.pl + j))), keep (D.ds.last ++ strOfNums ((List.range j).map T)) D.ds.hist, fn, D.ds.done || now⟩ : DS) = (⟨D.begin_, D.buffer, D.hist, D.told ++ out, F.map (·.1), F.map (·.2), fn, D.over || now⟩ : RS).ds := by
      unfold RS.ds
      simp only [htsz]
      have e2 : RS.zip ⟨D.begin_, D.buffer, D.hist, D.told ++ out, F.map (·.1), F.map (·.2), fn, D.over || now⟩ = F := zip_unzip F
      rw [e2, ← hout, keep_app, ← hH, ← hF]
    rw [e1]
    refine Prod.ext rfl ?_
    show (if j ≠ 0 ∨ now = true then (⟨1, D.told.size, strOfNums ((List.range j).map T), now⟩ : GotV) else if (D.told.size : Int) + j < en then ⟨4, 0, ⟨#[]⟩, false⟩ else if 0 ≤ off ∧ (D.told.size : Int) + j - D.hist ≤ off then
      ⟨2, off, (keep (D.told ++ out) D.hist).extract (off - ((D.told.size : Int) + j - (keep (D.told ++ out) D.hist).size)).toNat (en - ((D.told.size : Int) + j - (keep (D.told ++ out) D.hist).size)).toNat, fin && (D.over || now) && decide (en = fn)⟩ else ⟨3, 0, ⟨#[]⟩, false⟩) = _
    rw [← hout, hosz]
    by_cases h1 : j ≠ 0 ∨ now = true
    · rw [if_pos h1, if_pos h1]
    · rw [if_neg h1, if_neg h1]
      have hj0 : j = 0 := by omega
      subst hj0
      by_cases h2 : (D.told.size : Int) < en
      · rw [if_pos (by omega), if_pos h2]
      · rw [if_neg (by omega), if_neg h2]
        by_cases h3 : 0 ≤ off ∧ (D.told.size : Int) - D.hist ≤ off
        · rw [if_pos (by omega), if_pos h3]
          rw [← htsz, keep_ext _ _ _ _ h3.1 (by omega) (by omega) (by omega)]
        · rw [if_neg (by omega), if_neg h3]
  · refine ⟨⟨by simp, ?_, ?_, ?_, ?_, I.bu, I.hs⟩, rfl, rfl, rfl, ?_, hfn2⟩
    · show (F.map (·.1)).Nodup
      rw [hF]; exact nodup_filter _ hHn
    · intro x hx
      show ((D.told ++ out).size : Int) < x
      obtain ⟨c, _, h⟩ := hfl x hx
      omega
    · intro x hx
      show x < ((D.told ++ out).size : Int) + D.buffer
      obtain ⟨c, hc, h⟩ := hfl x hx
      have := hrange x c hc
      omega
    · show fn = -1 ∨ ((D.told ++ out).size : Int) ≤ fn ∧ _
      rcases hjf with h | h
      · exact .inl h
      · rcases hfn1 with h1 | h1
        · exact .inl h1
        · right
          refine ⟨by omega, fun x hx => ?_⟩
          obtain ⟨c, hc, _⟩ := hfl x hx
          exact h1.2 x c hc
    · show ((D.told ++ out).size : Int) ≤ _
      omega
theorem RStep.refl {D : RS} (I : RInv D) : RStep D D := ⟨I, rfl, rfl, rfl, by have := I.bu; omega, .inl rfl⟩
theorem rpush_same (D : RS) (I : RInv D) (n : Int) (s : ByteArray) (fin : Bool) :
    D.ds.push n s fin = ((D.push n s fin).1.ds, (D.push n s fin).2) ∧ RStep D (D.push n s fin).1 := by
  unfold DS.push RS.push
  by_cases h1 : s.size = 0 ∧ fin = false
  · rw [if_pos h1, if_pos h1]; exact ⟨rfl, RStep.refl I⟩
  · rw [if_neg h1, if_neg h1]
    have et : ∀ off en s fin, D.ds.trim off en s fin = D.trim off en s fin := fun _ _ _ _ => rfl
    have ep : D.ds.pl = D.told.size := rfl
    have eb : D.ds.buffer = D.buffer := rfl
    have es : D.ds.start = D.begin_ := rfl
    rw [ep, eb, es, et]
    generalize plc D.begin_ n D.told.size = off
    obtain ⟨T1, T2, T3, hT⟩ : ∃ T1 T2 T3, D.trim off (off + s.size) s fin = (T1, T2, T3) := ⟨_, _, _, rfl⟩
    rw [hT]
    by_cases h2 : (D.told.size : Int) + D.buffer < T1
    · rw [if_pos h2, if_pos h2]; exact ⟨rfl, RStep.refl I⟩
    · rw [if_neg h2, if_neg h2]
      have hfi : D.fin = -1 ∨ 0 ≤ D.fin := by rcases I.fi with h | h <;> omega
      unfold RS.trim at hT
      by_cases h3 : D.fin < 0
      · rw [if_pos h3] at hT
        obtain ⟨rfl, rfl, rfl⟩ : off + (s.size : Int) = T1 ∧ s = T2 ∧ fin = T3 := by simpa using hT
        exact rpush2_same D I off _ _ _ rfl (by omega) (.inl (by omega))
      · rw [if_neg h3] at hT
        by_cases h4 : off + (s.size : Int) ≤ D.fin
        · rw [if_pos h4] at hT
          obtain ⟨rfl, rfl, rfl⟩ : off + (s.size : Int) = T1 ∧ s = T2 ∧ (fin && decide (off + (s.size : Int) = D.fin)) = T3 := by simpa using hT
          exact rpush2_same D I off _ _ _ rfl (by omega) (.inr (.inl h4))
        · rw [if_neg h4] at hT
          obtain ⟨rfl, rfl, rfl⟩ : max D.fin off = T1 ∧ s.extract 0 (max D.fin off - off).toNat = T2 ∧ false = T3 := by simpa using hT
          have esz : off + ((s.extract 0 (max D.fin off - off).toNat).size : Int) = max D.fin off := by rw [ByteArray.size_extract]; omega
          refine rpush2_same D I off (max D.fin off) (s.extract 0 (max D.fin off - off).toNat) false (by omega) (by omega) (.inr ?_)
          by_cases h5 : off ≤ D.fin
          · left; omega
          · right; omega
end Go.Proofs.Ytieolnekccacbaa
