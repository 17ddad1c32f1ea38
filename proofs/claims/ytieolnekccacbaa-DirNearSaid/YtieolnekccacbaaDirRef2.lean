/- What is proved: the reference's 'beyond' and 'release'. Conditions: those that stand in each theorem. -/
import Derived.Test.YtieolnekccacbaaDirRef1
namespace Go.Proofs.Ytieolnekccacbaa
set_option linter.unusedVariables false
set_option linter.unusedSimpArgs false
set_option linter.unusedSectionVars false
open Go.RowKit Go.Maps Go.MapKept Go.ChangeMaps Fw
set_option maxRecDepth 100000 in
set_option maxHeartbeats 4000000 in
theorem beyond_says (q : Nat) (vp vb : Value) (D : RS) (x : Int) (w : World) (h : RAt w q vp vb D) (hl : D.places.length ≤ 1000000) :
    Calls Try.prog 28 #[.pointer (some ⟨q, 0, none⟩), .int .i64 x] w (Says w (.bool (D.places.any fun y => decide (x ≤ y)))) := by
  refine calls_W (n := 24) (vs := [.pointer (some ⟨q, 0, none⟩), .int .i64 x]) Try.func28 rfl rfl rfl ?_
  apply W.readS LO mixed [0, 1] (by kernel_rfl)
  · repeat' (first | rfl | with_reducible assumption | assumption | constructor)
  intro w1 f1 s1 hf1
  replace hf1 : f1 = [(0, _), (1, _)] := hf1
  subst hf1
  refine W.cutS (fun w' g => (Same w w' ∧ g = []) ∧ (D.places.any fun y => decide (x ≤ y)) = false) ?_ ?_
  ·
    apply W.readS LO mixed [0, 1, 5] (by kernel_rfl)
    · repeat' (first | rfl | with_reducible assumption | assumption | constructor)
    intro w2 f2 s2 hf2
    replace hf2 : f2 = [(0, _), (1, _), (5, _)] := hf2
    subst hf2
    refine W.block (W.loop (fun k w' g => ∃ i : Nat, k + i = D.places.length ∧ Same w w' ∧ (∀ j y, j < i → D.places[j]? = some y → y < x) ∧ g = [(0, .pointer (some ⟨q, 0, none⟩)), (1, .int .i64 x), (5, .int .i64 i)]) D.places.length _ ⟨0, rfl, s1.trans s2, fun j y hj => absurd hj (Nat.not_lt_zero j), rfl⟩ (sub_keys rfl) ?_)
    rintro k w3 _ ⟨i, hki, s3, hno, rfl⟩
    have h3 := h.same s3
    obtain ⟨c0, c1, c2, c3, c4, c5, c6, c7⟩ := h3.cls
    obtain ⟨a, c, hv, hlc, hnil, hblk⟩ := own_slice h3.op
    rw [hv] at c4
    rw [List.length_map] at c4
    by_cases hlt : i < D.places.length
    · have k1 : Kn (decide ((i : Int) < (D.places.length : Int))) true := .yes (by omega)
      refine W.seq ?_
      apply W.readS LO mixed [0, 1, 5, 12] (by kernel_rfl)
      · repeat' (first | rfl | with_reducible assumption | assumption | constructor)
      intro w4 f4 s4 hf4
      replace hf4 : f4 = [(0, _), (1, _), (5, _), (12, _)] := hf4
      subst hf4
      have s4' := s3.trans s4
      refine W.cond (b := true) rfl (fun _ => W.skip (N.to ?_)) (fun h => by cases h)
      refine W.cutS (fun w' g => (Same w w' ∧ g = [(0, .pointer (some ⟨q, 0, none⟩)), (1, .int .i64 x), (5, .int .i64 i)]) ∧ ∀ y, D.places[i]? = some y → y < x) ?_ ?_
      · refine W.block ?_
        have h4 := h.same s4'
        clear c0 c1 c2 c3 c4 c5 c6 c7
        obtain ⟨c0, c1, c2, c3, c4, c5, c6, c7⟩ := h4.cls
        obtain ⟨y, hy⟩ : ∃ y, D.places[i]? = some y := ⟨_, List.getElem?_eq_getElem hlt⟩
        cases a with
        | none =>
          have := (hnil rfl).1
          rw [List.map_eq_nil_iff.1 this] at hlt
          exact absurd hlt (Nat.not_lt_zero _)
        | some b =>
          obtain ⟨hb1, hb2⟩ := hblk b rfl
          obtain ⟨g, hg⟩ : ∃ g, g = b.block := ⟨_, rfl⟩
          rw [← hg] at hb1 hb2
          subst hb1
          rw [hv, List.length_map] at c4
          have g0 : 0 ≤ (i : Int) := by omega
          have g1 : (i : Int) < (D.places.length : Int) := by omega
          have cy : Cl w4 ⟨g, 0 + (i : Int).toNat * 1, none⟩ (.int .i64 y) := ⟨by
            have := World.ownsRow.cells (g := g) h4.op hb2 i (.int .i64 y) (by rw [List.getElem?_map, hy]; rfl)
            rw [Addr.add_lit] at this
            rw [show 0 + (i : Int).toNat * 1 = 0 + i by omega]
            exact this⟩
          by_cases hxy : x ≤ y
          · have k2 : Kn (decide (x ≤ y)) true := .yes hxy
            apply W.readS LO mixed [5, 23] (by kernel_rfl)
            · repeat' (first | rfl | with_reducible assumption | assumption | constructor)
            intro w5 f5 s5 hf5
            replace hf5 : f5 = [(5, _), (23, _)] := hf5
            subst hf5
            refine W.cond (b := true) rfl (fun _ => ?_) (fun h => by cases h)
            apply W.readS LO mixed [4] (by kernel_rfl)
            · repeat' (first | rfl | with_reducible assumption | assumption | constructor)
            intro w6 f6 s6 hf6
            replace hf6 : f6 = [(4, _)] := hf6
            subst hf6
            refine W.ret (post (fn := Try.f28) (R := Says w (.bool (D.places.any fun y => decide (x ≤ y)))) LO (rs := [.tmp 4]) rfl (vs := [.bool true]) (.tmp rfl .nil) ⟨?_, (s4'.trans s5).trans s6⟩)
            have : (D.places.any fun y => decide (x ≤ y)) = true := List.any_eq_true.2 ⟨y, List.mem_of_getElem? hy, decide_eq_true hxy⟩
            rw [this]
            rfl
          · have k2 : Kn (decide (x ≤ y)) false := .no hxy
            apply W.readS LO mixed [0, 1, 5, 23] (by kernel_rfl)
            · repeat' (first | rfl | with_reducible assumption | assumption | constructor)
            intro w5 f5 s5 hf5
            replace hf5 : f5 = [(0, _), (1, _), (5, _), (23, _)] := hf5
            subst hf5
            refine W.cond (b := false) rfl (fun h => by cases h) (fun _ => W.skip ?_)
            refine N.inb (N.cut ⟨⟨s4'.trans s5, rfl⟩, ?_⟩ (sub_keys rfl))
            intro y' hy'
            rw [hy] at hy'; have := Option.some.inj hy'; omega
      · rintro w5 _ ⟨⟨s5, rfl⟩, hne⟩
        have k5 : Kn (IntKind.i64.wrap ((i : Int) + 1)) ((i + 1 : Nat) : Int) := .of (IntWalk.i64_in _ (by omega))
        apply W.readN LO mixed [0, 1, 5] (by kernel_rfl)
        · repeat' (first | rfl | with_reducible assumption | assumption | constructor)
        intro w6 f6 s6 hf6
        replace hf6 : f6 = [(0, _), (1, _), (5, _)] := hf6
        subst hf6
        refine N.round (k - 1) _ (by omega) ⟨i + 1, by omega, s5.trans s6, fun j y hj hy => ?_, rfl⟩ (sub_keys rfl)
        by_cases e : j = i
        · exact hne y (e ▸ hy)
        · exact hno j y (by omega) hy
    · have k1 : Kn (decide ((i : Int) < (D.places.length : Int))) false := .no (by omega)
      refine W.seq ?_
      apply W.readS LO mixed [12] (by kernel_rfl)
      · repeat' (first | rfl | with_reducible assumption | assumption | constructor)
      intro w4 f4 s4 hf4
      replace hf4 : f4 = [(12, _)] := hf4
      subst hf4
      refine W.cond (b := false) rfl (fun h => by cases h) (fun _ => W.exit ?_)
      refine N.thenE (N.thenE (N.out (N.cut ⟨⟨s3.trans s4, rfl⟩, ?_⟩ (sub_keys rfl))))
      rw [List.any_eq_false]
      intro y hy
      obtain ⟨j, hj, rfl⟩ := List.mem_iff_getElem.1 hy
      have := hno j _ (by omega) (List.getElem?_eq_getElem hj)
      simp only [decide_eq_true_eq]
      omega
  rintro w3 _ ⟨⟨s3, rfl⟩, he⟩
  apply W.readS LO mixed [4] (by kernel_rfl)
  · repeat' (first | rfl | with_reducible assumption | assumption | constructor)
  intro w4 f4 s4 hf4
  replace hf4 : f4 = [(4, _)] := hf4
  subst hf4
  exact W.ret (post LO (rs := [.tmp 4]) rfl (vs := [.bool false]) (.tmp rfl .nil) ⟨by rw [he]; rfl, s3.trans s4⟩)
/-! ### release -/
theorem strOfNums_app (a b : List Int) : strOfNums a ++ strOfNums b = strOfNums (a ++ b) := by
  apply ByteArray.ext
  rw [ByteArray.data_append]
  unfold strOfNums
  rw [List.map_append]
  simp
theorem info_int : ∃ i, Try.prog.info? 3 = some i ∧ i.zero = some (.int .i64 0) ∧ i.size = 1 ∧ i.bytes = 8 := by
  have h : (Try.prog.info? 3).map (fun i => (i.zero, i.size, i.bytes)) = some (some (.int .i64 0), 1, 8) := by kernel_rfl
  exact info_parts h
theorem und_ints : Try.prog.underlying 45 = some (.slice 3) := by kernel_rfl
/-- A part of the bytes as a text. -/
theorem byte_of {w : World} {v : Value} {xs : List Int} (h : Own w 5 v (xs.map (.int .u8))) {a : Option Addr} {n c : Nat} (hv : v = .slice a n c) (i : Nat) (b : Int) (hi : xs[i]? = some b) :
    ∀ w', Same w w' → (convert 30 9 (.slice (if c = i then a else a.map (·.add (i * 1))) (i + 1 - i) (c - i))).run Try.prog w' = .ok (.string (strOfNums [b])) w' := fun w' hs => by
  have hil : i < xs.length := (List.getElem?_eq_some_iff.1 hi).1
  rcases h.2 with ⟨h1, hn⟩ | ⟨g, cap, cur, h1, hb, hg, hnc, hcm, hcs, ht⟩
  · rw [List.length_map] at hn; omega
  · rw [hv] at h1
    cases h1
    rw [List.length_map] at hnc
    rw [if_neg (by omega), show i + 1 - i = 1 by omega]
    show (convert 30 9 (.slice (some ((⟨g, 0, none⟩ : Addr).add (i * 1))) 1 (c - i))).run Try.prog w' = _
    rw [Addr.add_lit]
    refine run_convert_bytes_arg w' 30 5 info_sl8 und_u8 g (0 + i * 1) 1 (c - i) [b] rfl (fun j hj => ?_) 9 und_str
    obtain rfl : j = 0 := by omega
    have := World.ownsRow.cells (g := g) h (by rw [hv]; rfl) i (.int .u8 b) (by rw [List.getElem?_map, hi]; rfl)
    rw [Addr.add_lit] at this
    rw [same_cell hs, show 0 + i * 1 + 0 = 0 + i by omega]
    exact this
theorem erase_eq {α : Type} (l : List α) (i : Nat) : l.take i ++ l.drop (i + 1) = l.eraseIdx i := (List.eraseIdx_eq_take_drop_succ l i).symm
theorem zip_erase {α β : Type} : ∀ (a : List α) (b : List β) (i : Nat), (a.zip b).eraseIdx i = (a.eraseIdx i).zip (b.eraseIdx i)
  | [], b, i => by simp
  | x :: a, [], i => by cases i <;> simp
  | x :: a, y :: b, 0 => rfl
  | x :: a, y :: b, i + 1 => by simp [zip_erase a b i]
def RS.zip (D : RS) : List (Int × Int) := D.places.zip D.bytes
/-- What 'release' leaves. -/
def RS.rels (D : RS) : RS := { D with places := (rel D.places.length D.told.size D.zip (-1)).2.1.map (·.1), bytes := (rel D.places.length D.told.size D.zip (-1)).2.1.map (·.2) }
structure ROk (D : RS) : Prop where
  len : D.places.length = D.bytes.length
  nd : D.places.Nodup
  few : D.places.length ≤ 1000000
  told : D.told.size ≤ 1000000000
def RRelPost (q : Nat) (D : RS) (vp vb : Value) (w : World) (e : Ending) (w' : World) : Prop :=
  e = .returned (.string (strOfNums (rel D.places.length D.told.size D.zip (-1)).2.2)) ∧ ∃ vp' vb', RAt w' q vp' vb' D.rels ∧ Mv (RB q vp vb) w w' ∧ ∀ k, RB q vp' vb' k → RB q vp vb k ∨ w.heap.size ≤ k
theorem one_int {u : Value} {k : IntKind} {l : List Int} (h : u ∈ l.map (Value.int k)) : u.oneCell' = true := by
  obtain ⟨x, _, rfl⟩ := List.mem_map.1 h
  rfl
set_option maxRecDepth 100000 in
set_option maxHeartbeats 4000000 in
theorem rrelease_walk (q : Nat) (vp vb : Value) (D : RS) (w : World) (h : RAt w q vp vb D) (ok : ROk D) :
    Calls Try.prog 30 #[.pointer (some ⟨q, 0, none⟩)] w (RRelPost q D vp vb w) := by
  obtain ⟨iI, hiI, hzI, hsI, hbI⟩ := info_int
  obtain ⟨iB, hiB, hzB, hsB, hbB⟩ := info_parts info_u8
  refine calls_W (n := 62) (vs := [.pointer (some ⟨q, 0, none⟩)]) Try.func30 rfl rfl rfl ?_
  apply W.readS LO mixed [0] (by kernel_rfl)
  · repeat' (first | rfl | with_reducible assumption | assumption | constructor)
  intro w1 f1 s1 hf1
  replace hf1 : f1 = [(0, _)] := hf1
  subst hf1
  apply W.readS LO mixed [0, 3] (by kernel_rfl)
  · repeat' (first | rfl | with_reducible assumption | assumption | constructor)
  intro w2 f2 s2 hf2
  replace hf2 : f2 = [(0, _), (3, _)] := hf2
  subst hf2
  have h2 := (h.same s1).same s2
  have hm2 : Mv (RB q vp vb) w w2 := ((Mv.refl _ w).same s1).same s2
  refine W.block (W.loop (fun k w' g => ∃ (ps bs acc : List Int) (vp' vb' : Value), k = ps.length ∧ ps.length = bs.length ∧ ps.Nodup ∧ acc.length + ps.length ≤ D.places.length ∧ RAt w' q vp' vb' { D with places := ps, bytes := bs } ∧ Mv (RB q vp vb) w w' ∧ (∀ k, RB q vp' vb' k → RB q vp vb k ∨ w.heap.size ≤ k) ∧
    rel D.places.length D.told.size D.zip (-1) = ((rel ps.length (D.told.size + acc.length) (ps.zip bs) (-1)).1, (rel ps.length (D.told.size + acc.length) (ps.zip bs) (-1)).2.1, acc ++ (rel ps.length (D.told.size + acc.length) (ps.zip bs) (-1)).2.2) ∧
    g = [(0, .pointer (some ⟨q, 0, none⟩)), (3, .string (strOfNums acc))]) D.places.length _ ⟨D.places, D.bytes, [], vp, vb, rfl, ok.len, ok.nd, by simp, h2, hm2, fun k hk => .inl hk, by simp [RS.zip], rfl⟩ (sub_keys rfl) ?_)
  clear h2 hm2 s1 s2
  rintro k w3 _ ⟨ps, bs, acc, vp', vb', hk, hlen, hnd, hacc, h3, hm3, hown3, hrel, rfl⟩
  have hfew := ok.few
  have htold := ok.told
  have k1 : Kn (IntKind.i64.wrap ((D.told.size : Int) + ((strOfNums acc).size : Int))) ((D.told.size : Int) + acc.length) := .of (by rw [size_nums]; exact IntWalk.i64_in _ (by omega))
  have q1 := quiet_of (w := w3) fun w' s' => rat_says q vp' vb' _ w' (h3.same s')
  obtain ⟨ix, hix⟩ : ∃ ix, ix = idxOf ps ((D.told.size : Int) + acc.length) := ⟨_, rfl⟩
  have q2 : ∀ w', Same w3 w' → Calls Try.prog 29 #[.pointer (some ⟨q, 0, none⟩), .int .i64 ((D.told.size : Int) + acc.length)] w' fun e w'' => e = .returned (.int .i64 ix) ∧ Same w3 w'' := by
    rw [hix]
    exact quiet_of (w := w3) fun w' s' => held_says q vp' vb' _ ((D.told.size : Int) + acc.length) w' (h3.same s') (by show ps.length ≤ _; omega)
  refine W.block ?_
  apply W.readS LO mixed [0, 3, 4] (by kernel_rfl)
  · repeat' (first | rfl | with_reducible assumption | assumption | constructor)
  intro w4 f4 s4 hf4
  replace hf4 : f4 = [(0, _), (3, _), (4, _)] := hf4
  subst hf4
  have h4 := h3.same s4
  have hm4 := hm3.same s4
  cases hfi : ps.findIdx? (· == (D.told.size : Int) + acc.length) with
  | none =>
    have e1 : idxOf ps ((D.told.size : Int) + acc.length) = -1 := by unfold idxOf; rw [hfi]
    have k2 : Kn (decide (ix < 0)) true := .yes (by rw [hix, e1]; decide)
    refine W.cutS (fun _ _ => False) ?_ (fun _ _ h => h.elim)
    apply W.readS LO mixed [3, 13] (by kernel_rfl)
    · repeat' (first | rfl | with_reducible assumption | assumption | constructor)
    intro w5 f5 s5 hf5
    replace hf5 : f5 = [(3, _), (13, _)] := hf5
    subst hf5
    refine W.cond (b := true) rfl (fun _ => ?_) (fun h => by cases h)
    apply W.readS LO mixed [2] (by kernel_rfl)
    · repeat' (first | rfl | with_reducible assumption | assumption | constructor)
    intro w6 f6 s6 hf6
    replace hf6 : f6 = [(2, _)] := hf6
    subst hf6
    refine W.ret (post (fn := Try.f30) (R := RRelPost q D vp vb w) LO (rs := [.tmp 2]) rfl (vs := [.string (strOfNums acc)]) (.tmp rfl .nil) ?_)
    have hno : (ps.zip bs).lookup ((D.told.size : Int) + acc.length) = none := by
      refine lookup_none.2 fun p hp => ?_
      have hp1 := List.of_mem_zip (a := p.1) (b := p.2) hp
      have := List.findIdx?_eq_none_iff.1 hfi p.1 hp1.1
      simpa using this
    rw [rel_none (.inl hno)] at hrel
    simp only [List.append_nil] at hrel
    refine ⟨by rw [hrel]; rfl, vp', vb', ?_, (hm4.same s5).same s6, hown3⟩
    have hD : D.rels = { D with places := ps, bytes := bs } := by
      unfold RS.rels
      rw [hrel]
      simp only [List.map_fst_zip (Nat.le_of_eq hlen), List.map_snd_zip (Nat.le_of_eq hlen.symm)]
    rw [hD]
    exact (h4.same s5).same s6
  | some i =>
    have e1 : ix = (i : Int) := by rw [hix]; unfold idxOf; rw [hfi]
    clear hix
    subst e1
    obtain ⟨hlt, hpi, _⟩ := List.findIdx?_eq_some_iff_getElem.1 hfi
    have hpi : ps[i] = (D.told.size : Int) + acc.length := by simpa using hpi
    have hbl : i < bs.length := by omega
    obtain ⟨c, hc⟩ : ∃ c, bs[i]? = some c := ⟨bs[i], List.getElem?_eq_getElem hbl⟩
    have hzi : (ps.zip bs)[i]? = some ((D.told.size : Int) + acc.length, c) := by
      rw [List.getElem?_zip_eq_some]
      exact ⟨by rw [List.getElem?_eq_getElem hlt, hpi], hc⟩
    have hnz : ((ps.zip bs).map (·.1)).Nodup := by rw [List.map_fst_zip (Nat.le_of_eq hlen)]; exact hnd
    have hlk : (ps.zip bs).lookup ((D.told.size : Int) + acc.length) = some c := lookup_of_mem hnz (List.mem_of_getElem? hzi)
    have hrel' : rel D.places.length D.told.size D.zip (-1) = ((rel (ps.eraseIdx i).length (D.told.size + (acc ++ [c]).length) ((ps.eraseIdx i).zip (bs.eraseIdx i)) (-1)).1, (rel (ps.eraseIdx i).length (D.told.size + (acc ++ [c]).length) ((ps.eraseIdx i).zip (bs.eraseIdx i)) (-1)).2.1, (acc ++ [c]) ++ (rel (ps.eraseIdx i).length (D.told.size + (acc ++ [c]).length) ((ps.eraseIdx i).zip (bs.eraseIdx i)) (-1)).2.2) := by
      have hpl : ps.length = (ps.eraseIdx i).length + 1 := by rw [List.length_eraseIdx_of_lt hlt]; omega
      have hfe := filter_ne_erase hnz hzi
      rw [hrel, hpl]
      simp only [rel, hlk]
      rw [if_neg (by omega), hfe, zip_erase]
      simp only [List.length_append, List.length_singleton, List.append_assoc, List.singleton_append]
      rw [show (D.told.size : Int) + (acc.length : Int) + 1 = D.told.size + ((acc.length + 1 : Nat) : Int) by omega]
    refine W.cutS (fun w' g => Same w4 w' ∧ g = [(0, .pointer (some ⟨q, 0, none⟩)), (3, .string (strOfNums acc)), (4, .int .i64 i)]) ?_ ?_
    · have k2 : Kn (decide ((i : Int) < 0)) false := .no (by omega)
      apply W.readS LO mixed [0, 3, 4, 13] (by kernel_rfl)
      · repeat' (first | rfl | with_reducible assumption | assumption | constructor)
      intro w5 f5 s5 hf5
      replace hf5 : f5 = [(0, _), (3, _), (4, _), (13, _)] := hf5
      subst hf5
      refine W.cond (b := false) rfl (fun h => by cases h) (fun _ => W.skip ?_)
      exact N.cut ⟨s5, rfl⟩ (sub_keys rfl)
    rintro w5 _ ⟨s5, rfl⟩
    have h5 := h4.same s5
    have hm5 := hm4.same s5
    clear h4 hm4 s4 s5 h3 hm3 q1 q2 k1
    obtain ⟨c0, c1, c2, c3, c4, c5, c6, c7⟩ := h5.cls
    obtain ⟨ab, cb, hvb, hlcb, hnilb, hblkb⟩ := own_slice h5.ob
    rw [List.length_map] at hvb hlcb
    have c5' := c5
    rw [hvb] at c5'
    have k3 : Kn (IntKind.i64.wrap ((i : Int) + 1)) ((i : Int) + 1) := .of (IntWalk.i64_in _ (by omega))
    have g0 : 0 ≤ (i : Int) := by omega
    have g1 : (i : Int) ≤ (i : Int) + 1 := by omega
    have hlcb' : bs.length ≤ cb := hlcb
    have g2 : (i : Int) + 1 ≤ (cb : Int) := by omega
    have hconv := byte_of h5.ob (a := ab) (n := bs.length) (c := cb) hvb i c hc
    have ei1 : ((i : Int)).toNat = i := by omega
    have ei2 : ((i : Int) + 1).toNat = i + 1 := by omega
    have hconv' : ∀ w', Same w5 w' → (convert 30 9 (.slice (if cb = ((i : Int)).toNat then ab else ab.map (·.add (((i : Int)).toNat * 1))) (((i : Int) + 1).toNat - ((i : Int)).toNat) (cb - ((i : Int)).toNat))).run Try.prog w' = .ok (.string (strOfNums [c])) w' := by
      rw [ei1, ei2]; exact hconv
    have hsz : (strOfNums acc).size + (strOfNums [c]).size ≤ 9223372036854775807 := by rw [size_nums, size_nums]; simp only [List.length_singleton]; omega
    clear c5
    apply W.readS LO mixed [0, 3, 4] (by kernel_rfl)
    · repeat' (first | rfl | with_reducible assumption | assumption | constructor)
    intro w6 f6 s6 hf6
    replace hf6 : f6 = [(0, _), (3, _), (4, _)] := hf6
    rw [strOfNums_app] at hf6
    subst hf6
    have h6 := h5.same s6
    have hm6 := hm5.same s6
    clear c0 c1 c2 c3 c4 c5' c6 c7 hconv hconv' h5 hm5 s6 hvb hnilb hblkb hlcb hlcb' g2
    obtain ⟨ap, cp, hvp, hlcp, hnilp, hblkp⟩ := own_slice h6.op
    rw [List.length_map] at hvp hlcp
    have hlcp' : ps.length ≤ cp := hlcp
    have F1 : ∀ w', Mv (fun _ => False) w6 w' → Cl w' ⟨q, 4, none⟩ (.slice ap ps.length cp) := fun w' m => by
      obtain ⟨_, _, _, _, c4, c5, _, _⟩ := (h6.moved m (fun k _ e => e)).cls
      rw [← hvp]; exact c4
    have b0 : (i : Int) ≤ (cp : Int) := by omega
    have b1 : 0 ≤ (i : Int) + 1 := by omega
    have b2 : (i : Int) + 1 ≤ (ps.length : Int) := by omega
    refine W.seq (W.held mixed (fun w' => Mv (fun _ => False) w6 w') [18] 19 rfl (fun w' s => (Mv.refl _ w6).same s) ?_)
    intro w7 s7
    apply H.takesK LO true [0, 3, 4, 26, 32, 40] [0, 1, 2, 3, 4, 5, 6, 8, 9, 10, 11, 12, 13, 14] (k := 5) rfl (by kernel_rfl)
    · repeat' (first | rfl | with_reducible assumption | assumption | (intro w' hw'; replace hw' := hw' rfl; have h0' := F1 w' hw') | constructor)
    intro g_ hg_
    replace hg_ : g_ = [(0, _), (3, _), (4, _), (26, _), (32, _), (40, _)] := hg_
    subst hg_
    have hr1 : Reads w7 (.slice (if cp = 0 then ap else ap.map (·.add (0 * 1))) (((i : Int)).toNat - 0) (cp - 0)) (((ps.map (Value.int .i64)).drop 0).take (((i : Int)).toNat - 0)) := (h6.same s7).op.part hvp 0 ((i : Int)).toNat (Nat.zero_le _) (by rw [List.length_map]; show ((i : Int)).toNat ≤ ps.length; omega)
    refine H.only (i := 7) rfl (by kernel_rfl) ?_
    refine Ls.append rfl rfl rfl rfl und_ints hiI hzI hsI hbI rfl rfl rfl (Own.nil w7 3) hr1 (fun u hu => one_int (List.mem_of_mem_drop (List.mem_of_mem_take hu))) (by simp only [List.length_nil, List.length_append, List.length_take, List.length_drop, List.length_map, maxLen]; omega) (by simp only [List.length_nil, List.length_append, List.length_take, List.length_drop, List.length_map]; omega) ?_
    intro v1 w8 ho1 m8 hb1
    have m8' : Mv (fun _ => False) w7 w8 := m8.mono fun k e => by cases e
    have m8 : Mv (fun _ => False) w6 w8 := ((Mv.refl _ w6).same s7).trans m8'
    refine Ls.nil (N.goOn (fun _ => m8) ?_)
    have hr2 : Reads w8 (.slice (if cp = ((i : Int) + 1).toNat then ap else ap.map (·.add (((i : Int) + 1).toNat * 1))) (ps.length - ((i : Int) + 1).toNat) (cp - ((i : Int) + 1).toNat)) (((ps.map (Value.int .i64)).drop ((i : Int) + 1).toNat).take (ps.length - ((i : Int) + 1).toNat)) := (h6.moved m8 (fun k _ e => e)).op.part hvp ((i : Int) + 1).toNat ps.length (by omega) (by rw [List.length_map]; exact Nat.le_refl _)
    refine H.only (i := 15) rfl (by kernel_rfl) ?_
    refine Ls.append rfl rfl rfl rfl und_ints hiI hzI hsI hbI rfl rfl rfl ho1 hr2 (fun u hu => one_int (List.mem_of_mem_drop (List.mem_of_mem_take hu))) (by simp only [List.length_nil, List.length_append, List.length_take, List.length_drop, List.length_map, maxLen]; omega) (by simp only [List.length_nil, List.length_append, List.length_take, List.length_drop, List.length_map]; omega) ?_
    intro v2 w9 ho2 m9 hb2
    have hb1' : ∀ k, v1.ownBlock = some k → w7.heap.size ≤ k := fun k hk => by
      rcases hb1 with e | e
      · rw [e] at hk; cases hk
      · rw [e] at hk; have := Option.some.inj hk; omega
    have z7 : w7.heap.size = w6.heap.size := by rw [s7.heap]
    have m9 : Mv (fun _ => False) w6 w9 := m8.cut m9 fun k hk e => by have := hb1' k e; omega
    have hb2' : ∀ k, v2.ownBlock = some k → w6.heap.size ≤ k := fun k hk => by
      rcases hb2 with e | e
      · have := hb1' k (by rw [← e]; exact hk); omega
      · rw [e] at hk; have := Option.some.inj hk; have := m8.size; omega
    refine Ls.nil (N.goOn (fun _ => m9) ?_)
    apply H.takesK LO false [0, 3, 4, 43, 41] [16, 17] (k := 1) rfl (by kernel_rfl)
    · repeat' (first | rfl | with_reducible assumption | assumption | (intro w' hw'; replace hw' := True.intro) | constructor)
    intro g_ hg_
    replace hg_ : g_ = [(0, _), (3, _), (4, _), (43, _), (41, _)] := hg_
    subst hg_
    have ho2' : Own w9 3 v2 ((ps.eraseIdx i).map (Value.int .i64)) := by
      have e : (ps.eraseIdx i).map (Value.int .i64) = [] ++ ((ps.map (Value.int .i64)).drop 0).take (((i : Int)).toNat - 0) ++ ((ps.map (Value.int .i64)).drop ((i : Int) + 1).toNat).take (ps.length - ((i : Int) + 1).toNat) := by
        rw [ei1, ei2, ← erase_eq, List.map_append, List.map_take, List.map_drop]
        simp only [List.nil_append, List.drop_zero, Nat.sub_zero]
        congr 1
        rw [List.take_of_length_le (by simp)]
      rw [e]; exact ho2
    obtain ⟨a2, c2, hv2, _, _, _⟩ := own_slice ho2'
    refine H.only (i := 18) rfl (by kernel_rfl) ?_
    have h9 := h6.moved m9 (fun k _ e => e)
    refine Ls.store LO rfl rfl rfl rfl rfl (vs := [v2]) (by rw [hv2]; rfl) rfl (by rw [hv2]; rfl) h9.blk rfl ?_
    intro w10 hbk m10 _
    refine Ls.nil (N.goOn (fun hint => absurd (show true = false from hint 18 List.mem_cons_self) (by decide)) ?_)
    have hq9 : q < w6.heap.size := (Array.getElem?_eq_some_iff.1 h6.blk).1
    have h11 : RAt w10 q v2 vb' { D with places := ps.eraseIdx i, bytes := bs } := by
      refine ⟨hbk, ho2'.moved m10 (fun k hk e => by have := hb2' k hk; omega), h9.ob.moved m10 (fun k hk e => h9.nq.2 (e ▸ hk)), ⟨fun e => by have := hb2' q e; omega, h9.nq.2⟩, fun k hk e => ?_⟩
      have h1 := hb2' k hk
      have h2 := h6.ob.lt k e
      omega
    have hm11 : Mv (RB q vp vb) w w10 := (hm6.cut m9 fun k _ e => e.elim).cut m10 fun k _ e => .inl e
    have hown11 : ∀ k, RB q v2 vb' k → RB q vp vb k ∨ w.heap.size ≤ k := fun k hk => by
      rcases hk with e | e | e
      · exact .inl (.inl e)
      · right; have := hb2' k e; have := hm6.size; omega
      · exact hown3 k (.inr (.inr e))
    refine H.done (by kernel_rfl) (N.to ?_)
    clear hvp hlcp hnilp hblkp hlcp' F1 b0 b1 b2 hr1 m8' hb1 hb2 hb1' z7 m9 hb2' hv2 h9 hbk m10 hq9 h6 hm6 m8 ho1 hr2 ho2 ho2' s7 hown3
    refine W.weak (g := [(0, .pointer (some ⟨q, 0, none⟩)), (3, .string (strOfNums (acc ++ [c]))), (4, .int .i64 i)]) ?_ (sub_keys rfl)
    generalize w10 = w11 at h11 hm11
    obtain ⟨v2', hv2'⟩ : ∃ v2', v2' = v2 := ⟨_, rfl⟩
    rw [← hv2'] at h11 hown11
    clear hv2'
    obtain ⟨ap, cp, hvp, hlcp, hnilp, hblkp⟩ := own_slice h11.ob
    rw [List.length_map] at hvp hlcp
    have hlcp' : bs.length ≤ cp := hlcp
    have F1 : ∀ w', Mv (fun _ => False) w11 w' → Cl w' ⟨q, 5, none⟩ (.slice ap bs.length cp) := fun w' m => by
      obtain ⟨_, _, _, _, c4, c5, _, _⟩ := (h11.moved m (fun k _ e => e)).cls
      rw [← hvp]; exact c5
    have b0 : (i : Int) ≤ (cp : Int) := by omega
    have b1 : 0 ≤ (i : Int) + 1 := by omega
    have b2 : (i : Int) + 1 ≤ (bs.length : Int) := by omega
    refine (W.held mixed (fun w' => Mv (fun _ => False) w11 w') [18] 19 rfl (fun w' s => (Mv.refl _ w11).same s) ?_)
    intro w7 s7
    apply H.takesK LO true [0, 3, 4, 44, 50, 58] [0, 1, 2, 3, 4, 5, 6, 8, 9, 10, 11, 12, 13, 14] (k := 5) rfl (by kernel_rfl)
    · repeat' (first | rfl | with_reducible assumption | assumption | (intro w' hw'; replace hw' := hw' rfl; have h0' := F1 w' hw') | constructor)
    intro g_ hg_
    replace hg_ : g_ = [(0, _), (3, _), (4, _), (44, _), (50, _), (58, _)] := hg_
    subst hg_
    have hr1 : Reads w7 (.slice (if cp = 0 then ap else ap.map (·.add (0 * 1))) (((i : Int)).toNat - 0) (cp - 0)) (((bs.map (Value.int .u8)).drop 0).take (((i : Int)).toNat - 0)) := (h11.same s7).ob.part hvp 0 ((i : Int)).toNat (Nat.zero_le _) (by rw [List.length_map]; show ((i : Int)).toNat ≤ bs.length; omega)
    refine H.only (i := 7) rfl (by kernel_rfl) ?_
    refine Ls.append rfl rfl rfl rfl info_sl8 hiB hzB hsB hbB rfl rfl rfl (Own.nil w7 5) hr1 (fun u hu => one_int (List.mem_of_mem_drop (List.mem_of_mem_take hu))) (by simp only [List.length_nil, List.length_append, List.length_take, List.length_drop, List.length_map, maxLen]; omega) (by simp only [List.length_nil, List.length_append, List.length_take, List.length_drop, List.length_map]; omega) ?_
    intro v1 w8 ho1 m8 hb1
    have m8' : Mv (fun _ => False) w7 w8 := m8.mono fun k e => by cases e
    have m8 : Mv (fun _ => False) w11 w8 := ((Mv.refl _ w11).same s7).trans m8'
    refine Ls.nil (N.goOn (fun _ => m8) ?_)
    have hr2 : Reads w8 (.slice (if cp = ((i : Int) + 1).toNat then ap else ap.map (·.add (((i : Int) + 1).toNat * 1))) (bs.length - ((i : Int) + 1).toNat) (cp - ((i : Int) + 1).toNat)) (((bs.map (Value.int .u8)).drop ((i : Int) + 1).toNat).take (bs.length - ((i : Int) + 1).toNat)) := (h11.moved m8 (fun k _ e => e)).ob.part hvp ((i : Int) + 1).toNat bs.length (by omega) (by rw [List.length_map]; exact Nat.le_refl _)
    refine H.only (i := 15) rfl (by kernel_rfl) ?_
    refine Ls.append rfl rfl rfl rfl info_sl8 hiB hzB hsB hbB rfl rfl rfl ho1 hr2 (fun u hu => one_int (List.mem_of_mem_drop (List.mem_of_mem_take hu))) (by simp only [List.length_nil, List.length_append, List.length_take, List.length_drop, List.length_map, maxLen]; omega) (by simp only [List.length_nil, List.length_append, List.length_take, List.length_drop, List.length_map]; omega) ?_
    intro v2 w9 ho2 m9 hb2
    have hb1' : ∀ k, v1.ownBlock = some k → w7.heap.size ≤ k := fun k hk => by
      rcases hb1 with e | e
      · rw [e] at hk; cases hk
      · rw [e] at hk; have := Option.some.inj hk; omega
    have z7 : w7.heap.size = w11.heap.size := by rw [s7.heap]
    have m9 : Mv (fun _ => False) w11 w9 := m8.cut m9 fun k hk e => by have := hb1' k e; omega
    have hb2' : ∀ k, v2.ownBlock = some k → w11.heap.size ≤ k := fun k hk => by
      rcases hb2 with e | e
      · have := hb1' k (by rw [← e]; exact hk); omega
      · rw [e] at hk; have := Option.some.inj hk; have := m8.size; omega
    refine Ls.nil (N.goOn (fun _ => m9) ?_)
    apply H.takesK LO false [0, 3, 4, 61, 59] [16, 17] (k := 1) rfl (by kernel_rfl)
    · repeat' (first | rfl | with_reducible assumption | assumption | (intro w' hw'; replace hw' := True.intro) | constructor)
    intro g_ hg_
    replace hg_ : g_ = [(0, _), (3, _), (4, _), (61, _), (59, _)] := hg_
    subst hg_
    have ho2' : Own w9 5 v2 ((bs.eraseIdx i).map (Value.int .u8)) := by
      have e : (bs.eraseIdx i).map (Value.int .u8) = [] ++ ((bs.map (Value.int .u8)).drop 0).take (((i : Int)).toNat - 0) ++ ((bs.map (Value.int .u8)).drop ((i : Int) + 1).toNat).take (bs.length - ((i : Int) + 1).toNat) := by
        rw [ei1, ei2, ← erase_eq, List.map_append, List.map_take, List.map_drop]
        simp only [List.nil_append, List.drop_zero, Nat.sub_zero]
        congr 1
        rw [List.take_of_length_le (by simp)]
      rw [e]; exact ho2
    obtain ⟨a2, c2, hv2, _, _, _⟩ := own_slice ho2'
    refine H.only (i := 18) rfl (by kernel_rfl) ?_
    have h9 := h11.moved m9 (fun k _ e => e)
    refine Ls.store LO rfl rfl rfl rfl rfl (vs := [v2]) (by rw [hv2]; rfl) rfl (by rw [hv2]; rfl) h9.blk rfl ?_
    intro w10 hbk m10 _
    refine Ls.nil (N.goOn (fun hint => absurd (show true = false from hint 18 List.mem_cons_self) (by decide)) ?_)
    have hq9 : q < w11.heap.size := (Array.getElem?_eq_some_iff.1 h11.blk).1
    have h12 : RAt w10 q v2' v2 { D with places := ps.eraseIdx i, bytes := bs.eraseIdx i } := by
      refine ⟨hbk, h9.op.moved m10 (fun k hk e => h9.nq.1 (e ▸ hk)), ho2'.moved m10 (fun k hk e => by have := hb2' k hk; omega), ⟨h9.nq.1, fun e => by have := hb2' q e; omega⟩, fun k hk e => ?_⟩
      have h1 := hb2' k e
      have h2 := h11.op.lt k hk
      omega
    have hm12 : Mv (RB q vp vb) w w10 := (hm11.cut m9 fun k _ e => e.elim).cut m10 fun k _ e => .inl e
    have hown12 : ∀ k, RB q v2' v2 k → RB q vp vb k ∨ w.heap.size ≤ k := fun k hk => by
      rcases hk with e | e | e
      · exact .inl (.inl e)
      · exact hown11 k (.inr (.inl e))
      · right; have := hb2' k e; have := hm11.size; omega
    refine H.done (by kernel_rfl) (N.inb ?_)
    have hl1 : (ps.eraseIdx i).length = ps.length - 1 := List.length_eraseIdx_of_lt hlt
    have hl2 : (bs.eraseIdx i).length = bs.length - 1 := List.length_eraseIdx_of_lt hbl
    exact N.round (k - 1) _ (by omega) ⟨ps.eraseIdx i, bs.eraseIdx i, acc ++ [c], v2', v2, by omega, by omega, hnd.sublist (List.eraseIdx_sublist _ _), by simp only [List.length_append, List.length_singleton]; omega, h12, hm12, hown12, hrel', rfl⟩ (sub_keys rfl)
end Go.Proofs.Ytieolnekccacbaa
