/- What is proved: the law of plays: any segments, what comes of each. Conditions: those that stand in each theorem. -/
import Derived.Test.YtieolnekccacbaaDirRef5
import Derived.Deep.Slices
namespace Go.Proofs.Ytieolnekccacbaa
set_option linter.unusedVariables false
set_option linter.unusedSimpArgs false
set_option linter.unusedSectionVars false
open Go.RowKit Go.Maps Go.MapKept Go.ChangeMaps Go.ChangeShapes Fw
structure OpV where
  sq : Int
  data : ByteArray
  fin : Bool
theorem add_block (a : Addr) (n : Nat) : (a.add n).block = a.block := by unfold Addr.add; split <;> rfl
/-- A row of segments that came as an argument. -/
def OpRow (w : World) (a : Option Addr) (l : List OpV) : Prop := ∀ i x, l[i]? = some x → ∃ A, a = some A ∧ w.cell? ((A.add (i * 3)).add 0) = some (.int .u32 x.sq) ∧ w.cell? ((A.add (i * 3)).add 1) = some (.string x.data) ∧ w.cell? ((A.add (i * 3)).add 2) = some (.bool x.fin)
theorem open_rampartlaw20_Op {H : Type} {enc : TypeId × Value → H} {W : World} {fs : Array Field} {a : Option Addr} {len cap : Nat} {d : DataW H} {ps : List MemPlace}
    (ht : Try.prog.underlying 35 = some (.slice 39)) (he : Try.prog.underlying 39 = some (.struct fs)) (hc : Try.prog.cellsOf 39 = 3) (h : DataW.Trod enc Try.prog W 0 (fun _ => true) true 35 (.slice a len cap) d ps) :
    ∃ l : List OpV, len = l.length ∧ OpRow W a l ∧ ∀ x ∈ l, (Lit.int .u32 x.sq).wf = true := by
  obtain ⟨fuel, hf⟩ := h
  have hfs : fs.toList.map (fun f => (f.offset, f.type)) = [(0, 22), (1, 9), (2, 4)] := by
    have h1 : (match Try.prog.underlying 39 with | some (.struct fs) => fs.toList.map (fun f => (f.offset, f.type)) | _ => []) = [(0, 22), (1, 9), (2, 4)] := by kernel_rfl
    rw [he] at h1; exact h1
  have c22 : Try.prog.cellsOf 22 = 1 := by kernel_rfl
  have c9 : Try.prog.cellsOf 9 = 1 := by kernel_rfl
  have c4 : Try.prog.cellsOf 4 = 1 := by kernel_rfl
  rcases Deep.open_slice ht hf with ⟨hcs, _⟩ | ⟨A, len', cap', m, n, D, Pl, hcs, _, hl, hm, hmm, _, hx⟩
  · simp [Value.cells] at hcs
    obtain ⟨rfl, rfl, rfl⟩ := hcs
    exact ⟨[], rfl, fun i v hi => by simp at hi, fun s hs => by cases hs⟩
  · simp [Value.cells] at hcs
    obtain ⟨rfl, rfl, rfl⟩ := hcs
    have hlm : len ≤ m := by rw [hmm]; split <;> omega
    have each : ∀ i, i < len → ∃ x : OpV, W.cell? ((A.add (i * 3)).add 0) = some (.int .u32 x.sq) ∧ W.cell? ((A.add (i * 3)).add 1) = some (.string x.data) ∧ W.cell? ((A.add (i * 3)).add 2) = some (.bool x.fin) ∧ (Lit.int .u32 x.sq).wf = true := by
      intro i hi
      obtain ⟨cs', h1, h2⟩ := hx i (by omega)
      rw [hc] at h1
      obtain ⟨_, hlen, hcell⟩ := World.cells?_some h1
      obtain ⟨xs, k, hk, hxy, _, hxl, hfd⟩ := DataW.trod_struct he h2
      match hfl : fs.toList, hfs with
      | [f0, f1, f2], hfs =>
        have g0 : fs[0]? = some f0 := by rw [← Array.getElem?_toList, hfl]; rfl
        have g1 : fs[1]? = some f1 := by rw [← Array.getElem?_toList, hfl]; rfl
        have g2 : fs[2]? = some f2 := by rw [← Array.getElem?_toList, hfl]; rfl
        simp only [List.map_cons, List.map_nil, List.cons.injEq, Prod.mk.injEq, and_true] at hfs
        obtain ⟨⟨o0, t0⟩, ⟨o1, t1⟩, o2, t2⟩ := hfs
        have q0 := hfd 0 f0 g0
        have q1 := hfd 1 f1 g1
        have q2 := hfd 2 f2 g2
        have hsz : fs.size = 3 := by rw [← Array.length_toList, hfl]; rfl
        rw [hsz] at hxl
        match xs, hxl, cs', hlen with
        | [y0, y1, y2], _, [v0, v1, v2], _ =>
          rw [o0, t0, c22] at q0
          rw [o1, t1, c9] at q1
          rw [o2, t2, c4] at q2
          obtain ⟨n0, e0, _, w0⟩ := DataW.trod_int Try.underlying22 q0
          obtain ⟨s1, e1, _, _⟩ := DataW.trod_string Try.underlying9 q1
          obtain ⟨b2, e2, _⟩ := DataW.trod_bool Try.underlying4 q2
          have p0 := hcell 0 (by omega)
          have p1 := hcell 1 (by omega)
          have p2 := hcell 2 (by omega)
          obtain rfl : v0 = .int .u32 n0 := by simpa using e0
          obtain rfl : v1 = .string s1 := by simpa using e1
          obtain rfl : v2 = .bool b2 := by simpa using e2
          exact ⟨⟨n0, s1, b2⟩, by simpa using p0, by simpa using p1, by simpa using p2, w0⟩
      | [], h => simp at h
      | [_], h => simp at h
      | [_, _], h => simp at h
      | _ :: _ :: _ :: _ :: _, h => simp at h
    haveI : Inhabited OpV := ⟨⟨0, ⟨#[]⟩, false⟩⟩
    obtain ⟨F, hF⟩ := Deep.choose_lt (α := OpV) each
    refine ⟨(List.range len).map F, by simp, fun i x hi => ?_, fun x hx => ?_⟩
    · rw [List.getElem?_map] at hi
      obtain ⟨j, hj, rfl⟩ := Option.map_eq_some_iff.1 hi
      have : i < len ∧ i = j := by
        by_cases hlt : i < len
        · rw [List.getElem?_range hlt] at hj; exact ⟨hlt, Option.some.inj hj⟩
        · rw [List.getElem?_eq_none (by simp; omega)] at hj; cases hj
      obtain ⟨hlt, rfl⟩ := this
      have := hF i hlt
      exact ⟨A, rfl, this.1, this.2.1, this.2.2.1⟩
    · obtain ⟨i, hi, rfl⟩ := List.mem_map.1 hx
      exact (hF i (List.mem_range.1 hi)).2.2.2
theorem OpRow.moved {w w' : World} {a : Option Addr} {l : List OpV} {S : Nat → Prop} (h : OpRow w a l) (m : Mv S w w') (hs : ∀ k, k < w.heap.size → ¬ S k) : OpRow w' a l := by
  intro i x hi
  obtain ⟨A, hA, h0, h1, h2⟩ := h i x hi
  have hb : A.block < w.heap.size := by
    have := World.block_lt_of_cell? w _ h0
    rwa [add_block, add_block] at this
  have hn : ∀ k, ¬ S (((A.add (i * 3)).add k).block) := fun k => by rw [add_block, add_block]; exact hs _ hb
  exact ⟨A, hA, m.cell h0 (hn 0), m.cell h1 (hn 1), m.cell h2 (hn 2)⟩
def pf (a : Option Addr) (len cap p q : Nat) (place i : Int) : Fr := [(3, .slice a len cap), (4, .int .i64 place), (11, .pointer (some ⟨p, 0, none⟩)), (12, .pointer (some ⟨q, 0, none⟩)), (13, .int .i64 i)]
set_option maxRecDepth 100000 in
set_option maxHeartbeats 4000000 in
theorem plays_walk (start b h : Int) (a : Option Addr) (cap : Nat) (l : List OpV) (place : Int) (w : World) (hs : 0 ≤ start ∧ start < 4294967296) (hpl : -9223372036854775808 ≤ place ∧ place ≤ 9223372036854775807) (hrow : OpRow w a l) (hl32 : ∀ x ∈ l, 0 ≤ x.sq ∧ x.sq < 4294967296) :
    Calls Try.prog 6 #[.int .u32 start, .int .i64 b, .int .i64 h, .slice a l.length cap, .int .i64 place] w (Yes w) := by
  refine calls_W (n := 120) (vs := [.int .u32 start, .int .i64 b, .int .i64 h, .slice a l.length cap, .int .i64 place]) Try.func6 rfl rfl rfl ?_
  apply W.readS LO mixed [0, 1, 2, 3, 4] (by kernel_rfl)
  · repeat' (first | rfl | with_reducible assumption | assumption | constructor)
  intro w1 f1 s1 hf1
  replace hf1 : f1 = [(0, _), (1, _), (2, _), (3, _), (4, _)] := hf1
  subst hf1
  refine W.seq (W.list ?_)
  apply Ls.runK LO [0, 1, 2, 3, 4, 16, 17, 18] 3
  · repeat' (first | rfl | with_reducible assumption | assumption | constructor)
  intro w2 f2 s2 hf2
  replace hf2 : f2 = [(0, _), (1, _), (2, _), (3, _), (4, _), (16, _), (17, _), (18, _)] := hf2
  subst hf2
  refine Ls.call LO rfl rfl rfl rfl rfl (vs := [.int .u32 start, .int .i64 b, .int .i64 h]) rfl (start_walk start b h w2) ?_
  rintro _ w3 ⟨p, m, rfl, hD, hp, hm, hmv3⟩
  refine ⟨_, rfl, ?_⟩
  apply Ls.runK LO [0, 1, 2, 3, 4, 11] 1
  · repeat' (first | rfl | with_reducible assumption | assumption | constructor)
  intro w4 f4 s4 hf4
  replace hf4 : f4 = [(0, _), (1, _), (2, _), (3, _), (4, _), (11, _)] := hf4
  subst hf4
  refine Ls.nil (N.to ?_)
  refine W.seq (W.list ?_)
  apply Ls.runK LO [3, 4, 11, 20, 21, 22] 3
  · repeat' (first | rfl | with_reducible assumption | assumption | constructor)
  intro w5 f5 s5 hf5
  replace hf5 : f5 = [(3, _), (4, _), (11, _), (20, _), (21, _), (22, _)] := hf5
  subst hf5
  have hD5 := (hD.same s4).same s5
  have hm5 : Mv (fun _ => False) w w5 := (((((Mv.refl _ w).same s1).same s2).trans hmv3).same s4).same s5
  have hz : w.heap.size = w2.heap.size := by rw [s2.heap, s1.heap]
  refine Ls.call LO rfl rfl rfl rfl rfl (vs := [.int .u32 start, .int .i64 b, .int .i64 h]) rfl (rstart_walk start b h w5) ?_
  rintro _ w6 ⟨q, rfl, hR, hq, hmv6⟩
  refine ⟨_, rfl, ?_⟩
  have hp5 := hD5.blk.lt
  have hmm5 := hD5.map.lt
  have hB : Both w w6 p m q (.slice none 0 0) (.slice none 0 0) (RS.new start b h) 0 := by
    have hk : ∀ k, RB q (.slice none 0 0) (.slice none 0 0) k → k = q := fun k hk => by
      rcases hk with e | e | e
      · exact e
      · cases e
      · cases e
    have := hm5.size
    refine ⟨by rw [RS.new_ds]; exact hD5.moved hmv6 (fun e => e) (fun e => e), hR, RS.new_inv _ _ _, hm5.trans hmv6, by omega, fun k e => by rw [hk k e]; omega, fun k e => by rw [hk k e]; omega, hs, by show min (max b 0) 1024 ≤ 1024; omega, by show min (max h 0) 1024 ≤ 1024; omega, by show ((0 : Nat) : Int) ≤ _; omega, by show (-1 : Int) ≤ _; omega, by omega⟩
  clear hD hp hm hmv3 hD5 hm5 hz hR hq hmv6 hp5 hmm5 s1 s2 s4 s5
  apply Ls.runK LO [3, 4, 11, 12] 1
  · repeat' (first | rfl | with_reducible assumption | assumption | constructor)
  intro w7 f7 s7 hf7
  replace hf7 : f7 = [(3, _), (4, _), (11, _), (12, _)] := hf7
  subst hf7
  refine Ls.nil (N.to ?_)
  have hB := hB.same s7
  clear s7
  refine W.cutS (fun w' g => Both w w' p m q (.slice none 0 0) (.slice none 0 0) (RS.new start b h) 0 ∧ g = [(3, .slice a l.length cap), (4, .int .i64 place), (11, .pointer (some ⟨p, 0, none⟩)), (12, .pointer (some ⟨q, 0, none⟩))]) ?_ ?_
  ·
    apply W.readS LO mixed [3, 4, 11, 12, 25] (by kernel_rfl)
    · repeat' (first | rfl | with_reducible assumption | assumption | constructor)
    intro w8 f8 s8 hf8
    replace hf8 : f8 = [(3, _), (4, _), (11, _), (12, _), (25, _)] := hf8
    subst hf8
    refine W.cond (b := false) rfl (fun h => by cases h) (fun _ => W.skip ?_)
    exact N.cut ⟨hB.same s8, rfl⟩ (sub_keys rfl)
  rintro w8 _ ⟨hB, rfl⟩
  refine W.cutS (fun w' g => (∃ vp vb D i, Both w w' p m q vp vb D i) ∧ g = [(4, .int .i64 place), (11, .pointer (some ⟨p, 0, none⟩)), (12, .pointer (some ⟨q, 0, none⟩))]) ?_ ?_
  ·
    apply W.readS LO mixed [3, 4, 11, 12, 13] (by kernel_rfl)
    · repeat' (first | rfl | with_reducible assumption | assumption | constructor)
    intro w9 f9 s9 hf9
    replace hf9 : f9 = [(3, _), (4, _), (11, _), (12, _), (13, _)] := hf9
    subst hf9
    have hB := hB.same s9
    clear s9
    refine W.block (W.loop (fun k w' g => ∃ (i : Nat) (vp vb : Value) (D : RS), k + i = 40 ∧ i ≤ l.length ∧ Both w w' p m q vp vb D i ∧ g = pf a l.length cap p q place i) 40 _ ⟨0, _, _, _, rfl, Nat.zero_le _, hB, rfl⟩ (sub_keys rfl) ?_)
    clear hB
    rintro k w10 _ ⟨i, vp, vb, D, hki, hil, hB, rfl⟩
    have k40 : Kn (decide ((i : Int) < 40)) (decide (i < 40)) := .of (decide_eq_decide.2 (by omega))
    by_cases hlt : i < l.length
    · have k1 : Kn (decide ((i : Int) < (l.length : Int))) true := .yes (by omega)
      by_cases h40 : i < 40
      · rw [decide_eq_true h40] at k40
        refine W.seq ?_
        apply W.readS LO mixed [3, 4, 11, 12, 13, 33] (by kernel_rfl)
        · repeat' (first | rfl | with_reducible assumption | assumption | constructor)
        intro w11 f11 s11 hf11
        replace hf11 : f11 = [(3, _), (4, _), (11, _), (12, _), (13, _), (33, _)] := hf11
        subst hf11
        have hB := hB.same s11
        clear s11
        refine W.cond (b := true) rfl (fun _ => W.skip (N.to ?_)) (fun h => by cases h)
        obtain ⟨x, hx⟩ : ∃ x, l[i]? = some x := ⟨_, List.getElem?_eq_getElem hlt⟩
        have hx32 := hl32 x (List.mem_of_getElem? hx)
        obtain ⟨A, rfl, cs, cd, cf⟩ := hrow i x hx
        have hAb : A.block < w.heap.size := by
          have := World.block_lt_of_cell? w _ cs
          rwa [add_block, add_block] at this
        have i0 : (0 : Int) ≤ (i : Int) := by omega
        have i1 : (i : Int) < (l.length : Int) := by omega
        have ei : ((i : Int)).toNat = i := by omega
        rw [← ei] at cs cd cf
        refine W.cutS (fun w' g => (∃ vp vb D, Both w w' p m q vp vb D (i + 1)) ∧ g = pf (some A) l.length cap p q place i) ?_ ?_
        · refine W.block ?_
          have cd11 : Cl w11 ((A.add ((i : Int).toNat * 3)).add 1) (.string x.data) := ⟨hB.mv.cell cd (fun e => e)⟩
          refine W.cutS (fun w' g => (Both w w' p m q vp vb D i ∧ g = pf (some A) l.length cap p q place i) ∧ x.data.size ≤ 200) ?_ ?_
          · by_cases hbig : 200 < x.data.size
            · have k2 : Kn (decide (200 < (x.data.size : Int))) true := .yes (by omega)
              apply W.readS LO mixed [42] (by kernel_rfl)
              · repeat' (first | rfl | with_reducible assumption | assumption | constructor)
              intro w12 f12 s12 hf12
              replace hf12 : f12 = [(42, _)] := hf12
              subst hf12
              refine W.cond (b := true) rfl (fun _ => ?_) (fun h => by cases h)
              refine W.seq (W.list ?_)
              refine Ls.call LO rfl rfl rfl rfl rfl (vs := []) rfl (awake_walk w12) ?_
              rintro _ w13 ⟨rfl, hm13⟩
              refine ⟨_, rfl, ?_⟩
              apply Ls.runK LO [10] 1
              · repeat' (first | rfl | with_reducible assumption | assumption | constructor)
              intro w14 f14 s14 hf14
              replace hf14 : f14 = [(10, _)] := hf14
              subst hf14
              refine Ls.nil (N.to (W.ret ?_))
              exact post (fn := Try.f6) (R := Yes w) LO (rs := [.tmp 10]) rfl (vs := [.bool true]) (.tmp rfl .nil) ⟨rfl, ((hB.mv.same s12).trans hm13).same s14⟩
            · have k2 : Kn (decide (200 < (x.data.size : Int))) false := .no (by omega)
              apply W.readS LO mixed [3, 4, 11, 12, 13, 42] (by kernel_rfl)
              · repeat' (first | rfl | with_reducible assumption | assumption | constructor)
              intro w12 f12 s12 hf12
              replace hf12 : f12 = [(3, _), (4, _), (11, _), (12, _), (13, _), (42, _)] := hf12
              subst hf12
              refine W.cond (b := false) rfl (fun h => by cases h) (fun _ => W.skip ?_)
              exact N.cut ⟨⟨hB.same s12, rfl⟩, by omega⟩ (sub_keys rfl)
          rintro w12 _ ⟨⟨hB, rfl⟩, hsz⟩
          clear cd11
          obtain ⟨can1, can2⟩ := hB.can x.data.size (by omega)
          obtain ⟨hsame, _⟩ := rpush_same D hB.inv x.sq x.data x.fin
          obtain ⟨R, hR⟩ : ∃ R, R = D.push x.sq x.data x.fin := ⟨_, rfl⟩
          have hpw : ∀ w', DirAt w' p m D.ds → Calls Try.prog 12 #[.pointer (some ⟨p, 0, none⟩), .int .u32 x.sq, .string x.data, .bool x.fin] w' (PushPost p m (R.1.ds, R.2) w') := fun w' hd => by
            have := push_walk p m D.ds x.sq x.data x.fin w' hd can1.h0 can1.h1 can1.hf can1.hf1 can1.hs can1.hb can1.hb1 can1.room
            rw [hsame, ← hR] at this; exact this
          have hrw : ∀ w', RAt w' q vp vb D → Calls Try.prog 17 #[.pointer (some ⟨q, 0, none⟩), .int .u32 x.sq, .string x.data, .bool x.fin] w' (RPushPost q vp vb R w') := fun w' hr => by
            have := rpush_walk q vp vb D x.sq x.data x.fin w' hr hx32 can2
            rw [← hR] at this; exact this
          have hq' := hB.r.lt
          have hp' := hB.d.blk.lt
          have hm' := hB.d.map.lt
          refine W.cutS (fun w' g => (∃ (v2 b2 : Value) (r1 r2 : Nat), Both w w' p m q v2 b2 R.1 (i + 1) ∧ GBlk w' r1 R.2 ∧ RG w' r2 R.2 ∧ g = [(3, .slice (some A) l.length cap), (4, .int .i64 place), (11, .pointer (some ⟨p, 0, none⟩)), (12, .pointer (some ⟨q, 0, none⟩)), (13, .int .i64 i), (14, .pointer (some ⟨r1, 0, none⟩)), (15, .pointer (some ⟨r2, 0, none⟩))])) ?_ ?_
          · obtain ⟨S, hS⟩ : ∃ S : Nat → Prop, S = fun k => k = p ∨ k = m ∨ RB q vp vb k := ⟨_, rfl⟩
            have hSw : ∀ k, k < w.heap.size → ¬ S k := fun k hk e => by
              have := hB.fd
              rw [hS] at e
              rcases e with e | e | e
              · omega
              · omega
              · have := hB.fr k e; omega
            refine W.held mixed (fun w' => Mv S w12 w') [] 38 rfl (fun w' s => (Mv.refl _ w12).same s) ?_
            intro w13 s13
            have hcell : ∀ n v w', w.cell? ((A.add ((i : Int).toNat * 3)).add n) = some v → Mv S w12 w' → Cl w' ((A.add ((i : Int).toNat * 3)).add n) v := fun n v w' hc m' =>
              ⟨m'.cell (hB.mv.cell hc (fun e => e)) (by rw [add_block, add_block]; exact hSw _ hAb)⟩
            have F1 : ∀ w', Mv S w12 w' → Cl w' ((A.add ((i : Int).toNat * 3)).add 0) (.int .u32 x.sq) := fun w' m' => hcell 0 _ w' cs m'
            have F2 : ∀ w', Mv S w12 w' → Cl w' ((A.add ((i : Int).toNat * 3)).add 1) (.string x.data) := fun w' m' => hcell 1 _ w' cd m'
            have F3 : ∀ w', Mv S w12 w' → Cl w' ((A.add ((i : Int).toNat * 3)).add 2) (.bool x.fin) := fun w' m' => hcell 2 _ w' cf m'
            apply H.takesK LO true [3, 4, 11, 12, 13, 44, 49, 54, 59, 61, 66, 71, 76] [0, 1, 2, 3, 4, 5, 6, 7, 8, 9, 10, 11, 12, 13, 14, 15, 17, 18, 19, 20, 21, 22, 23, 24, 25, 26, 27, 28, 29, 30, 31, 32] (k := 6) rfl (by kernel_rfl)
            · repeat' (first | rfl | with_reducible assumption | assumption | (intro w' hw'; replace hw' := hw' rfl; have h0' := F1 w' hw'; have h1' := F2 w' hw'; have h2' := F3 w' hw') | constructor)
            intro g_ hg_
            replace hg_ : g_ = [(3, _), (4, _), (11, _), (12, _), (13, _), (44, _), (49, _), (54, _), (59, _), (61, _), (66, _), (71, _), (76, _)] := hg_
            subst hg_
            obtain ⟨z, hz⟩ : ∃ z, z = w12.heap.size := ⟨_, rfl⟩
            have z13 : w13.heap.size = z := by rw [hz, s13.heap]
            obtain ⟨E, hE⟩ : ∃ E : List Eff, E = [⟨16, 60, fun v w' => v = gotVal R.2 ∧ DirAt w' p m R.1.ds, fun w' => DirAt w' p m D.ds⟩,
              ⟨33, 77, fun v w' => v = gotVal R.2 ∧ ∃ v2 b2, RAt w' q v2 b2 R.1 ∧ ∀ k, RB q v2 b2 k → RB q vp vb k ∨ z ≤ k, fun w' => RAt w' q vp vb D⟩,
              ⟨34, 14, fun v w' => ∃ r, v = .pointer (some ⟨r, 0, none⟩) ∧ z ≤ r ∧ w'.heap[r]? = some (.cells [.int .i64 0, .int .i64 0, .string ⟨#[]⟩, .bool false].toArray 28 (0, 0)), fun _ => True⟩,
              ⟨35, 15, fun v w' => ∃ r, v = .pointer (some ⟨r, 0, none⟩) ∧ z ≤ r ∧ w'.heap[r]? = some (.cells [.int .i64 0, .int .i64 0, .string ⟨#[]⟩, .bool false].toArray 40 (0, 0)), fun _ => True⟩] := ⟨_, rfl⟩
            have hsep := hB.sep
            have hstab : ∀ (S' : Nat → Prop) (j : Nat) (w' w'' : World), Mv S' w' w'' → (∀ k, S' k → k < z) → (j ≠ 16 → ∀ k, S' k → k ≠ p ∧ k ≠ m) → (j ≠ 33 → ∀ k, S' k → ¬ RB q vp vb k) → ∀ e' ∈ E, e'.i ≠ j → (e'.A w' → e'.A w'') ∧ ∀ u, e'.G u w' → e'.G u w'' := by
              intro S' j w' w'' m' h1 h2 h3 e' he' hne
              rw [hE] at he'
              simp only [List.mem_cons, List.not_mem_nil, or_false] at he'
              rcases he' with rfl | rfl | rfl | rfl
              · have h2' := h2 (Ne.symm hne)
                exact ⟨fun h => h.moved m' (fun e => (h2' _ e).1 rfl) (fun e => (h2' _ e).2 rfl), fun u h => ⟨h.1, h.2.moved m' (fun e => (h2' _ e).1 rfl) (fun e => (h2' _ e).2 rfl)⟩⟩
              · have h3' := h3 (Ne.symm hne)
                refine ⟨fun h => h.moved m' fun k hk hS => h3' k hS hk, fun u h => ⟨h.1, ?_⟩⟩
                obtain ⟨v2, b2, hr2, ho2⟩ := h.2
                exact ⟨v2, b2, hr2.moved m' fun k hk hS => by
                  rcases ho2 k hk with e | e
                  · exact h3' k hS e
                  · have := h1 k hS; omega, ho2⟩
              · refine ⟨fun h => h, fun u h => ?_⟩
                obtain ⟨r, hr, hzr, hb⟩ := h
                exact ⟨r, hr, hzr, (m'.block r (Array.getElem?_eq_some_iff.1 hb).1 (fun e => by have := h1 r e; omega)).trans hb⟩
              · refine ⟨fun h => h, fun u h => ?_⟩
                obtain ⟨r, hr, hzr, hb⟩ := h
                exact ⟨r, hr, hzr, (m'.block r (Array.getElem?_eq_some_iff.1 hb).1 (fun e => by have := h1 r e; omega)).trans hb⟩
            have hE4 : E.length = 4 := by rw [hE]; rfl
            refine H.join E _ (fun w' => Mv S w12 w') #[true, true, true, true, true, true, true, true, true, true, true, true, true, true, true, true, true, true, true, true, true, true, true, true, true, true, true, true, true, true, true, true, true, true, true, true, false, false] (k := 2) (by rw [hE]; rfl) (by rw [hE]; kernel_rfl) ?_ (by rw [hE]; show [16, 33, 34, 35].Nodup; decide) (by rw [hE]; show [60, 77, 14, 15].Nodup; decide) (Sub.rfl' _) ((Mv.refl _ w12).same s13) ?_ (fun w' m' => m') ?_ ?_
            · rw [hE]
              intro e he
              simp only [List.mem_cons, List.not_mem_nil, or_false] at he
              rcases he with rfl | rfl | rfl | rfl <;> exact ⟨by kernel_rfl, by kernel_rfl, by rfl⟩
            · rw [hE]
              intro e he
              simp only [List.mem_cons, List.not_mem_nil, or_false] at he
              rcases he with rfl | rfl | rfl | rfl
              · exact hB.d.same s13
              · exact hB.r.same s13
              · trivial
              · trivial
            · intro e he o f w' ho hsub m' hA hpre
              have mz : z ≤ w'.heap.size := by rw [hz]; exact m'.size
              have he2 := he
              rw [hE] at he2
              simp only [List.mem_cons, List.not_mem_nil, or_false] at he2
              rcases he2 with rfl | rfl | rfl | rfl
              · obtain rfl := Option.some.inj ho
                refine Ls.call LO rfl rfl rfl rfl rfl (vs := [.pointer (some ⟨p, 0, none⟩), .int .u32 x.sq, .string x.data, .bool x.fin]) (hsub.fevals rfl) (hpw w' hA) ?_
                rintro _ w'' ⟨rfl, hd2, hm2⟩
                refine ⟨_, rfl, Ls.nil (N.eff (E := E) (e := ⟨16, 60, fun v w' => v = gotVal R.2 ∧ DirAt w' p m R.1.ds, fun w' => DirAt w' p m D.ds⟩) (m'.cut hm2 fun k _ e => by rw [hS]; rcases e with e | e; exact .inl e; exact .inr (.inl e)) ⟨rfl, hd2⟩ (hstab (fun k => k = p ∨ k = m) 16 _ _ hm2 (fun k e => by rcases e with e | e <;> omega) (fun h => absurd rfl h) (fun _ k e hk => by have := hsep k hk; rcases e with e | e; exact this.1 e; exact this.2 e)))⟩
              · obtain rfl := Option.some.inj ho
                refine Ls.call LO rfl rfl rfl rfl rfl (vs := [.pointer (some ⟨q, 0, none⟩), .int .u32 x.sq, .string x.data, .bool x.fin]) (hsub.fevals rfl) (hrw w' hA) ?_
                rintro _ w'' ⟨rfl, v2, b2, hr2, hm2, ho2⟩
                refine ⟨_, rfl, Ls.nil (N.eff (E := E) (e := ⟨33, 77, fun v w' => v = gotVal R.2 ∧ ∃ v2 b2, RAt w' q v2 b2 R.1 ∧ ∀ k, RB q v2 b2 k → RB q vp vb k ∨ z ≤ k, fun w' => RAt w' q vp vb D⟩) (m'.cut hm2 fun k _ e => by rw [hS]; exact .inr (.inr e)) ⟨rfl, v2, b2, hr2, fun k hk => ?_⟩ (hstab (RB q vp vb) 33 _ _ hm2 (fun k e => by rw [hz]; exact hq' k e) (fun _ k e => hsep k e) (fun h => absurd rfl h)))⟩
                rcases ho2 k hk with e | e
                · exact .inl e
                · right; omega
              · obtain rfl := Option.some.inj ho
                refine Ls.alloc LO rfl rfl rfl rfl rfl (Ls.nil (N.eff (E := E) (e := ⟨34, 14, fun v w' => ∃ r, v = .pointer (some ⟨r, 0, none⟩) ∧ z ≤ r ∧ w'.heap[r]? = some (.cells [.int .i64 0, .int .i64 0, .string ⟨#[]⟩, .bool false].toArray 28 (0, 0)), fun _ => True⟩) (m'.alloc _) ⟨_, rfl, mz, heap_alloc_new w' _⟩ (hstab (fun _ => False) 34 _ _ ((Mv.refl _ w').alloc _) (fun k e => e.elim) (fun _ k e => e.elim) (fun _ k e => e.elim))))
              · obtain rfl := Option.some.inj ho
                refine Ls.alloc LO rfl rfl rfl rfl rfl (Ls.nil (N.eff (E := E) (e := ⟨35, 15, fun v w' => ∃ r, v = .pointer (some ⟨r, 0, none⟩) ∧ z ≤ r ∧ w'.heap[r]? = some (.cells [.int .i64 0, .int .i64 0, .string ⟨#[]⟩, .bool false].toArray 40 (0, 0)), fun _ => True⟩) (m'.alloc _) ⟨_, rfl, mz, heap_alloc_new w' _⟩ (hstab (fun _ => False) 35 _ _ ((Mv.refl _ w').alloc _) (fun k e => e.elim) (fun _ k e => e.elim) (fun _ k e => e.elim))))
            · intro f w14 hsub m14 hall
              obtain ⟨v60, hv60, rfl, hd14⟩ := hall ⟨16, 60, fun v w' => v = gotVal R.2 ∧ DirAt w' p m R.1.ds, fun w' => DirAt w' p m D.ds⟩ (by rw [hE]; simp)
              obtain ⟨v77, hv77, rfl, v2, b2, hr14, ho14⟩ := hall ⟨33, 77, fun v w' => v = gotVal R.2 ∧ ∃ v2 b2, RAt w' q v2 b2 R.1 ∧ ∀ k, RB q v2 b2 k → RB q vp vb k ∨ z ≤ k, fun w' => RAt w' q vp vb D⟩ (by rw [hE]; simp)
              obtain ⟨v14, hv14, r1, rfl, hzr1, hb1⟩ := hall ⟨34, 14, fun v w' => ∃ r, v = .pointer (some ⟨r, 0, none⟩) ∧ z ≤ r ∧ w'.heap[r]? = some (.cells [.int .i64 0, .int .i64 0, .string ⟨#[]⟩, .bool false].toArray 28 (0, 0)), fun _ => True⟩ (by rw [hE]; simp)
              obtain ⟨v15, hv15, r2, rfl, hzr2, hb2⟩ := hall ⟨35, 15, fun v w' => ∃ r, v = .pointer (some ⟨r, 0, none⟩) ∧ z ≤ r ∧ w'.heap[r]? = some (.cells [.int .i64 0, .int .i64 0, .string ⟨#[]⟩, .bool false].toArray 40 (0, 0)), fun _ => True⟩ (by rw [hE]; simp)
              refine H.sub ?_ (Sub.cons (Sub.cons (Sub.cons (Sub.cons hsub hv60) hv77) hv14) hv15)
              clear hall hstab hE hsub
              have hr12 : r1 ≠ r2 := fun e => by
                rw [e, hb2] at hb1
                injection hb1 with e1
                injection e1 with _ e2
                exact absurd e2 (by decide)
              have n1 := hr14.off hb1 (by decide) (by decide) (by decide)
              have n2 := hr14.off hb2 (by decide) (by decide) (by decide)
              refine H.only (i := 36) rfl (by kernel_rfl) ?_
              refine Ls.store LO rfl rfl rfl rfl rfl (v := gotVal R.2) (vs := [.int .i64 R.2.kind, .int .i64 R.2.from_, .string R.2.data, .bool R.2.fin]) rfl rfl rfl hb1 rfl ?_
              intro w15 hb15 m15 _
              have hS15 : Mv S w12 w15 := m14.cut m15 fun k hk e => by omega
              refine Ls.nil (N.goOn (fun _ => hS15) ?_)
              have hb15' := (m15.block r2 (Array.getElem?_eq_some_iff.1 hb2).1 (Ne.symm hr12)).trans hb2
              refine H.only (i := 37) rfl (by kernel_rfl) ?_
              refine Ls.store LO rfl rfl rfl rfl rfl (v := gotVal R.2) (vs := [.int .i64 R.2.kind, .int .i64 R.2.from_, .string R.2.data, .bool R.2.fin]) rfl rfl rfl hb15' rfl ?_
              intro w16 hb16 m16 _
              have hS16 : Mv S w12 w16 := hS15.cut m16 fun k hk e => by omega
              refine Ls.nil (N.goOn (fun _ => hS16) ?_)
              refine H.done (by kernel_rfl) (N.cut ⟨v2, b2, r1, r2, ?_, (m16.block r1 (Array.getElem?_eq_some_iff.1 hb15).1 hr12).trans hb15, hb16, rfl⟩ (sub_keys rfl))
              rw [hR] at hd14 hr14 ⊢
              have hd16 := (hd14.moved m15 (by omega) (by omega)).moved m16 (by omega) (by omega)
              have hr16 := (hr14.moved m15 fun k hk e => n1 k hk e).moved m16 fun k hk e => n2 k hk e
              rw [hS] at hS16
              exact hB.step (by omega) x.sq x.data x.fin hd16 hr16 hS16 (fun k hk => by rw [← hz]; exact ho14 k hk)
          rintro w16 _ ⟨v2, b2, r1, r2, hB16, hg1, hg2, rfl⟩
          obtain ⟨g0, g1, g2, g3⟩ := hg1.cells
          have g0 := Cl.mk g0
          have g1 := Cl.mk g1
          have g2 := Cl.mk g2
          have g3 := Cl.mk g3
          have e0 : Cl w16 ⟨r2, 0, none⟩ (.int .i64 R.2.kind) := ⟨by unfold World.cell?; rw [show w16.heap[r2]? = _ from hg2]; rfl⟩
          have e1 : Cl w16 ⟨r2, 1, none⟩ (.int .i64 R.2.from_) := ⟨by unfold World.cell?; rw [show w16.heap[r2]? = _ from hg2]; rfl⟩
          have e2 : Cl w16 ⟨r2, 2, none⟩ (.string R.2.data) := ⟨by unfold World.cell?; rw [show w16.heap[r2]? = _ from hg2]; rfl⟩
          have e3 : Cl w16 ⟨r2, 3, none⟩ (.bool R.2.fin) := ⟨by unfold World.cell?; rw [show w16.heap[r2]? = _ from hg2]; rfl⟩
          have k1 : Kn (R.2.kind != R.2.kind) false := .of (by simp)
          have k2 : Kn (R.2.from_ != R.2.from_) false := .of (by simp)
          have k3 : Kn (R.2.data.toList == R.2.data.toList) true := .of (beq_self_eq_true _)
          have k4 : Kn (R.2.fin == R.2.fin) true := .of (beq_self_eq_true _)
          have qs := quiet_of (w := w16) fun w' s' => same_says p m q v2 b2 R.1 w' (hB16.d.same s') (hB16.r.same s') hB16.inv
          apply W.readS LO mixed [3, 4, 11, 12, 13, 109] (by kernel_rfl)
          · repeat' (first | rfl | with_reducible assumption | assumption | constructor)
          intro w17 f17 s17 hf17
          replace hf17 : f17 = [(3, _), (4, _), (11, _), (12, _), (13, _), (109, _)] := hf17
          subst hf17
          refine W.cond (b := false) rfl (fun h => by cases h) (fun _ => W.skip ?_)
          exact N.inb (N.cut ⟨⟨v2, b2, R.1, hB16.same s17⟩, rfl⟩ (sub_keys rfl))
        · rintro w17 _ ⟨⟨v2, b2, D', hB'⟩, rfl⟩
          have k5 : Kn (IntKind.i64.wrap ((i : Int) + 1)) ((i + 1 : Nat) : Int) := .of (IntWalk.i64_in _ (by omega))
          apply W.readN LO mixed [3, 4, 11, 12, 13] (by kernel_rfl)
          · repeat' (first | rfl | with_reducible assumption | assumption | constructor)
          intro w18 f18 s18 hf18
          replace hf18 : f18 = [(3, _), (4, _), (11, _), (12, _), (13, _)] := hf18
          subst hf18
          exact N.round (k - 1) _ (by omega) ⟨i + 1, v2, b2, D', by omega, by omega, hB'.same s18, rfl⟩ (sub_keys rfl)
      · rw [decide_eq_false h40] at k40
        refine W.seq ?_
        apply W.readS LO mixed [4, 11, 12, 33] (by kernel_rfl)
        · repeat' (first | rfl | with_reducible assumption | assumption | constructor)
        intro w11 f11 s11 hf11
        replace hf11 : f11 = [(4, _), (11, _), (12, _), (33, _)] := hf11
        subst hf11
        refine W.cond (b := false) rfl (fun h => by cases h) (fun _ => W.exit ?_)
        exact N.thenE (N.thenE (N.out (N.cut ⟨⟨vp, vb, D, i, hB.same s11⟩, rfl⟩ (sub_keys rfl))))
    · have k1 : Kn (decide ((i : Int) < (l.length : Int))) false := .no (by omega)
      refine W.seq ?_
      apply W.readS LO mixed [4, 11, 12, 33] (by kernel_rfl)
      · repeat' (first | rfl | with_reducible assumption | assumption | constructor)
      intro w11 f11 s11 hf11
      replace hf11 : f11 = [(4, _), (11, _), (12, _), (33, _)] := hf11
      subst hf11
      refine W.cond (b := false) rfl (fun h => by cases h) (fun _ => W.exit ?_)
      exact N.thenE (N.thenE (N.out (N.cut ⟨⟨vp, vb, D, i, hB.same s11⟩, rfl⟩ (sub_keys rfl))))
  rintro w17 _ ⟨⟨vp, vb, D, i, hB⟩, rfl⟩
  have q1 : ∀ w', Same w17 w' → Calls Try.prog 19 #[.pointer (some ⟨p, 0, none⟩), .int .i64 place] w' fun e w'' => e = .returned (.int .u32 ((D.begin_ + place % 4294967296) % 4294967296)) ∧ Same w17 w'' := quiet_of (w := w17) fun w' s' => seq_says p m D.ds place w' (hB.d.same s')
  have q2 := quiet_of (w := w17) fun w' s' => rseq_says q vp vb D place w' (hB.r.same s') hB.bg hpl
  have k1 : Kn ((D.begin_ + place % 4294967296) % 4294967296 == (D.begin_ + place % 4294967296) % 4294967296) true := .of (beq_self_eq_true _)
  refine W.seq (W.list ?_)
  apply Ls.runK LO [117] 8
  · repeat' (first | rfl | with_reducible assumption | assumption | constructor)
  intro w18 f18 s18 hf18
  replace hf18 : f18 = [(117, _)] := hf18
  subst hf18
  refine Ls.call LO rfl rfl rfl rfl rfl (vs := []) rfl (awake_walk w18) ?_
  rintro _ w19 ⟨rfl, hm19⟩
  refine ⟨_, rfl, ?_⟩
  apply Ls.runK LO [10] 2
  · repeat' (first | rfl | with_reducible assumption | assumption | constructor)
  intro w20 f20 s20 hf20
  replace hf20 : f20 = [(10, _)] := hf20
  subst hf20
  refine Ls.nil (N.to (W.ret (post LO (rs := [.tmp 10]) rfl (vs := [.bool true]) (.tmp rfl .nil) ⟨rfl, ((hB.mv.same s18).trans hm19).same s20⟩)))
theorem plays_law (start b h : Int) (a : Option Addr) (cap : Nat) (l : List OpV) (place : Int) (w : World) (h0 : (Lit.int .u32 start).wf = true) (_ : (Lit.int .i64 b).wf = true) (_ : (Lit.int .i64 h).wf = true) (hrow : OpRow w a l) (hl : ∀ x ∈ l, (Lit.int .u32 x.sq).wf = true) (h4 : (Lit.int .i64 place).wf = true) :
    Calls Try.prog 6 #[.int .u32 start, .int .i64 b, .int .i64 h, .slice a l.length cap, .int .i64 place] w (Yes w) :=
  plays_walk start b h a cap l place w (by have := bounds_u32 h0; omega) (by have := bounds_i64 h4; omega) hrow fun x hx => by have := bounds_u32 (hl x hx); omega
end Go.Proofs.Ytieolnekccacbaa
