/- What is proved: a table of types, checked, is right. Conditions: the check. -/
import Derived.Test.YtbidgeaigiijpaaFw
import Derived.Test.YtbidgeaigiijpaaProg
namespace Go.Proofs.Ytbidgeaigiijpaa.Fw
set_option linter.unusedVariables false
set_option linter.unusedSimpArgs false
set_option linter.unusedSectionVars false
def valB : Value → Value → Bool
  | .bool a, .bool b => a == b
  | .int k a, .int q b => decide (k = q) && a == b
  | .string a, .string b => a.data.toList == b.data.toList
  | .pointer none, .pointer none => true
  | .slice none a b, .slice none c d => a == c && b == d
  | .map none, .map none => true
  | .nilIface, .nilIface => true
  | .nilFunc, .nilFunc => true
  | .chan none, .chan none => true
  | _, _ => false
theorem valB_eq {a b : Value} (h : valB a b = true) : a = b := by
  unfold valB at h
  split at h <;> simp_all
  rename_i x y
  cases x; cases y
  simp_all
def valsB : List Value → List Value → Bool
  | [], [] => true
  | a :: r, b :: q => valB a b && valsB r q
  | _, _ => false
theorem valsB_eq : ∀ {a b : List Value}, valsB a b = true → a = b
  | [], [], _ => rfl
  | a :: r, b :: q, h => by
    simp only [valsB, Bool.and_eq_true] at h
    rw [valB_eq h.1, valsB_eq h.2]
  | [], b :: q, h => by cases h
  | a :: r, [], h => by cases h
def layB (P : Program) (L : Lay) : Bool :=
  L.st.all (fun p => decide (fieldsT P p.1 = some (p.2.map fun q => (q.1, some q.2)))) &&
  L.one.all (fun t => plainT P t && decide (sizeT P t = some 1)) &&
  L.agg.all (fun p => aggT P p.1 && decide (sizeT P p.1 = some p.2) && decide (0 < p.2)) &&
  L.sl.all (fun p => (match P.underlying p.1 with | some (.slice e) => Nat.beq e p.2.1 | _ => false) && decide (sizeT P p.2.1 = some p.2.2)) &&
  L.ar.all (fun p => (match P.underlying p.1 with | some (.array n e) => Nat.beq n p.2.1 && Nat.beq e p.2.2.1 | _ => false) && decide (sizeT P p.2.2.1 = some p.2.2.2)) &&
  L.ik.all (fun p => match P.underlying p.1 with | some (.int k) => decide (k = p.2) | _ => false) &&
  L.str.all (fun t => match P.underlying t with | some .string => true | _ => false) &&
  L.ptr.all (fun t => match P.underlying t with | some (.pointer _) => true | _ => false) &&
  L.boo.all (fun t => match P.underlying t with | some .bool => true | _ => false) &&
  L.fn.all (fun g => callB P g) &&
  L.zero.all (fun p => match zeroT P p.1 with | some z => valsB z.cells.toList p.2 | none => false)
theorem layOk {P : Program} {L : Lay} (h : layB P L = true) : LayOk P L := by
  unfold layB at h
  simp only [Bool.and_eq_true, List.all_eq_true] at h
  obtain ⟨⟨⟨⟨⟨⟨⟨⟨⟨⟨h1, h2⟩, h3⟩, h4⟩, hr⟩, h5⟩, h6⟩, ha⟩, hb⟩, h7⟩, h8⟩ := h
  refine ⟨?_, ?_, ?_, ?_, ?_, ?_, ?_, ?_, ?_, ?_, ?_⟩
  · intro t fs hm; exact of_decide_eq_true (h1 (t, fs) hm)
  · intro t hm; have := h2 t hm; exact ⟨this.1, of_decide_eq_true this.2⟩
  · intro t k hm; have := h3 (t, k) hm; exact ⟨this.1.1, of_decide_eq_true this.1.2, of_decide_eq_true this.2⟩
  · intro t e k hm
    have := h4 (t, e, k) hm
    refine ⟨?_, of_decide_eq_true this.2⟩
    have h := this.1
    split at h
    · rename_i e' he; rw [he, Nat.eq_of_beq_eq_true h]
    · cases h
  · intro t n e k hm
    have := hr (t, n, e, k) hm
    refine ⟨?_, of_decide_eq_true this.2⟩
    have h := this.1
    split at h
    · rename_i n' e' he
      simp only [Bool.and_eq_true] at h
      rw [he, Nat.eq_of_beq_eq_true h.1, Nat.eq_of_beq_eq_true h.2]
    · cases h
  · intro t k hm
    have h := h5 (t, k) hm
    split at h
    · rename_i k' he; rw [he, of_decide_eq_true h]
    · cases h
  · intro t hm
    have h := h6 t hm
    split at h
    · assumption
    · cases h
  · intro t hm
    have h := ha t hm
    split at h
    · rename_i e he; exact ⟨e, he⟩
    · cases h
  · intro t hm
    have h := hb t hm
    split at h
    · assumption
    · cases h
  · intro g hm; exact h7 g hm
  · intro t zs hm
    have h := h8 (t, zs) hm
    split at h
    · rename_i z hz
      refine ⟨z, hz, ?_⟩
      have e : z.cells.toList = zs := valsB_eq h
      rw [← e]
    · cases h
/-- The table. -/
def Lt : Lay := { st := [(7, [(0, 0), (1, 0), (2, 0), (3, 0)]), (13, [(0, 0), (1, 0)]), (18, [(0, 0)]), (25, [(0, 0), (1, 0), (2, 0), (3, 0), (4, 0), (5, 0), (6, 0)]), (26, [(0, 0), (1, 0), (2, 0), (3, 0), (4, 0), (5, 0), (6, 0)]), (27, [(0, 0), (1, 0), (2, 0), (3, 0), (4, 0), (5, 0), (6, 0), (7, 0), (8, 0), (9, 0)]), (28, [(0, 0), (1, 0), (2, 0), (3, 0), (4, 0), (5, 0), (6, 0), (7, 0), (8, 0), (9, 0)]), (32, [(0, 7), (6, 7), (12, 0)]), (33, [(0, 7), (6, 7), (12, 0)]), (55, [(0, 0), (1, 0), (2, 0), (3, 0), (4, 0)]), (56, [(0, 0), (1, 0), (2, 0), (3, 0), (4, 0)]), (64, [(0, 14), (13, 11)]), (65, [(0, 14), (13, 11)]), (70, [(0, 0), (1, 0)]), (71, [(0, 0), (1, 0)]), (72, [(0, 8), (7, 0), (8, 0)]), (73, [(0, 8), (7, 0), (8, 0)]), (93, [(0, 0), (1, 0), (2, 0), (3, 0)]), (96, [(0, 1)]), (104, [(0, 0), (1, 0), (2, 0), (3, 0), (4, 0), (5, 0), (6, 0), (7, 0), (8, 0), (9, 0), (10, 0)])], one := [1, 2, 3, 4, 5, 9, 12, 15, 16, 17, 20, 21, 22, 23, 24, 29, 30, 34, 35, 37, 39, 41, 42, 43, 44, 45, 47, 48, 49, 50, 51, 52, 53, 54, 58, 60, 61, 62, 63, 66, 67, 68, 69, 74, 75, 76, 77, 78, 79, 80, 81, 82, 83, 84, 85, 86, 87, 88, 89, 90, 91, 92, 100, 101], agg := [(7, 4), (13, 2), (18, 1), (25, 7), (26, 7), (27, 10), (28, 10), (31, 6), (32, 13), (33, 13), (55, 5), (56, 5), (64, 23), (65, 23), (70, 2), (71, 2), (72, 9), (73, 9), (93, 4), (104, 11)], sl := [(24, 5, 1), (67, 71, 2), (89, 9, 1), (91, 3, 1)], ar := [(31, 6, 5, 1), (95, 0, 16, 1)], ik := [(2, .i64), (3, .i64), (5, .u8), (12, .u64), (21, .i32), (22, .u32), (35, .i64), (75, .u64)], str := [9], ptr := [15, 16, 17, 101], boo := [4], fn := [3, 4, 5, 6, 7, 8, 9, 10, 11, 12, 13, 14, 15, 16, 17, 18, 19, 20, 21, 22, 23, 24, 25, 26, 27, 28, 29, 30, 31, 32, 33, 34, 35, 36, 37, 38, 39, 40, 41, 42, 43, 44, 45, 46, 47, 48, 49, 50, 51, 52, 53, 54, 55, 56, 57, 58, 59, 60, 61, 62, 63, 64, 65, 66, 67, 68, 69, 70, 71], zero := [(1, [.nilFunc]), (2, [.int .i64 0]), (3, [.int .i64 0]), (4, [.bool false]), (5, [.int .u8 0]), (7, [.int .i64 0, .int .i64 0, .bool false, .int .u8 0]), (9, [.string ⟨#[]⟩]), (12, [.int .u64 0]), (13, [.string ⟨#[]⟩, .int .u64 0]), (15, [.pointer none]), (16, [.pointer none]), (17, [.pointer none]), (18, [.pointer none]), (20, [.nilIface]), (21, [.int .i32 0]), (22, [.int .u32 0]), (23, [.nilFunc]), (24, [.slice none 0 0]), (25, [.int .i64 0, .int .i64 0, .int .u32 0, .int .u32 0, .int .i64 0, .int .i64 0, .string ⟨#[]⟩]), (26, [.int .i64 0, .int .i64 0, .int .u32 0, .int .u32 0, .int .i64 0, .int .i64 0, .string ⟨#[]⟩]), (27, [.int .i64 0, .int .i64 0, .bool false, .bool false, .int .i64 0, .int .i64 0, .int .i64 0, .int .u32 0, .int .u32 0, .string ⟨#[]⟩]), (28, [.int .i64 0, .int .i64 0, .bool false, .bool false, .int .i64 0, .int .i64 0, .int .i64 0, .int .u32 0, .int .u32 0, .string ⟨#[]⟩]), (29, [.nilFunc]), (30, [.nilFunc]), (31, [.int .u8 0, .int .u8 0, .int .u8 0, .int .u8 0, .int .u8 0, .int .u8 0]), (32, [.int .u8 0, .int .u8 0, .int .u8 0, .int .u8 0, .int .u8 0, .int .u8 0, .int .u8 0, .int .u8 0, .int .u8 0, .int .u8 0, .int .u8 0, .int .u8 0, .int .i64 0]), (33, [.int .u8 0, .int .u8 0, .int .u8 0, .int .u8 0, .int .u8 0, .int .u8 0, .int .u8 0, .int .u8 0, .int .u8 0, .int .u8 0, .int .u8 0, .int .u8 0, .int .i64 0]), (34, [.nilFunc]), (35, [.int .i64 0]), (37, [.nilFunc]), (39, [.nilFunc]), (41, [.nilFunc]), (42, [.nilFunc]), (43, [.nilFunc]), (44, [.nilFunc]), (45, [.nilFunc]), (47, [.nilFunc]), (48, [.nilFunc]), (49, [.nilFunc]), (50, [.nilFunc]), (51, [.nilFunc]), (52, [.nilFunc]), (53, [.nilFunc]), (54, [.nilFunc]), (55, [.int .i64 0, .int .i64 0, .int .i64 0, .int .i64 0, .int .u32 0]), (56, [.int .i64 0, .int .i64 0, .int .i64 0, .int .i64 0, .int .u32 0]), (58, [.nilFunc]), (60, [.nilFunc]), (61, [.nilFunc]), (62, [.nilFunc]), (63, [.nilFunc]), (64, [.int .u8 0, .int .u8 0, .int .u8 0, .int .u8 0, .int .u8 0, .int .u8 0, .int .u8 0, .int .u8 0, .int .u8 0, .int .u8 0, .int .u8 0, .int .u8 0, .int .i64 0, .int .i64 0, .int .i64 0, .bool false, .bool false, .int .i64 0, .int .i64 0, .int .i64 0, .int .u32 0, .int .u32 0, .string ⟨#[]⟩]), (65, [.int .u8 0, .int .u8 0, .int .u8 0, .int .u8 0, .int .u8 0, .int .u8 0, .int .u8 0, .int .u8 0, .int .u8 0, .int .u8 0, .int .u8 0, .int .u8 0, .int .i64 0, .int .i64 0, .int .i64 0, .bool false, .bool false, .int .i64 0, .int .i64 0, .int .i64 0, .int .u32 0, .int .u32 0, .string ⟨#[]⟩]), (66, [.nilFunc]), (67, [.slice none 0 0]), (68, [.nilFunc]), (69, [.nilFunc]), (70, [.nilFunc, .int .i64 0]), (71, [.nilFunc, .int .i64 0]), (72, [.int .i64 0, .int .i64 0, .int .u32 0, .int .u32 0, .int .i64 0, .int .i64 0, .string ⟨#[]⟩, .int .u32 0, .int .u32 0]), (73, [.int .i64 0, .int .i64 0, .int .u32 0, .int .u32 0, .int .i64 0, .int .i64 0, .string ⟨#[]⟩, .int .u32 0, .int .u32 0]), (74, [.nilFunc]), (75, [.int .u64 0]), (76, [.nilFunc]), (77, [.nilFunc]), (78, [.nilFunc]), (79, [.nilFunc]), (80, [.nilFunc]), (81, [.nilFunc]), (82, [.nilFunc]), (83, [.nilFunc]), (84, [.nilFunc]), (85, [.nilFunc]), (86, [.nilFunc]), (87, [.nilFunc]), (88, [.nilFunc]), (89, [.slice none 0 0]), (90, [.nilFunc]), (91, [.slice none 0 0]), (92, [.nilFunc]), (93, [.pointer none, .pointer none, .pointer none, .string ⟨#[]⟩]), (95, []), (96, []), (100, [.nilFunc]), (101, [.pointer none]), (104, [.int .u64 0, .int .u64 0, .int .u32 0, .int .u8 0, .int .u8 0, .int .u8 0, .int .u8 0, .nilFunc, .pointer none, .int .i32 0, .int .i32 0])] }
theorem LO : LayOk Try.prog Lt := layOk (by kernel_rfl)
theorem mixed : Try.prog.follows .mixedOrders = true := by kernel_rfl
end Go.Proofs.Ytbidgeaigiijpaa.Fw
