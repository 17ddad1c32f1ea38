/- What is proved: the plain statement of Ipv4All: for any head, body and bytes the program's Check, Put and Get of datagrams answer as the document's. Conditions: numbers of their kinds, sizes as the row gives them, nothing else. -/
import Derived.Test.YtgolimfljndnmaaQIIpRef
import Derived.Test.YtgolimfljndnmaaQIIpAwake
import Derived.Test.YtgolimfljndnmaaHIx13
namespace Go.Proofs.Ytgolimfljndnmaa.Pure
open Go.RowKit Go.Proofs.Ytgolimfljndnmaa.QI Go.Proofs.Ytgolimfljndnmaa.HI Go.Proofs.YtgolimfljndnmaaW.PrintWords Go.Proofs.YtgolimfljndnmaaW.PrintLast Go.Proofs.YtgolimfljndnmaaW.PrintMore
set_option linter.unusedVariables false
set_option linter.unusedSimpArgs false
theorem Ipv4All (s0 s1 : Int) (s2 s3 : Bool) (s4 s5 s6 s7 s8 : Int) (o body s : ByteArray) (_ : (Lit.int .i64 s0).wf = true) (_ : (Lit.int .i64 s1).wf = true) (_ : (Lit.int .i64 s4).wf = true) (_ : (Lit.int .i64 s5).wf = true) (_ : (Lit.int .i64 s6).wf = true)
    (h7 : (Lit.int .u32 s7).wf = true) (h8 : (Lit.int .u32 s8).wf = true) (ho : o.size ≤ maxLen) (hb : body.size ≤ 140737488351232) (_ : s.size ≤ 140737488351232) : ∃ k, rampartlaw03_Ipv4All.f k s0 s1 s2 s3 s4 s5 s6 s7 s8 o body s = some true := by
  have h7 := bounds_u32 h7
  have h8 := bounds_u32 h8
  obtain ⟨K0, q0⟩ := ipAwake_ev
  have aw : rampartlaw03_Ipv4All.j0 (K0 + 1) body s true s0 s1 s2 s3 s4 s5 s6 s7 s8 o = some true := by
    have e0 : rampartlaw03_awake.f K0 = some true := q0 K0 (by omega)
    simp only [rampartlaw03_Ipv4All.j0, if_true]
    rw [e0, Option.bind_some]
  by_cases b1 : (o.size : Int) > 100
  · exact ⟨K0 + 1, by simp only [rampartlaw03_Ipv4All.f]; rw [if_pos b1, aw]⟩
  by_cases b2 : (body.size : Int) > 2500
  · exact ⟨K0 + 1, by simp only [rampartlaw03_Ipv4All.f]; rw [if_neg b1, if_pos b2, aw]⟩
  by_cases b3 : (s.size : Int) > 2500
  · exact ⟨K0 + 1, by simp only [rampartlaw03_Ipv4All.f]; rw [if_neg b1, if_neg b2, decide_eq_true b3, aw]⟩
  obtain ⟨K1, q1⟩ := iput_ev s0 s1 s2 s3 s4 s5 s6 s7 s8 o body h7 h8
  obtain ⟨K2, q2⟩ := riput_ev s0 s1 s2 s3 s4 s5 s6 s7 s8 o body h7 h8
  obtain ⟨K3, q3⟩ := iget_ev s
  obtain ⟨K4, q4⟩ := riget_ev s
  refine ⟨K0 + K1 + K2 + K3 + K4 + 1, ?_⟩
  generalize hk : K0 + K1 + K2 + K3 + K4 = k
  have e0 : rampartlaw03_awake.f k = some true := q0 k (by omega)
  have e1 : ipv4_Put.f k s0 s1 s2 s3 s4 s5 s6 s7 s8 o body = some (putI s0 s1 s2 s3 s4 s5 s6 s7 s8 o body) := q1 k (by omega)
  have e2 : rampartref03_Put.f k s0 s1 s2 s3 s4 s5 s6 s7 s8 o body = some (putI s0 s1 s2 s3 s4 s5 s6 s7 s8 o body) := q2 k (by omega)
  have e3 : ipv4_Get.f k s = some (getI s) := q3 k (by omega)
  have e4 : rampartref03_Get.f k s = some (getI s) := q4 k (by omega)
  simp only [rampartlaw03_Ipv4All.f]
  rw [if_neg b1, if_neg b2, decide_eq_false b3]
  simp only [rampartlaw03_Ipv4All.j0, Bool.false_eq_true, if_false]
  rw [e1, Option.bind_some, e2, Option.bind_some, e3, Option.bind_some, e4, Option.bind_some, check_some, Option.bind_some, rcheck_some, Option.bind_some, if_pos (by simp), if_pos rfl, if_pos rfl, isame_some, Option.bind_some, if_pos rfl, if_pos rfl, if_pos rfl, e0, Option.bind_some]
end Go.Proofs.Ytgolimfljndnmaa.Pure
