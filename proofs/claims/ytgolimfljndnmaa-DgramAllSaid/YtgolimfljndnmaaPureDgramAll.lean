/- What is proved: the plain statement of DgramAll: for any ends, head, body and bytes the program's Put and Get of UDP and ICMP answer as the document's. Conditions: numbers of their kinds, sizes as the row gives them, nothing else. -/
import Derived.Test.YtgolimfljndnmaaQDDgRef
import Derived.Test.YtgolimfljndnmaaQDDgAwake
import Derived.Test.YtgolimfljndnmaaHDx17
namespace Go.Proofs.Ytgolimfljndnmaa.Pure
open Go.RowKit Go.Proofs.Ytgolimfljndnmaa.QD Go.Proofs.Ytgolimfljndnmaa.HD Go.Proofs.YtgolimfljndnmaaW.PrintWords Go.Proofs.YtgolimfljndnmaaW.PrintLast Go.Proofs.YtgolimfljndnmaaW.PrintMore
set_option linter.unusedVariables false
set_option linter.unusedSimpArgs false
theorem DgramAll (src dst s0 s1 s2 s3 s4 : Int) (body s : ByteArray) (hs : (Lit.int .u32 src).wf = true) (hd : (Lit.int .u32 dst).wf = true) (_ : (Lit.int .i64 s0).wf = true) (_ : (Lit.int .i64 s1).wf = true) (_ : (Lit.int .i64 s2).wf = true) (_ : (Lit.int .i64 s3).wf = true)
    (h4 : (Lit.int .u32 s4).wf = true) (hb : body.size ≤ 140737488351232) (_ : s.size ≤ 140737488351232) : ∃ k, rampartlaw05_DgramAll.f k src dst s0 s1 s2 s3 s4 body s = some true := by
  have hs := bounds_u32 hs
  have hd := bounds_u32 hd
  have h4 := bounds_u32 h4
  obtain ⟨K0, q0⟩ := dgAwake_ev
  have aw : rampartlaw05_DgramAll.j0 (K0 + 1) src dst body s true s0 s1 s2 s3 s4 = some true := by
    have e0 : rampartlaw05_awake.f K0 = some true := q0 K0 (by omega)
    simp only [rampartlaw05_DgramAll.j0, if_true]
    rw [e0, Option.bind_some]
  by_cases b2 : (body.size : Int) > 2500
  · exact ⟨K0 + 1, by simp only [rampartlaw05_DgramAll.f]; rw [if_pos b2, aw]⟩
  by_cases b3 : (s.size : Int) > 2500
  · exact ⟨K0 + 1, by simp only [rampartlaw05_DgramAll.f]; rw [if_neg b2, decide_eq_true b3, aw]⟩
  obtain ⟨K1, q1⟩ := uput_ev src dst s0 s1 s2 s3 s4 body hs hd hb
  obtain ⟨K2, q2⟩ := ruput_ev src dst s0 s1 s2 s3 s4 body hs hd hb
  obtain ⟨K3, q3⟩ := cput_ev s0 s1 s2 s3 s4 body h4 hb
  obtain ⟨K4, q4⟩ := rcput_ev s0 s1 s2 s3 s4 body h4
  obtain ⟨K5, q5⟩ := uget_ev src dst s hs hd
  obtain ⟨K6, q6⟩ := ruget_ev src dst s hs hd
  obtain ⟨K7, q7⟩ := cget_ev s
  obtain ⟨K8, q8⟩ := rcget_ev s
  refine ⟨K0 + K1 + K2 + K3 + K4 + K5 + K6 + K7 + K8 + 1, ?_⟩
  generalize hk : K0 + K1 + K2 + K3 + K4 + K5 + K6 + K7 + K8 = k
  have e0 : rampartlaw05_awake.f k = some true := q0 k (by omega)
  have e1 : dgram_PutUDP.f k src dst s0 s1 s2 s3 s4 body = some (putU src dst s0 s1 body) := q1 k (by omega)
  have e2 : rampartref05_PutUDP.f k src dst s0 s1 s2 s3 s4 body = some (putU src dst s0 s1 body) := q2 k (by omega)
  have e3 : dgram_PutICMP.f k s0 s1 s2 s3 s4 body = some (putC s2 s3 s4 body) := q3 k (by omega)
  have e4 : rampartref05_PutICMP.f k s0 s1 s2 s3 s4 body = some (putC s2 s3 s4 body) := q4 k (by omega)
  have e5 : dgram_GetUDP.f k src dst s = some (getU src dst s) := q5 k (by omega)
  have e6 : rampartref05_GetUDP.f k src dst s = some (getU src dst s) := q6 k (by omega)
  have e7 : dgram_GetICMP.f k s = some (getC s) := q7 k (by omega)
  have e8 : rampartref05_GetICMP.f k s = some (getC s) := q8 k (by omega)
  simp only [rampartlaw05_DgramAll.f]
  rw [if_neg b2, decide_eq_false b3]
  simp only [rampartlaw05_DgramAll.j0, Bool.false_eq_true, if_false]
  rw [e1, Option.bind_some, e2, Option.bind_some, e3, Option.bind_some, e4, Option.bind_some, e5, Option.bind_some, e6, Option.bind_some, e7, Option.bind_some, e8, Option.bind_some, if_pos rfl, if_pos rfl, if_pos rfl, if_pos rfl, dsame_some, Option.bind_some, if_pos rfl, if_pos rfl, if_pos rfl, dsame_some, Option.bind_some, if_pos rfl, if_pos rfl, if_pos rfl, e0, Option.bind_some]
end Go.Proofs.Ytgolimfljndnmaa.Pure
