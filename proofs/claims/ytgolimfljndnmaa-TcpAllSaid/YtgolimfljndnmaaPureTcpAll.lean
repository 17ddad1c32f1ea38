/- What is proved: the plain statement of TcpAll: for any ends, head, body and bytes the program's Check, Put and Get of segments answer as the document's. Conditions: numbers of their kinds, sizes as the row gives them, nothing else. -/
import Derived.Test.YtgolimfljndnmaaQTTcpRef
import Derived.Test.YtgolimfljndnmaaQTTcpAwake
import Derived.Test.YtgolimfljndnmaaHTx14
namespace Go.Proofs.Ytgolimfljndnmaa.Pure
open Go.RowKit Go.Proofs.Ytgolimfljndnmaa.QT Go.Proofs.Ytgolimfljndnmaa.HT Go.Proofs.YtgolimfljndnmaaW.PrintWords Go.Proofs.YtgolimfljndnmaaW.PrintLast Go.Proofs.YtgolimfljndnmaaW.PrintMore
set_option linter.unusedVariables false
set_option linter.unusedSimpArgs false
theorem TcpAll (src dst s0 s1 s2 s3 s4 s5 : Int) (o body s : ByteArray) (hs : (Lit.int .u32 src).wf = true) (hd : (Lit.int .u32 dst).wf = true) (_ : (Lit.int .i64 s0).wf = true) (_ : (Lit.int .i64 s1).wf = true) (h2 : (Lit.int .u32 s2).wf = true) (h3 : (Lit.int .u32 s3).wf = true)
    (_ : (Lit.int .i64 s4).wf = true) (_ : (Lit.int .i64 s5).wf = true) (ho : o.size ≤ maxLen) (hb : body.size ≤ 140737488351232) (_ : s.size ≤ 140737488351232) : ∃ k, rampartlaw04_TcpAll.f k src dst s0 s1 s2 s3 s4 s5 o body s = some true := by
  have hs := bounds_u32 hs
  have hd := bounds_u32 hd
  have h2 := bounds_u32 h2
  have h3 := bounds_u32 h3
  obtain ⟨K0, q0⟩ := tcpAwake_ev
  have aw : rampartlaw04_TcpAll.j0 (K0 + 1) src dst body s true s0 s1 s2 s3 s4 s5 o = some true := by
    have e0 : rampartlaw04_awake.f K0 = some true := q0 K0 (by omega)
    simp only [rampartlaw04_TcpAll.j0, if_true]
    rw [e0, Option.bind_some]
  by_cases b1 : (o.size : Int) > 100
  · exact ⟨K0 + 1, by simp only [rampartlaw04_TcpAll.f]; rw [if_pos b1, aw]⟩
  by_cases b2 : (body.size : Int) > 2500
  · exact ⟨K0 + 1, by simp only [rampartlaw04_TcpAll.f]; rw [if_neg b1, if_pos b2, aw]⟩
  by_cases b3 : (s.size : Int) > 2500
  · exact ⟨K0 + 1, by simp only [rampartlaw04_TcpAll.f]; rw [if_neg b1, if_neg b2, decide_eq_true b3, aw]⟩
  obtain ⟨K1, q1⟩ := put_ev src dst s0 s1 s2 s3 s4 s5 o body hs hd h2 h3 (by omega) hb
  obtain ⟨K2, q2⟩ := rput_ev src dst s0 s1 s2 s3 s4 s5 o body hs hd h2 h3 hb
  obtain ⟨K3, q3⟩ := get_ev src dst s hs hd
  obtain ⟨K4, q4⟩ := rget_ev src dst s hs hd
  refine ⟨K0 + K1 + K2 + K3 + K4 + 1, ?_⟩
  generalize hk : K0 + K1 + K2 + K3 + K4 = k
  have e0 : rampartlaw04_awake.f k = some true := q0 k (by omega)
  have e1 : tcp_Put.f k src dst s0 s1 s2 s3 s4 s5 o body = some (putT src dst s0 s1 s2 s3 s4 s5 o body) := q1 k (by omega)
  have e2 : rampartref04_Put.f k src dst s0 s1 s2 s3 s4 s5 o body = some (putT src dst s0 s1 s2 s3 s4 s5 o body) := q2 k (by omega)
  have e3 : tcp_Get.f k src dst s = some (getT src dst s) := q3 k (by omega)
  have e4 : rampartref04_Get.f k src dst s = some (getT src dst s) := q4 k (by omega)
  simp only [rampartlaw04_TcpAll.f]
  rw [if_neg b1, if_neg b2, decide_eq_false b3]
  simp only [rampartlaw04_TcpAll.j0, Bool.false_eq_true, if_false]
  rw [e1, Option.bind_some, e2, Option.bind_some, e3, Option.bind_some, e4, Option.bind_some, tcp_check_some, Option.bind_some, ref_check_some, Option.bind_some, if_pos (by simp), if_pos rfl, if_pos rfl, same_some, Option.bind_some, if_pos rfl, if_pos rfl, if_pos rfl, e0, Option.bind_some]
end Go.Proofs.Ytgolimfljndnmaa.Pure
