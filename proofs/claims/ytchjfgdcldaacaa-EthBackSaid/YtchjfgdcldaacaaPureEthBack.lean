/- What is proved: the plain statement of EthBack: what is put is got; what is got is put byte for byte. Conditions: numbers of their kinds, sizes as the row gives them, nothing else. -/
import Derived.Test.YtchjfgdcldaacaaQGEthText
import Derived.Test.YtchjfgdcldaacaaHGx7
namespace Go.Proofs.Ytchjfgdcldaacaa.Pure
open Go.RowKit Go.Proofs.Ytchjfgdcldaacaa.QG Go.Proofs.Ytchjfgdcldaacaa.HG Go.Proofs.YtchjfgdcldaacaaW.PrintWords Go.Proofs.YtchjfgdcldaacaaW.PrintLast Go.Proofs.YtchjfgdcldaacaaW.PrintMore
set_option linter.unusedVariables false
set_option linter.unusedSimpArgs false
theorem empty_list : (⟨#[]⟩ : ByteArray).toList = [] := by rw [toList_data]
theorem back_j2 (s : ByteArray) (hs : s.size ≤ 140737488351232) : Ev (fun k => rampartlaw02_EthBack.j2 k s false) true := by
  have hg := get_some s
  by_cases h1 : s.size < 14
  · have e : getE s = errE 2 := by unfold getE; rw [if_pos h1]
    refine ⟨1, fun k hk => ?_⟩
    obtain ⟨k, rfl⟩ : ∃ n, k = n + 1 := ⟨k - 1, by omega⟩
    simp only [rampartlaw02_EthBack.j2, Bool.false_eq_true, if_false]
    rw [hg, e, Option.bind_some, if_neg (show ¬ (errE 2).2.2.2.2.2.2.2.2.2.2.2.2.2.2 = 0 by decide), if_pos (show (errE 2).2.2.2.2.2.2.2.2.2.2.2.2.2.1.toList = ([] : List UInt8) from empty_list), if_pos (show (errE 2).2.2.2.2.2.2.2.2.2.2.2.2.1 = 0 from rfl), awake_some, Option.bind_some]
  by_cases h2 : s.size > 3000
  · have e : getE s = errE 5 := by unfold getE; rw [if_neg h1, if_pos h2]
    refine ⟨1, fun k hk => ?_⟩
    obtain ⟨k, rfl⟩ : ∃ n, k = n + 1 := ⟨k - 1, by omega⟩
    simp only [rampartlaw02_EthBack.j2, Bool.false_eq_true, if_false]
    rw [hg, e, Option.bind_some, if_neg (show ¬ (errE 5).2.2.2.2.2.2.2.2.2.2.2.2.2.2 = 0 by decide), if_pos (show (errE 5).2.2.2.2.2.2.2.2.2.2.2.2.2.1.toList = ([] : List UInt8) from empty_list), if_pos (show (errE 5).2.2.2.2.2.2.2.2.2.2.2.2.1 = 0 from rfl), awake_some, Option.bind_some]
  have e : getE s = okE s := by unfold getE; rw [if_neg h1, if_neg h2]
  obtain ⟨K, q⟩ := put_ev (bt s 0) (bt s 1) (bt s 2) (bt s 3) (bt s 4) (bt s 5) (bt s 6) (bt s 7) (bt s 8) (bt s 9) (bt s 10) (bt s 11) (numOf (s.extract 12 14)) (s.extract 14 s.size) (ok_bts s 0 1 2 3 4 5) (ok_bts s 6 7 8 9 10 11) (by rw [ByteArray.size_extract]; omega)
  rw [put_got s (by omega)] at q
  refine ⟨K + 1, fun k hk => ?_⟩
  obtain ⟨k, rfl⟩ : ∃ n, k = n + 1 := ⟨k - 1, by omega⟩
  have p : eth_Put.f k (okE s).1 (okE s).2.1 (okE s).2.2.1 (okE s).2.2.2.1 (okE s).2.2.2.2.1 (okE s).2.2.2.2.2.1 (okE s).2.2.2.2.2.2.1 (okE s).2.2.2.2.2.2.2.1 (okE s).2.2.2.2.2.2.2.2.1 (okE s).2.2.2.2.2.2.2.2.2.1 (okE s).2.2.2.2.2.2.2.2.2.2.1 (okE s).2.2.2.2.2.2.2.2.2.2.2.1 (okE s).2.2.2.2.2.2.2.2.2.2.2.2.1 (okE s).2.2.2.2.2.2.2.2.2.2.2.2.2.1 = some s := q k (by omega)
  have z : (okE s).2.2.2.2.2.2.2.2.2.2.2.2.2.2 = 0 := rfl
  generalize okE s = g at e p z
  simp only [rampartlaw02_EthBack.j2, Bool.false_eq_true, if_false]
  rw [hg, e, Option.bind_some, if_pos z, p, Option.bind_some, if_pos rfl, awake_some, Option.bind_some]
theorem back_j1 (x0 x1 x2 x3 x4 x5 x6 x7 x8 x9 x10 x11 n : Int) (body s : ByteArray) (o0 : okSix x0 x1 x2 x3 x4 x5) (o1 : okSix x6 x7 x8 x9 x10 x11) (hs : s.size ≤ 140737488351232) :
    Ev (fun k => rampartlaw02_EthBack.j1 k body s body 0 false x0 x1 x2 x3 x4 x5 x6 x7 x8 x9 x10 x11 n x0 x1 x2 x3 x4 x5 x6 x7 x8 x9 x10 x11 n) true := by
  obtain ⟨K1, q1⟩ := same_self x0 x1 x2 x3 x4 x5 x6 x7 x8 x9 x10 x11 n o0 o1
  obtain ⟨K2, q2⟩ := back_j2 s hs
  refine ⟨K1 + K2 + 1, fun k hk => ?_⟩
  obtain ⟨k, rfl⟩ : ∃ n, k = n + 1 := ⟨k - 1, by omega⟩
  have e1 : rampartref02_Same.f k x0 x1 x2 x3 x4 x5 x6 x7 x8 x9 x10 x11 n x0 x1 x2 x3 x4 x5 x6 x7 x8 x9 x10 x11 n = some true := q1 k (by omega)
  have e2 : rampartlaw02_EthBack.j2 k s false = some true := q2 k (by omega)
  have hne : (body.toList != body.toList) = false := bne_self_eq_false _
  simp only [rampartlaw02_EthBack.j1, Bool.false_eq_true, if_false, if_true]
  rw [e1, Option.bind_some, if_pos rfl, hne]
  exact e2
theorem back_long (x57 : ByteArray) (x0 x1 x2 x3 x4 x5 x6 x7 x8 x9 x10 x11 n y0 y1 y2 y3 y4 y5 y6 y7 y8 y9 y10 y11 y12 : Int) (body s : ByteArray) (hs : s.size ≤ 140737488351232) : Ev (fun k => rampartlaw02_EthBack.j1 k body s x57 5 false x0 x1 x2 x3 x4 x5 x6 x7 x8 x9 x10 x11 n y0 y1 y2 y3 y4 y5 y6 y7 y8 y9 y10 y11 y12) true := by
  obtain ⟨K2, q2⟩ := back_j2 s hs
  refine ⟨K2 + 1, fun k hk => ?_⟩
  obtain ⟨k, rfl⟩ : ∃ n, k = n + 1 := ⟨k - 1, by omega⟩
  have e2 : rampartlaw02_EthBack.j2 k s false = some true := q2 k (by omega)
  simp only [rampartlaw02_EthBack.j1, Bool.false_eq_true, if_false]
  rw [if_neg (show ¬ (5 : Int) = 0 by decide)]
  exact e2
theorem word_14 (n : Nat) (h : n ≤ 100000) : wrap64 (14 + (n : Int)) = ((14 + n : Nat) : Int) := by unfold wrap64; omega
theorem EthBack (x0 x1 x2 x3 x4 x5 x6 x7 x8 x9 x10 x11 n : Int) (body s : ByteArray) (h0 : (Lit.int .u8 x0).wf = true) (h1 : (Lit.int .u8 x1).wf = true) (h2 : (Lit.int .u8 x2).wf = true) (h3 : (Lit.int .u8 x3).wf = true) (h4 : (Lit.int .u8 x4).wf = true) (h5 : (Lit.int .u8 x5).wf = true) (h6 : (Lit.int .u8 x6).wf = true) (h7 : (Lit.int .u8 x7).wf = true) (h8 : (Lit.int .u8 x8).wf = true) (h9 : (Lit.int .u8 x9).wf = true) (h10 : (Lit.int .u8 x10).wf = true) (h11 : (Lit.int .u8 x11).wf = true) (_ : (Lit.int .i64 n).wf = true) (hb : body.size ≤ 140737488351232) (hs : s.size ≤ 140737488351232) : ∃ k, rampartlaw02_EthBack.f k x0 x1 x2 x3 x4 x5 x6 x7 x8 x9 x10 x11 n body s = some true := by
  have o0 : okSix x0 x1 x2 x3 x4 x5 := ⟨bounds_u8 h0, bounds_u8 h1, bounds_u8 h2, bounds_u8 h3, bounds_u8 h4, bounds_u8 h5⟩
  have o1 : okSix x6 x7 x8 x9 x10 x11 := ⟨bounds_u8 h6, bounds_u8 h7, bounds_u8 h8, bounds_u8 h9, bounds_u8 h10, bounds_u8 h11⟩
  have aw : rampartlaw02_EthBack.j0 1 body s true x0 x1 x2 x3 x4 x5 x6 x7 x8 x9 x10 x11 n = some true := by
    simp only [rampartlaw02_EthBack.j0, if_true]
    rw [awake_some, Option.bind_some]
  by_cases b1 : (body.size : Int) > 3500
  · exact ⟨1, by simp only [rampartlaw02_EthBack.f]; rw [if_pos b1, aw]⟩
  by_cases b2 : (s.size : Int) > 4000
  · exact ⟨1, by simp only [rampartlaw02_EthBack.f]; rw [if_neg b1, decide_eq_true b2, aw]⟩
  have hn : 0 ≤ Go.bits .and .i64 n 65535 ∧ Go.bits .and .i64 n 65535 ≤ 65535 := by rw [and_any]; omega
  obtain ⟨K1, q1⟩ := put_ev x0 x1 x2 x3 x4 x5 x6 x7 x8 x9 x10 x11 (Go.bits .and .i64 n 65535) body o0 o1 hb
  have hp := got_put x0 x1 x2 x3 x4 x5 x6 x7 x8 x9 x10 x11 (Go.bits .and .i64 n 65535) body o0 o1 hn
  have hz := ethS_size x0 x1 x2 x3 x4 x5 x6 x7 x8 x9 x10 x11 (Go.bits .and .i64 n 65535) body
  have hg := get_some (ethS x0 x1 x2 x3 x4 x5 x6 x7 x8 x9 x10 x11 (Go.bits .and .i64 n 65535) body)
  have w := word_14 body.size (by omega)
  by_cases h3 : 14 + body.size ≤ 3000
  · have e : getE (ethS x0 x1 x2 x3 x4 x5 x6 x7 x8 x9 x10 x11 (Go.bits .and .i64 n 65535) body) = (x0, x1, x2, x3, x4, x5, x6, x7, x8, x9, x10, x11, Go.bits .and .i64 n 65535, body, 0) := by
      rw [← hp]; unfold getE; rw [if_neg (by omega), if_neg (by omega)]
    obtain ⟨K2, q2⟩ := back_j1 x0 x1 x2 x3 x4 x5 x6 x7 x8 x9 x10 x11 (Go.bits .and .i64 n 65535) body s o0 o1 hs
    generalize ethS x0 x1 x2 x3 x4 x5 x6 x7 x8 x9 x10 x11 (Go.bits .and .i64 n 65535) body = t at q1 hz hg e
    refine ⟨K1 + K2 + 1, ?_⟩
    generalize hk : K1 + K2 = k
    have e1 : eth_Put.f k x0 x1 x2 x3 x4 x5 x6 x7 x8 x9 x10 x11 (Go.bits .and .i64 n 65535) body = some t := q1 k (by omega)
    have e2 : rampartlaw02_EthBack.j1 k body s body 0 false x0 x1 x2 x3 x4 x5 x6 x7 x8 x9 x10 x11 (Go.bits .and .i64 n 65535) x0 x1 x2 x3 x4 x5 x6 x7 x8 x9 x10 x11 (Go.bits .and .i64 n 65535) = some true := q2 k (by omega)
    simp only [rampartlaw02_EthBack.f]
    rw [if_neg b1, decide_eq_false b2]
    simp only [rampartlaw02_EthBack.j0, Bool.false_eq_true, if_false]
    rw [e1, Option.bind_some, hg, e, Option.bind_some, w, if_pos (by rw [hz]), decide_eq_true (show (t.size : Int) ≤ 3000 by omega), if_neg (show ¬ (((0 : Int) == 0) != true) = true by decide), if_pos rfl]
    exact e2
  · have e : getE (ethS x0 x1 x2 x3 x4 x5 x6 x7 x8 x9 x10 x11 (Go.bits .and .i64 n 65535) body) = errE 5 := by
      unfold getE; rw [if_neg (by omega), if_pos (by omega)]
    obtain ⟨K2, q2⟩ := back_long (⟨#[]⟩ : ByteArray) x0 x1 x2 x3 x4 x5 x6 x7 x8 x9 x10 x11 (Go.bits .and .i64 n 65535) 0 0 0 0 0 0 0 0 0 0 0 0 0 body s hs
    generalize ethS x0 x1 x2 x3 x4 x5 x6 x7 x8 x9 x10 x11 (Go.bits .and .i64 n 65535) body = t at q1 hz hg e
    refine ⟨K1 + K2 + 1, ?_⟩
    generalize hk : K1 + K2 = k
    have e1 : eth_Put.f k x0 x1 x2 x3 x4 x5 x6 x7 x8 x9 x10 x11 (Go.bits .and .i64 n 65535) body = some t := q1 k (by omega)
    have e2 : rampartlaw02_EthBack.j1 k body s (⟨#[]⟩ : ByteArray) 5 false x0 x1 x2 x3 x4 x5 x6 x7 x8 x9 x10 x11 (Go.bits .and .i64 n 65535) 0 0 0 0 0 0 0 0 0 0 0 0 0 = some true := q2 k (by omega)
    simp only [rampartlaw02_EthBack.f]
    rw [if_neg b1, decide_eq_false b2]
    simp only [rampartlaw02_EthBack.j0, Bool.false_eq_true, if_false]
    rw [e1, Option.bind_some, hg, e, Option.bind_some, w, if_pos (by rw [hz]), decide_eq_false (show ¬ (t.size : Int) ≤ 3000 by omega), if_neg (show ¬ (((errE 5).2.2.2.2.2.2.2.2.2.2.2.2.2.2 == 0) != false) = true by decide), if_neg (show ¬ (errE 5).2.2.2.2.2.2.2.2.2.2.2.2.2.2 = 0 by decide)]
    exact e2
end Go.Proofs.Ytchjfgdcldaacaa.Pure
