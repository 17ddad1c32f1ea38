/- What is proved: the plain statement of EthAll: for any bytes, any head the program's Get and Put of frames answer as the document's. Conditions: numbers of their kinds, sizes as the row gives them, nothing else. -/
import Derived.Test.YtchjfgdcldaacaaQEEthText
import Derived.Test.YtchjfgdcldaacaaQEEthRef
import Derived.Test.YtchjfgdcldaacaaHEx11
import Derived.Test.YtchjfgdcldaacaaHEx5
import Derived.Test.YtchjfgdcldaacaaHEx10
namespace Go.Proofs.Ytchjfgdcldaacaa.Pure
open Go.RowKit Go.Proofs.Ytchjfgdcldaacaa.QE Go.Proofs.Ytchjfgdcldaacaa.HE Go.Proofs.YtchjfgdcldaacaaW.PrintWords Go.Proofs.YtchjfgdcldaacaaW.PrintLast Go.Proofs.YtchjfgdcldaacaaW.PrintMore
set_option linter.unusedVariables false
set_option linter.unusedSimpArgs false
theorem bt_six (s : ByteArray) (j : Nat) (h : 6 + j < s.size) : bt (s.extract 6 s.size) (j : Int) = bt s ((6 + j : Nat) : Int) := by
  rw [bt_get _ j (by rw [ByteArray.size_extract]; omega), bt_get s (6 + j) h]
  congr 2
  simp [ext_list]
theorem rget_ev (s : ByteArray) : Ev (fun k => rampartref02_Get.f k s) (getE s) := by
  unfold getE
  by_cases h1 : s.size < 14
  · refine ⟨0, fun k _ => ?_⟩
    simp only [rampartref02_Get.f]
    rw [if_pos (show (s.size : Int) < 14 by omega), if_pos h1]
    rfl
  rw [if_neg h1]
  by_cases h2 : s.size > 3000
  · refine ⟨0, fun k _ => ?_⟩
    simp only [rampartref02_Get.f]
    rw [if_neg (show ¬ (s.size : Int) < 14 by omega), if_pos (show (s.size : Int) > 3000 by omega), if_pos h2]
    rfl
  rw [if_neg h2]
  obtain ⟨K, q⟩ := rnum_ev (s.extract 12 14) (by rw [ByteArray.size_extract]; omega)
  refine ⟨K, fun k hk => ?_⟩
  have e : rampartref01_Num.f k (s.extract 12 14) = some (numOf (s.extract 12 14)) := q k hk
  have s1 : rampartref02_six.f s = some (bt s 0, bt s 1, bt s 2, bt s 3, bt s 4, bt s 5) := by
    unfold rampartref02_six.f; rw [if_pos (by omega)]
  have b0 : bt (s.extract 6 s.size) 0 = bt s 6 := bt_six s 0 (by omega)
  have b1 : bt (s.extract 6 s.size) 1 = bt s 7 := bt_six s 1 (by omega)
  have b2 : bt (s.extract 6 s.size) 2 = bt s 8 := bt_six s 2 (by omega)
  have b3 : bt (s.extract 6 s.size) 3 = bt s 9 := bt_six s 3 (by omega)
  have b4 : bt (s.extract 6 s.size) 4 = bt s 10 := bt_six s 4 (by omega)
  have b5 : bt (s.extract 6 s.size) 5 = bt s 11 := bt_six s 5 (by omega)
  have s2 : rampartref02_six.f (s.extract 6 s.size) = some (bt s 6, bt s 7, bt s 8, bt s 9, bt s 10, bt s 11) := by
    unfold rampartref02_six.f; rw [if_pos (by rw [ByteArray.size_extract]; omega), b0, b1, b2, b3, b4, b5]
  simp only [rampartref02_Get.f]
  rw [if_neg (show ¬ (s.size : Int) < 14 by omega), if_neg (show ¬ (s.size : Int) > 3000 by omega), s1, Option.bind_some, if_pos (show 6 ≤ (s.size : Int) by omega), s2, Option.bind_some, if_pos (show (12 : Nat) ≤ 14 by decide), if_pos (show 14 ≤ (s.size : Int) by omega), e, Option.bind_some]
  rfl
theorem rput_ev (x0 x1 x2 x3 x4 x5 x6 x7 x8 x9 x10 x11 n : Int) (body : ByteArray) (h0 : okSix x0 x1 x2 x3 x4 x5) (h1 : okSix x6 x7 x8 x9 x10 x11) (hb : body.size ≤ 140737488351232) :
    Ev (fun k => rampartref02_Put.f k x0 x1 x2 x3 x4 x5 x6 x7 x8 x9 x10 x11 n body) (ethS x0 x1 x2 x3 x4 x5 x6 x7 x8 x9 x10 x11 n body) := by
  obtain ⟨K, q⟩ := rbig_ev_nat n 2 (by omega)
  obtain ⟨K0, q0⟩ := text_ev x0 x1 x2 x3 x4 x5 h0
  obtain ⟨K1, q1⟩ := text_ev x6 x7 x8 x9 x10 x11 h1
  refine ⟨K + K0 + K1, fun k hk => ?_⟩
  have e : rampartref01_Big.f k n 2 = some (bigS n 2) := q k (by omega)
  have e0 : rampartref02_text.f k x0 x1 x2 x3 x4 x5 = some (strOfNums [x0, x1, x2, x3, x4, x5]) := q0 k (by omega)
  have e1 : rampartref02_text.f k x6 x7 x8 x9 x10 x11 = some (strOfNums [x6, x7, x8, x9, x10, x11]) := q1 k (by omega)
  have r1 : (strOfNums [x0, x1, x2, x3, x4, x5]).size + (strOfNums [x6, x7, x8, x9, x10, x11]).size ≤ 9223372036854775807 := room (by simp only [six_size]; omega)
  have r2 : (strOfNums [x0, x1, x2, x3, x4, x5] ++ strOfNums [x6, x7, x8, x9, x10, x11]).size + (bigS n 2).size ≤ 9223372036854775807 := room (by simp only [ByteArray.size_append, six_size, bigS_size]; omega)
  have r3 : ((strOfNums [x0, x1, x2, x3, x4, x5] ++ strOfNums [x6, x7, x8, x9, x10, x11]) ++ bigS n 2).size + body.size ≤ 9223372036854775807 := room (by simp only [ByteArray.size_append, six_size, bigS_size]; omega)
  simp only [rampartref02_Put.f]
  rw [e0, Option.bind_some, e1, Option.bind_some, if_pos r1, e, Option.bind_some, if_pos r2, if_pos r3]
  rfl
theorem EthAll (s : ByteArray) (x0 x1 x2 x3 x4 x5 x6 x7 x8 x9 x10 x11 n : Int) (body : ByteArray) (hs : s.size ≤ 140737488351232) (h0 : (Lit.int .u8 x0).wf = true) (h1 : (Lit.int .u8 x1).wf = true) (h2 : (Lit.int .u8 x2).wf = true) (h3 : (Lit.int .u8 x3).wf = true) (h4 : (Lit.int .u8 x4).wf = true) (h5 : (Lit.int .u8 x5).wf = true) (h6 : (Lit.int .u8 x6).wf = true) (h7 : (Lit.int .u8 x7).wf = true) (h8 : (Lit.int .u8 x8).wf = true) (h9 : (Lit.int .u8 x9).wf = true) (h10 : (Lit.int .u8 x10).wf = true) (h11 : (Lit.int .u8 x11).wf = true) (_ : (Lit.int .i64 n).wf = true) (hb : body.size ≤ 140737488351232) : ∃ k, rampartlaw02_EthAll.f k s x0 x1 x2 x3 x4 x5 x6 x7 x8 x9 x10 x11 n body = some true := by
  have o0 : okSix x0 x1 x2 x3 x4 x5 := ⟨bounds_u8 h0, bounds_u8 h1, bounds_u8 h2, bounds_u8 h3, bounds_u8 h4, bounds_u8 h5⟩
  have o1 : okSix x6 x7 x8 x9 x10 x11 := ⟨bounds_u8 h6, bounds_u8 h7, bounds_u8 h8, bounds_u8 h9, bounds_u8 h10, bounds_u8 h11⟩
  have aw : rampartlaw02_EthAll.j0 1 s body true x0 x1 x2 x3 x4 x5 x6 x7 x8 x9 x10 x11 n = some true := by
    simp only [rampartlaw02_EthAll.j0, if_true]
    rw [awake_some, Option.bind_some]
  by_cases b1 : (s.size : Int) > 4000
  · exact ⟨1, by simp only [rampartlaw02_EthAll.f]; rw [if_pos b1, aw]⟩
  by_cases b2 : (body.size : Int) > 4000
  · exact ⟨1, by simp only [rampartlaw02_EthAll.f]; rw [if_neg b1, decide_eq_true b2, aw]⟩
  obtain ⟨K1, q1⟩ := rget_ev s
  obtain ⟨K2, q2⟩ := same_got (getE s) (ok_get s)
  obtain ⟨K3, q3⟩ := put_ev x0 x1 x2 x3 x4 x5 x6 x7 x8 x9 x10 x11 n body o0 o1 hb
  obtain ⟨K4, q4⟩ := rput_ev x0 x1 x2 x3 x4 x5 x6 x7 x8 x9 x10 x11 n body o0 o1 hb
  have hg := get_some s
  generalize getE s = g at q1 q2 hg
  refine ⟨K1 + K2 + K3 + K4 + 1, ?_⟩
  generalize hk : K1 + K2 + K3 + K4 = k
  have e1 : rampartref02_Get.f k s = some g := q1 k (by omega)
  have e2 : rampartref02_Same.f k g.1 g.2.1 g.2.2.1 g.2.2.2.1 g.2.2.2.2.1 g.2.2.2.2.2.1 g.2.2.2.2.2.2.1 g.2.2.2.2.2.2.2.1 g.2.2.2.2.2.2.2.2.1 g.2.2.2.2.2.2.2.2.2.1 g.2.2.2.2.2.2.2.2.2.2.1 g.2.2.2.2.2.2.2.2.2.2.2.1 g.2.2.2.2.2.2.2.2.2.2.2.2.1 g.1 g.2.1 g.2.2.1 g.2.2.2.1 g.2.2.2.2.1 g.2.2.2.2.2.1 g.2.2.2.2.2.2.1 g.2.2.2.2.2.2.2.1 g.2.2.2.2.2.2.2.2.1 g.2.2.2.2.2.2.2.2.2.1 g.2.2.2.2.2.2.2.2.2.2.1 g.2.2.2.2.2.2.2.2.2.2.2.1 g.2.2.2.2.2.2.2.2.2.2.2.2.1 = some true := q2 k (by omega)
  have e3 : eth_Put.f k x0 x1 x2 x3 x4 x5 x6 x7 x8 x9 x10 x11 n body = some (ethS x0 x1 x2 x3 x4 x5 x6 x7 x8 x9 x10 x11 n body) := q3 k (by omega)
  have e4 : rampartref02_Put.f k x0 x1 x2 x3 x4 x5 x6 x7 x8 x9 x10 x11 n body = some (ethS x0 x1 x2 x3 x4 x5 x6 x7 x8 x9 x10 x11 n body) := q4 k (by omega)
  simp only [rampartlaw02_EthAll.f]
  rw [if_neg b1, decide_eq_false b2]
  simp only [rampartlaw02_EthAll.j0, Bool.false_eq_true, if_false]
  rw [hg, Option.bind_some, e1, Option.bind_some, e2, Option.bind_some, if_pos rfl, if_pos rfl, if_pos rfl, e3, Option.bind_some, e4, Option.bind_some, if_pos rfl, awake_some, Option.bind_some]
end Go.Proofs.Ytchjfgdcldaacaa.Pure
