/- What is proved: what the program's Get and Put of frames come to, in closed form; what is put is got, what is got is put. Conditions: those that stand in each theorem. -/
import Derived.Test.YtchjfgdcldaacaaQGFieldLib
import Derived.Test.YtchjfgdcldaacaaHGx2
import Derived.Test.YtchjfgdcldaacaaHGx6
import Derived.Test.YtchjfgdcldaacaaHGx3
namespace Go.Proofs.Ytchjfgdcldaacaa.QG
open Go.RowKit Go.Proofs.Ytchjfgdcldaacaa.HG Go.Proofs.YtchjfgdcldaacaaW.PrintWords Go.Proofs.YtchjfgdcldaacaaW.PrintLast Go.Proofs.YtchjfgdcldaacaaW.PrintMore
set_option linter.unusedVariables false
set_option linter.unusedSimpArgs false
theorem room {n : Nat} (h : n ≤ 200000000000000) : n ≤ 9223372036854775807 := Nat.le_trans h (by decide)
abbrev GotE := Int × Int × Int × Int × Int × Int × Int × Int × Int × Int × Int × Int × Int × ByteArray × Int
def errE (c : Int) : GotE := (0, 0, 0, 0, 0, 0, 0, 0, 0, 0, 0, 0, 0, (⟨#[]⟩ : ByteArray), c)
def okE (s : ByteArray) : GotE := (bt s 0, bt s 1, bt s 2, bt s 3, bt s 4, bt s 5, bt s 6, bt s 7, bt s 8, bt s 9, bt s 10, bt s 11, numOf (s.extract 12 14), s.extract 14 s.size, 0)
def getE (s : ByteArray) : GotE := if s.size < 14 then errE 2 else if s.size > 3000 then errE 5 else okE s
theorem num_ext (s : ByteArray) (a b : Nat) (h : b - a ≤ 8) : sum_Num.f (s.extract a b) = some (numOf (s.extract a b)) := num_some _ (by simp; omega)
theorem get_some (s : ByteArray) : eth_Get.f s = some (getE s) := by
  unfold getE
  by_cases h1 : s.size < 14
  · simp only [eth_Get.f]
    rw [if_pos (show (s.size : Int) < 14 by omega), if_pos h1]
    rfl
  rw [if_neg h1]
  by_cases h2 : s.size > 3000
  · simp only [eth_Get.f]
    rw [if_neg (show ¬ (s.size : Int) < 14 by omega), if_pos (show (s.size : Int) > 3000 by omega), if_pos h2]
    rfl
  rw [if_neg h2]
  simp only [eth_Get.f]
  rw [if_neg (show ¬ (s.size : Int) < 14 by omega), if_neg (show ¬ (s.size : Int) > 3000 by omega), if_pos (show 0 < (s.size : Int) by omega), if_pos (show 1 < (s.size : Int) by omega), if_pos (show 2 < (s.size : Int) by omega), if_pos (show 3 < (s.size : Int) by omega), if_pos (show 4 < (s.size : Int) by omega), if_pos (show 5 < (s.size : Int) by omega), if_pos (show 6 < (s.size : Int) by omega), if_pos (show 7 < (s.size : Int) by omega), if_pos (show 8 < (s.size : Int) by omega), if_pos (show 9 < (s.size : Int) by omega), if_pos (show 10 < (s.size : Int) by omega), if_pos (show 11 < (s.size : Int) by omega), if_pos (show (12 : Nat) ≤ 14 by decide), if_pos (show 14 ≤ (s.size : Int) by omega), num_ext s 12 14 (by omega), Option.bind_some]
  rfl
theorem bt_in (s : ByteArray) (i : Int) : 0 ≤ bt s i ∧ bt s i ≤ 255 := bt_range s i
theorem ok_zero : okSix 0 0 0 0 0 0 := by unfold okSix; omega
theorem ok_bts (s : ByteArray) (a b c d e f : Int) : okSix (bt s a) (bt s b) (bt s c) (bt s d) (bt s e) (bt s f) := ⟨bt_in s a, bt_in s b, bt_in s c, bt_in s d, bt_in s e, bt_in s f⟩
def okG (g : GotE) : Prop := okSix g.1 g.2.1 g.2.2.1 g.2.2.2.1 g.2.2.2.2.1 g.2.2.2.2.2.1 ∧ okSix g.2.2.2.2.2.2.1 g.2.2.2.2.2.2.2.1 g.2.2.2.2.2.2.2.2.1 g.2.2.2.2.2.2.2.2.2.1 g.2.2.2.2.2.2.2.2.2.2.1 g.2.2.2.2.2.2.2.2.2.2.2.1
theorem ok_get (s : ByteArray) : okG (getE s) := by
  unfold getE
  split
  · exact ⟨ok_zero, ok_zero⟩
  split
  · exact ⟨ok_zero, ok_zero⟩
  · exact ⟨ok_bts s 0 1 2 3 4 5, ok_bts s 6 7 8 9 10 11⟩
def ethS (x0 x1 x2 x3 x4 x5 x6 x7 x8 x9 x10 x11 n : Int) (body : ByteArray) : ByteArray := ((strOfNums [x0, x1, x2, x3, x4, x5] ++ strOfNums [x6, x7, x8, x9, x10, x11]) ++ bigS n 2) ++ body
theorem six_size (x0 x1 x2 x3 x4 x5 : Int) : (strOfNums [x0, x1, x2, x3, x4, x5]).size = 6 := strOfNums_size _
theorem ethS_size (x0 x1 x2 x3 x4 x5 x6 x7 x8 x9 x10 x11 n : Int) (body : ByteArray) : (ethS x0 x1 x2 x3 x4 x5 x6 x7 x8 x9 x10 x11 n body).size = 14 + body.size := by
  simp only [ethS, ByteArray.size_append, six_size, bigS_size]
theorem put_ev (x0 x1 x2 x3 x4 x5 x6 x7 x8 x9 x10 x11 n : Int) (body : ByteArray) (h0 : okSix x0 x1 x2 x3 x4 x5) (h1 : okSix x6 x7 x8 x9 x10 x11) (hb : body.size ≤ 140737488351232) :
    Ev (fun k => eth_Put.f k x0 x1 x2 x3 x4 x5 x6 x7 x8 x9 x10 x11 n body) (ethS x0 x1 x2 x3 x4 x5 x6 x7 x8 x9 x10 x11 n body) := by
  obtain ⟨K, q⟩ := big_ev_nat n 2 (by omega)
  refine ⟨K, fun k hk => ?_⟩
  have e : sum_Big.f k n 2 = some (bigS n 2) := q k hk
  have r1 : (strOfNums [x0, x1, x2, x3, x4, x5]).size + (strOfNums [x6, x7, x8, x9, x10, x11]).size ≤ 9223372036854775807 := room (by simp only [six_size]; omega)
  have r2 : (strOfNums [x0, x1, x2, x3, x4, x5] ++ strOfNums [x6, x7, x8, x9, x10, x11]).size + (bigS n 2).size ≤ 9223372036854775807 := room (by simp only [ByteArray.size_append, six_size, bigS_size]; omega)
  have r3 : ((strOfNums [x0, x1, x2, x3, x4, x5] ++ strOfNums [x6, x7, x8, x9, x10, x11]) ++ bigS n 2).size + body.size ≤ 9223372036854775807 := room (by simp only [ByteArray.size_append, six_size, bigS_size]; omega)
  simp only [eth_Put.f]
  rw [if_pos ⟨h0, h1⟩, if_pos r1, e, Option.bind_some, if_pos r2, if_pos r3]
  rfl
theorem awake_some : rampartlaw02_awake.f = some true := by decide +kernel
theorem num_two (s : ByteArray) (h : s.size = 2) : bigS (numOf s) 2 = s := by
  apply ba_ext
  have hl : s.data.toList.length = 2 := by simpa using h
  rw [numOf_short s (by omega)]
  match hs : s.data.toList, hl with
  | [a, b], _ =>
    have e0 : ∀ v : Int, (bigS v 0).data.toList = [] := fun v => by simp [bigS, bigL, strOfNums]
    rw [bigS_cons, bigS_cons, e0]
    have ha := a.toNat_lt
    have hb := b.toNat_lt
    have en : numL [a, b] = (a.toNat : Int) * 256 + b.toNat := by simp [numL]
    rw [en, show (256 : Int) ^ 1 = 256 from rfl, show (256 : Int) ^ 0 = 1 from rfl, Int.ediv_one, show (((a.toNat : Int) * 256 + b.toNat) / 256) % 256 = (a.toNat : Int) by omega, show ((a.toNat : Int) * 256 + b.toNat) % 256 = (b.toNat : Int) by omega]
    simp
theorem bts_six (s : ByteArray) (k : Nat) (h : k + 6 ≤ s.size) : (strOfNums [bt s (k : Int), bt s ((k + 1 : Nat) : Int), bt s ((k + 2 : Nat) : Int), bt s ((k + 3 : Nat) : Int), bt s ((k + 4 : Nat) : Int), bt s ((k + 5 : Nat) : Int)]).data.toList = (s.data.toList.drop k).take 6 := by
  have hl : s.data.toList.length = s.size := by simp
  rw [strOfNums_data]
  rw [List.drop_eq_getElem_cons (show k < s.data.toList.length by omega), List.drop_eq_getElem_cons (show k + 1 < s.data.toList.length by omega), List.drop_eq_getElem_cons (show k + 1 + 1 < s.data.toList.length by omega), List.drop_eq_getElem_cons (show k + 1 + 1 + 1 < s.data.toList.length by omega), List.drop_eq_getElem_cons (show k + 1 + 1 + 1 + 1 < s.data.toList.length by omega), List.drop_eq_getElem_cons (show k + 1 + 1 + 1 + 1 + 1 < s.data.toList.length by omega)]
  simp only [List.map_cons, List.map_nil, List.take_succ_cons, List.take_zero]
  rw [bt_get s k (by omega), bt_get s (k + 1) (by omega), bt_get s (k + 2) (by omega), bt_get s (k + 3) (by omega), bt_get s (k + 4) (by omega), bt_get s (k + 5) (by omega)]
  simp
/-- What is got is put byte for byte. -/
theorem put_got (s : ByteArray) (h : 14 ≤ s.size) : ethS (bt s 0) (bt s 1) (bt s 2) (bt s 3) (bt s 4) (bt s 5) (bt s 6) (bt s 7) (bt s 8) (bt s 9) (bt s 10) (bt s 11) (numOf (s.extract 12 14)) (s.extract 14 s.size) = s := by
  have h12 : (s.extract 12 14).size = 2 := by rw [ByteArray.size_extract]; omega
  have e0 := bts_six s 0 (by omega)
  have e6 := bts_six s 6 (by omega)
  have e12 : (bigS (numOf (s.extract 12 14)) 2).data.toList = (s.data.toList.drop 12).take 2 := by rw [num_two _ h12, ext_list]
  have e14 : (s.extract 14 s.size).data.toList = s.data.toList.drop 14 := by
    rw [ext_list, List.take_of_length_le (by simp)]
  apply ba_ext
  have e : (ethS (bt s 0) (bt s 1) (bt s 2) (bt s 3) (bt s 4) (bt s 5) (bt s 6) (bt s 7) (bt s 8) (bt s 9) (bt s 10) (bt s 11) (numOf (s.extract 12 14)) (s.extract 14 s.size)).data.toList = (s.data.toList.drop 0).take 6 ++ ((s.data.toList.drop 6).take 6 ++ ((s.data.toList.drop 12).take 2 ++ s.data.toList.drop 14)) := by
    unfold ethS
    rw [app_list, app_list, app_list, e12, e14, ← e0, ← e6]
    simp only [List.append_assoc]
    rfl
  rw [e]
  generalize s.data.toList = l
  have a14 : (l.drop 12).take 2 ++ l.drop 14 = l.drop 12 := by
    rw [show l.drop 14 = (l.drop 12).drop 2 by rw [List.drop_drop]]
    exact List.take_append_drop 2 _
  have a12 : (l.drop 6).take 6 ++ l.drop 12 = l.drop 6 := by
    rw [show l.drop 12 = (l.drop 6).drop 6 by rw [List.drop_drop]]
    exact List.take_append_drop 6 _
  rw [a14, a12, List.drop_zero]
  exact List.take_append_drop 6 _
/-- What is put is got. -/
theorem got_put (x0 x1 x2 x3 x4 x5 x6 x7 x8 x9 x10 x11 n : Int) (body : ByteArray) (h0 : okSix x0 x1 x2 x3 x4 x5) (h1 : okSix x6 x7 x8 x9 x10 x11) (hn : 0 ≤ n ∧ n ≤ 65535) :
    okE (ethS x0 x1 x2 x3 x4 x5 x6 x7 x8 x9 x10 x11 n body) = (x0, x1, x2, x3, x4, x5, x6, x7, x8, x9, x10, x11, n, body, 0) := by
  have hl : (ethS x0 x1 x2 x3 x4 x5 x6 x7 x8 x9 x10 x11 n body).data.toList = UInt8.ofNat x0.toNat :: UInt8.ofNat x1.toNat :: UInt8.ofNat x2.toNat :: UInt8.ofNat x3.toNat :: UInt8.ofNat x4.toNat :: UInt8.ofNat x5.toNat :: UInt8.ofNat x6.toNat :: UInt8.ofNat x7.toNat :: UInt8.ofNat x8.toNat :: UInt8.ofNat x9.toNat :: UInt8.ofNat x10.toNat :: UInt8.ofNat x11.toNat :: ((bigS n 2).data.toList ++ body.data.toList) := by
    unfold ethS
    rw [app_list, app_list, app_list, strOfNums_data, strOfNums_data]
    simp only [List.map_cons, List.map_nil, List.cons_append, List.nil_append, List.append_assoc]
  generalize ethS x0 x1 x2 x3 x4 x5 x6 x7 x8 x9 x10 x11 n body = s at hl
  obtain ⟨k0, k1, k2, k3, k4, k5⟩ := h0
  obtain ⟨k6, k7, k8, k9, k10, k11⟩ := h1
  have B : ∀ (a : List UInt8) (x : Int) (r : List UInt8) (i : Nat), (0 ≤ x ∧ x ≤ 255) → s.data.toList = a ++ UInt8.ofNat x.toNat :: r → a.length = i → bt s (i : Int) = x := fun a x r i hx h hi => by
    rw [bt_at_list h hi]; exact byte_of hx
  have b0 : bt s 0 = x0 := B [] x0 _ 0 k0 hl rfl
  have b1 : bt s 1 = x1 := B [UInt8.ofNat x0.toNat] x1 _ 1 k1 hl rfl
  have b2 : bt s 2 = x2 := B [UInt8.ofNat x0.toNat, UInt8.ofNat x1.toNat] x2 _ 2 k2 hl rfl
  have b3 : bt s 3 = x3 := B [UInt8.ofNat x0.toNat, UInt8.ofNat x1.toNat, UInt8.ofNat x2.toNat] x3 _ 3 k3 hl rfl
  have b4 : bt s 4 = x4 := B [UInt8.ofNat x0.toNat, UInt8.ofNat x1.toNat, UInt8.ofNat x2.toNat, UInt8.ofNat x3.toNat] x4 _ 4 k4 hl rfl
  have b5 : bt s 5 = x5 := B [UInt8.ofNat x0.toNat, UInt8.ofNat x1.toNat, UInt8.ofNat x2.toNat, UInt8.ofNat x3.toNat, UInt8.ofNat x4.toNat] x5 _ 5 k5 hl rfl
  have b6 : bt s 6 = x6 := B [UInt8.ofNat x0.toNat, UInt8.ofNat x1.toNat, UInt8.ofNat x2.toNat, UInt8.ofNat x3.toNat, UInt8.ofNat x4.toNat, UInt8.ofNat x5.toNat] x6 _ 6 k6 hl rfl
  have b7 : bt s 7 = x7 := B [UInt8.ofNat x0.toNat, UInt8.ofNat x1.toNat, UInt8.ofNat x2.toNat, UInt8.ofNat x3.toNat, UInt8.ofNat x4.toNat, UInt8.ofNat x5.toNat, UInt8.ofNat x6.toNat] x7 _ 7 k7 hl rfl
  have b8 : bt s 8 = x8 := B [UInt8.ofNat x0.toNat, UInt8.ofNat x1.toNat, UInt8.ofNat x2.toNat, UInt8.ofNat x3.toNat, UInt8.ofNat x4.toNat, UInt8.ofNat x5.toNat, UInt8.ofNat x6.toNat, UInt8.ofNat x7.toNat] x8 _ 8 k8 hl rfl
  have b9 : bt s 9 = x9 := B [UInt8.ofNat x0.toNat, UInt8.ofNat x1.toNat, UInt8.ofNat x2.toNat, UInt8.ofNat x3.toNat, UInt8.ofNat x4.toNat, UInt8.ofNat x5.toNat, UInt8.ofNat x6.toNat, UInt8.ofNat x7.toNat, UInt8.ofNat x8.toNat] x9 _ 9 k9 hl rfl
  have b10 : bt s 10 = x10 := B [UInt8.ofNat x0.toNat, UInt8.ofNat x1.toNat, UInt8.ofNat x2.toNat, UInt8.ofNat x3.toNat, UInt8.ofNat x4.toNat, UInt8.ofNat x5.toNat, UInt8.ofNat x6.toNat, UInt8.ofNat x7.toNat, UInt8.ofNat x8.toNat, UInt8.ofNat x9.toNat] x10 _ 10 k10 hl rfl
  have b11 : bt s 11 = x11 := B [UInt8.ofNat x0.toNat, UInt8.ofNat x1.toNat, UInt8.ofNat x2.toNat, UInt8.ofNat x3.toNat, UInt8.ofNat x4.toNat, UInt8.ofNat x5.toNat, UInt8.ofNat x6.toNat, UInt8.ofNat x7.toNat, UInt8.ofNat x8.toNat, UInt8.ofNat x9.toNat, UInt8.ofNat x10.toNat] x11 _ 11 k11 hl rfl
  have l12 : s.data.toList = [UInt8.ofNat x0.toNat, UInt8.ofNat x1.toNat, UInt8.ofNat x2.toNat, UInt8.ofNat x3.toNat, UInt8.ofNat x4.toNat, UInt8.ofNat x5.toNat, UInt8.ofNat x6.toNat, UInt8.ofNat x7.toNat, UInt8.ofNat x8.toNat, UInt8.ofNat x9.toNat, UInt8.ofNat x10.toNat, UInt8.ofNat x11.toNat] ++ ((bigS n 2).data.toList ++ body.data.toList) := hl
  have c12 : (s.extract 12 14).data.toList = (bigS n 2).data.toList := cut_at l12 rfl (by rw [bigS_length])
  have e14 : s.extract 14 s.size = body := by
    rw [← List.append_assoc] at l12
    exact ba_ext (cut_end l12 (by rw [List.length_append, bigS_length]; rfl))
  have e12 : numOf (s.extract 12 14) = n := by
    rw [numOf_list c12 (by omega), show (256 : Int) ^ 2 = 65536 from rfl, Int.emod_eq_of_lt (by omega) (by omega)]
  unfold okE
  rw [b0, b1, b2, b3, b4, b5, b6, b7, b8, b9, b10, b11, e12, e14]
end Go.Proofs.Ytchjfgdcldaacaa.QG
