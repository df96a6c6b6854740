/- WALK of CalendarTexts. -/
import Derived.Test.YtpelnfolnlmhdaaDoorHead
import Derived.Test.YtpelnfolnlmhdaaDoorParseB
import Derived.Test.YtpelnfolnlmhdaaDoorTextsPlain
namespace Go.Proofs.YtpelnfolnlmhdaaDoor
open Go.RowKit
open Cal

theorem parse_at {s : ByteArray} {l : List UInt8} {x y : Int} (hl : s.data.toList = l) (hp : parseV l = (x, y)) (w : World) (h : MT w) (hs : s.size ≤ 40) :
    Calls Tryd.prog 23 #[.string s] w fun e w' => e = .returned (.tuple #[.int .i64 x, .int .i64 y]) ∧ Below w.heap.size w w' := by
  have := parse_any s w h hs
  rwa [hl, hp] at this
theorem text_at {n : Int} {S : ByteArray} (hS : S = ⟨(textL n).toArray⟩) (w : World) (h0 : 0 ≤ n) (h1 : n ≤ 1000000) (h : PT w) :
    Calls Tryd.prog 26 #[.int .i64 n] w fun e w' => e = .returned (.string S) ∧ Below w.heap.size w w' := by
  rw [hS]; exact text_yes n w h0 h1 h
theorem ba_ne {S : ByteArray} (h : S.size = 10) : S.toList.isEmpty = false := by
  rw [Lib.toList_data, List.isEmpty_eq_false_iff]
  intro e
  have : S.data.toList.length = S.size := rfl
  rw [e, h] at this
  exact absurd this (by decide)
theorem ba_eq {S : ByteArray} {l : List UInt8} (h : l = S.data.toList) : S = ⟨l.toArray⟩ := by subst h; rfl
theorem txt_size {S : ByteArray} {n : Int} (h : S = ⟨(textL n).toArray⟩) : S.size = 10 := by subst h; exact textL_len n
theorem txt_list {S : ByteArray} {n : Int} (h : S = ⟨(textL n).toArray⟩) : S.data.toList = textL n := by subst h; rfl
theorem txt_less {S T : ByteArray} {a b : Int} (hS : S = ⟨(textL a).toArray⟩) (hT : T = ⟨(textL b).toArray⟩) (a0 : 0 ≤ a) (a1 : a ≤ 1000000) (b0 : 0 ≤ b) (b1 : b ≤ 1000000) : Op.bytesLess S.toList T.toList = decide (a < b) := by
  rw [bytesLess_eq, Lib.toList_data, Lib.toList_data, txt_list hS, txt_list hT, decide_eq_decide]; exact text_lt_iff a0 a1 b0 b1

set_option maxRecDepth 100000 in
theorem texts_long (a b : Int) (s : ByteArray) (w : World) (h : PT w) (hl : 40 < s.size) :
    Calls Tryd.prog 10 #[.int .i64 a, .int .i64 b, .string s] w fun e w' => e = .returned (.bool true) ∧ Below w.heap.size w w' := by
  go_enter Tryd.func10, Tryd.ntmps10
  go_wp2_with fail
  refine (head_any _ h).mono ?_
  rintro e w1 ⟨rfl, bw⟩
  go_wp2
  go_ret
  exact ⟨rfl, bw⟩

theorem text_t (n : Int) (T : ByteArray) (hT : T = if 0 ≤ n ∧ n ≤ 1000000 then ⟨(textL n).toArray⟩ else ⟨#[]⟩) (w : World) (h : PT w) :
    Calls Tryd.prog 26 #[.int .i64 n] w fun e w' => e = .returned (.string T) ∧ Below w.heap.size w w' := by
  by_cases hn : 0 ≤ n ∧ n ≤ 1000000
  · rw [if_pos hn] at hT; exact text_at hT w hn.1 hn.2 h
  · rw [if_neg hn] at hT; rw [hT]; exact text_no n w (by omega)

set_option maxHeartbeats 1000000 in
set_option maxRecDepth 100000 in
theorem texts_lo (a b : Int) (s : ByteArray) (w : World) (h : PT w) (hm0 : MT w) (hs : s.size ≤ 40) (a0 : a < 0) :
    Calls Tryd.prog 10 #[.int .i64 a, .int .i64 b, .string s] w fun e w' => e = .returned (.bool true) ∧ Below w.heap.size w w' := by
  have hs2 : decide (40 < s.size) = false := by simp; omega
  go_enter Tryd.func10, Tryd.ntmps10
  go_wp2_with fail
  refine (head_any _ h).mono ?_
  rintro e w1 ⟨rfl, bw1⟩
  go_wp2_with fail
  refine (text_no a _ (.inl a0)).mono ?_
  rintro e w2 ⟨rfl, b2⟩
  have bw2 := bw1.trans (b2.mono bw1.size)
  clear b2
  obtain ⟨T, hT⟩ : ∃ T : ByteArray, T = if 0 ≤ b ∧ b ≤ 1000000 then ⟨(textL b).toArray⟩ else ⟨#[]⟩ := ⟨_, rfl⟩
  have hcall := fun w h => text_t b T hT w h
  have HC := Lib.hid hcall
  clear hT hcall
  go_wp2_with fail
  refine (HC.out _ (h.below bw2 (Nat.le_refl _))).mono ?_
  rintro e w3 ⟨rfl, b3⟩
  have bw3 := bw2.trans (b3.mono bw2.size)
  clear b3 HC
  go_wp2_with fail
  refine (parse_at rfl parse_nil _ (hm0.below bw3 (Nat.le_refl _)) (by decide)).mono ?_
  rintro e w4 ⟨rfl, b4⟩
  have bw4 := bw3.trans (b4.mono bw3.size)
  clear b4 bw3 bw2 bw1
  by_cases he : (parseV s.data.toList).2 = 0
  · obtain ⟨m0, m1, mt⟩ := text_parse he
    obtain ⟨m, hm⟩ : ∃ m, m = (parseV s.data.toList).1 := ⟨_, rfl⟩
    rw [← hm] at m0 m1 mt
    have hp : parseV s.data.toList = (m, 0) := Prod.ext hm.symm he
    have hS2 : s = ⟨(textL m).toArray⟩ := ba_eq mt
    have HP := Lib.hid hp
    have HS2 := Lib.hid hS2
    clear he hm mt hp hS2
    go_wp2_with fail
    refine (parse_at rfl HP.out _ (hm0.below bw4 (Nat.le_refl _)) hs).mono ?_
    rintro e w5 ⟨rfl, b5⟩
    have bw5 := bw4.trans (b5.mono bw4.size)
    clear b5
    go_wp2_with fail
    refine (text_at HS2.out _ m0 m1 (h.below bw5 (Nat.le_refl _))).mono ?_
    rintro e w6 ⟨rfl, b6⟩
    have bw6 := bw5.trans (b6.mono bw5.size)
    clear b6
    go_wp2
    go_ret
    exact ⟨ret_bool (by simp), bw6⟩
  · have hp := parse_err he
    have HP := Lib.hid hp
    clear he hp
    go_wp2_with fail
    refine (parse_at rfl HP.out _ (hm0.below bw4 (Nat.le_refl _)) hs).mono ?_
    rintro e w5 ⟨rfl, b5⟩
    have bw5 := bw4.trans (b5.mono bw4.size)
    clear b5
    go_wp2
    go_ret
    exact ⟨rfl, bw5⟩

set_option maxHeartbeats 1000000 in
set_option maxRecDepth 100000 in
theorem texts_hi (a b : Int) (s : ByteArray) (w : World) (h : PT w) (hm0 : MT w) (hs : s.size ≤ 40) (a0 : 0 ≤ a) (a1 : 1000000 < a) :
    Calls Tryd.prog 10 #[.int .i64 a, .int .i64 b, .string s] w fun e w' => e = .returned (.bool true) ∧ Below w.heap.size w w' := by
  have hs2 : decide (40 < s.size) = false := by simp; omega
  go_enter Tryd.func10, Tryd.ntmps10
  go_wp2_with fail
  refine (head_any _ h).mono ?_
  rintro e w1 ⟨rfl, bw1⟩
  go_wp2_with fail
  refine (text_no a _ (.inr a1)).mono ?_
  rintro e w2 ⟨rfl, b2⟩
  have bw2 := bw1.trans (b2.mono bw1.size)
  clear b2
  obtain ⟨T, hT⟩ : ∃ T : ByteArray, T = if 0 ≤ b ∧ b ≤ 1000000 then ⟨(textL b).toArray⟩ else ⟨#[]⟩ := ⟨_, rfl⟩
  have hcall := fun w h => text_t b T hT w h
  have HC := Lib.hid hcall
  clear hT hcall
  go_wp2_with fail
  refine (HC.out _ (h.below bw2 (Nat.le_refl _))).mono ?_
  rintro e w3 ⟨rfl, b3⟩
  have bw3 := bw2.trans (b3.mono bw2.size)
  clear b3 HC
  go_wp2_with fail
  refine (parse_at rfl parse_nil _ (hm0.below bw3 (Nat.le_refl _)) (by decide)).mono ?_
  rintro e w4 ⟨rfl, b4⟩
  have bw4 := bw3.trans (b4.mono bw3.size)
  clear b4 bw3 bw2 bw1
  by_cases he : (parseV s.data.toList).2 = 0
  · obtain ⟨m0, m1, mt⟩ := text_parse he
    obtain ⟨m, hm⟩ : ∃ m, m = (parseV s.data.toList).1 := ⟨_, rfl⟩
    rw [← hm] at m0 m1 mt
    have hp : parseV s.data.toList = (m, 0) := Prod.ext hm.symm he
    have hS2 : s = ⟨(textL m).toArray⟩ := ba_eq mt
    have HP := Lib.hid hp
    have HS2 := Lib.hid hS2
    clear he hm mt hp hS2
    go_wp2_with fail
    refine (parse_at rfl HP.out _ (hm0.below bw4 (Nat.le_refl _)) hs).mono ?_
    rintro e w5 ⟨rfl, b5⟩
    have bw5 := bw4.trans (b5.mono bw4.size)
    clear b5
    go_wp2_with fail
    refine (text_at HS2.out _ m0 m1 (h.below bw5 (Nat.le_refl _))).mono ?_
    rintro e w6 ⟨rfl, b6⟩
    have bw6 := bw5.trans (b6.mono bw5.size)
    clear b6
    go_wp2
    go_ret
    exact ⟨ret_bool (by simp), bw6⟩
  · have hp := parse_err he
    have HP := Lib.hid hp
    clear he hp
    go_wp2_with fail
    refine (parse_at rfl HP.out _ (hm0.below bw4 (Nat.le_refl _)) hs).mono ?_
    rintro e w5 ⟨rfl, b5⟩
    have bw5 := bw4.trans (b5.mono bw4.size)
    clear b5
    go_wp2
    go_ret
    exact ⟨rfl, bw5⟩

set_option maxHeartbeats 1000000 in
set_option maxRecDepth 100000 in
theorem texts_out (a b : Int) (s : ByteArray) (w : World) (h : PT w) (hm0 : MT w) (hs : s.size ≤ 40) (a0 : 0 ≤ a) (a1 : a ≤ 1000000) (b0 : b < 0 ∨ 1000000 < b) :
    Calls Tryd.prog 10 #[.int .i64 a, .int .i64 b, .string s] w fun e w' => e = .returned (.bool true) ∧ Below w.heap.size w w' := by
  have hs2 : decide (40 < s.size) = false := by simp; omega
  go_enter Tryd.func10, Tryd.ntmps10
  go_wp2_with fail
  refine (head_any _ h).mono ?_
  rintro e w1 ⟨rfl, bw1⟩
  obtain ⟨S, hS⟩ : ∃ S : ByteArray, S = ⟨(textL a).toArray⟩ := ⟨_, rfl⟩
  have hne := ba_ne (txt_size hS)
  have hz : ((S.size : Int) != 10) = false := by rw [bne_eq_false_iff_eq, txt_size hS]; rfl
  have HSZ := Lib.hid (txt_size hS)
  have HS := Lib.hid hS
  clear hS
  go_wp2_with fail
  refine (text_at HS.out _ a0 a1 (h.below bw1 (Nat.le_refl _))).mono ?_
  rintro e w2 ⟨rfl, b2⟩
  have bw2 := bw1.trans (b2.mono bw1.size)
  clear b2
  go_wp2_with fail
  refine (text_no b _ b0).mono ?_
  rintro e w3 ⟨rfl, b3⟩
  have bw3 := bw2.trans (b3.mono bw2.size)
  clear b3 b0
  go_wp2_with fail
  refine (parse_at (txt_list HS.out) (parse_text a0 a1) _ (hm0.below bw3 (Nat.le_refl _)) (by rw [HSZ.out]; omega)).mono ?_
  rintro e w4 ⟨rfl, b4⟩
  have bw4 := bw3.trans (b4.mono bw3.size)
  clear b4 bw3 bw2 bw1
  by_cases he : (parseV s.data.toList).2 = 0
  · obtain ⟨m0, m1, mt⟩ := text_parse he
    obtain ⟨m, hm⟩ : ∃ m, m = (parseV s.data.toList).1 := ⟨_, rfl⟩
    rw [← hm] at m0 m1 mt
    have hp : parseV s.data.toList = (m, 0) := Prod.ext hm.symm he
    have hS2 : s = ⟨(textL m).toArray⟩ := ba_eq mt
    have HP := Lib.hid hp
    have HS2 := Lib.hid hS2
    clear he hm mt hp hS2
    go_wp2_with fail
    refine (parse_at rfl HP.out _ (hm0.below bw4 (Nat.le_refl _)) hs).mono ?_
    rintro e w5 ⟨rfl, b5⟩
    have bw5 := bw4.trans (b5.mono bw4.size)
    clear b5
    go_wp2_with fail
    refine (text_at HS2.out _ m0 m1 (h.below bw5 (Nat.le_refl _))).mono ?_
    rintro e w6 ⟨rfl, b6⟩
    have bw6 := bw5.trans (b6.mono bw5.size)
    clear b6
    go_wp2
    go_ret
    exact ⟨ret_bool (by simp), bw6⟩
  · have hp := parse_err he
    have HP := Lib.hid hp
    clear he hp
    go_wp2_with fail
    refine (parse_at rfl HP.out _ (hm0.below bw4 (Nat.le_refl _)) hs).mono ?_
    rintro e w5 ⟨rfl, b5⟩
    have bw5 := bw4.trans (b5.mono bw4.size)
    clear b5
    go_wp2
    go_ret
    exact ⟨rfl, bw5⟩

set_option maxHeartbeats 1000000 in
set_option maxRecDepth 100000 in
theorem texts_in (a b : Int) (s : ByteArray) (w : World) (h : PT w) (hm0 : MT w) (hs : s.size ≤ 40) (a0 : 0 ≤ a) (a1 : a ≤ 1000000) (b0 : 0 ≤ b) (b1 : b ≤ 1000000) :
    Calls Tryd.prog 10 #[.int .i64 a, .int .i64 b, .string s] w fun e w' => e = .returned (.bool true) ∧ Below w.heap.size w w' := by
  have hs2 : decide (40 < s.size) = false := by simp; omega
  go_enter Tryd.func10, Tryd.ntmps10
  go_wp2_with fail
  refine (head_any _ h).mono ?_
  rintro e w1 ⟨rfl, bw1⟩
  obtain ⟨S, hS⟩ : ∃ S : ByteArray, S = ⟨(textL a).toArray⟩ := ⟨_, rfl⟩
  have hne := ba_ne (txt_size hS)
  have hz : ((S.size : Int) != 10) = false := by rw [bne_eq_false_iff_eq, txt_size hS]; rfl
  have HSZ := Lib.hid (txt_size hS)
  have HS := Lib.hid hS
  clear hS
  go_wp2_with fail
  refine (text_at HS.out _ a0 a1 (h.below bw1 (Nat.le_refl _))).mono ?_
  rintro e w2 ⟨rfl, b2⟩
  have bw2 := bw1.trans (b2.mono bw1.size)
  clear b2
  obtain ⟨T, hT⟩ : ∃ T : ByteArray, T = ⟨(textL b).toArray⟩ := ⟨_, rfl⟩
  have hne2 := ba_ne (txt_size hT)
  have hless := txt_less HS.out hT a0 a1 b0 b1
  have HT := Lib.hid hT
  clear hT
  go_wp2_with fail
  refine (text_at HT.out _ b0 b1 (h.below bw2 (Nat.le_refl _))).mono ?_
  rintro e w3 ⟨rfl, b3⟩
  have bw3 := bw2.trans (b3.mono bw2.size)
  clear b3 HT
  go_wp2_with fail
  refine (parse_at (txt_list HS.out) (parse_text a0 a1) _ (hm0.below bw3 (Nat.le_refl _)) (by rw [HSZ.out]; omega)).mono ?_
  rintro e w4 ⟨rfl, b4⟩
  have bw4 := bw3.trans (b4.mono bw3.size)
  clear b4 bw3 bw2 bw1
  by_cases he : (parseV s.data.toList).2 = 0
  · obtain ⟨m0, m1, mt⟩ := text_parse he
    obtain ⟨m, hm⟩ : ∃ m, m = (parseV s.data.toList).1 := ⟨_, rfl⟩
    rw [← hm] at m0 m1 mt
    have hp : parseV s.data.toList = (m, 0) := Prod.ext hm.symm he
    have hS2 : s = ⟨(textL m).toArray⟩ := ba_eq mt
    have HP := Lib.hid hp
    have HS2 := Lib.hid hS2
    clear he hm mt hp hS2
    go_wp2_with fail
    refine (parse_at rfl HP.out _ (hm0.below bw4 (Nat.le_refl _)) hs).mono ?_
    rintro e w5 ⟨rfl, b5⟩
    have bw5 := bw4.trans (b5.mono bw4.size)
    clear b5
    go_wp2_with fail
    refine (text_at HS2.out _ m0 m1 (h.below bw5 (Nat.le_refl _))).mono ?_
    rintro e w6 ⟨rfl, b6⟩
    have bw6 := bw5.trans (b6.mono bw5.size)
    clear b6
    go_wp2
    go_ret
    exact ⟨ret_bool (by simp), bw6⟩
  · have hp := parse_err he
    have HP := Lib.hid hp
    clear he hp
    go_wp2_with fail
    refine (parse_at rfl HP.out _ (hm0.below bw4 (Nat.le_refl _)) hs).mono ?_
    rintro e w5 ⟨rfl, b5⟩
    have bw5 := bw4.trans (b5.mono bw4.size)
    clear b5
    go_wp2
    go_ret
    exact ⟨rfl, bw5⟩

theorem texts_card (a b : Int) (s : ByteArray) (w : World) (h : PT w) (hm : MT w) (_ : -9223372036854775808 ≤ a ∧ a ≤ 9223372036854775807) (_ : -9223372036854775808 ≤ b ∧ b ≤ 9223372036854775807) (_ : s.size ≤ maxLen) :
    Calls Tryd.prog 10 #[.int .i64 a, .int .i64 b, .string s] w fun e w' => e = .returned (.bool true) ∧ Below w.heap.size w w' := by
  by_cases hl : 40 < s.size
  · exact texts_long a b s w h hl
  · by_cases a0 : a < 0
    · exact texts_lo a b s w h hm (by omega) a0
    · by_cases a1 : 1000000 < a
      · exact texts_hi a b s w h hm (by omega) (by omega) a1
      · by_cases b0 : b < 0 ∨ 1000000 < b
        · exact texts_out a b s w h hm (by omega) (by omega) (by omega) b0
        · exact texts_in a b s w h hm (by omega) (by omega) (by omega) (by omega) (by omega)

end Go.Proofs.YtpelnfolnlmhdaaDoor
