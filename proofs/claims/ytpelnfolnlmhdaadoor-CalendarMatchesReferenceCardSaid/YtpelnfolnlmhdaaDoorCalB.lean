/- WALKS of the calendar: the months of a year, its first day. -/
import Derived.Test.YtpelnfolnlmhdaaDoorCalA
namespace Go.Proofs.YtpelnfolnlmhdaaDoor
open Go.RowKit
open Cal

/-- the array of a year's months -/
def marr (y : Int) : Value := .agg #[.int .i64 31, .int .i64 (feb y), .int .i64 31, .int .i64 30, .int .i64 31, .int .i64 30, .int .i64 31, .int .i64 31, .int .i64 30, .int .i64 31, .int .i64 30, .int .i64 31]
theorem marr_29 {y : Int} (h : feb y = 29) : marr y = .agg #[.int .i64 31, .int .i64 29, .int .i64 31, .int .i64 30, .int .i64 31, .int .i64 30, .int .i64 31, .int .i64 31, .int .i64 30, .int .i64 31, .int .i64 30, .int .i64 31] := by rw [marr, h]
theorem marr_28 {y : Int} (h : feb y = 28) : marr y = .agg #[.int .i64 31, .int .i64 28, .int .i64 31, .int .i64 30, .int .i64 31, .int .i64 30, .int .i64 31, .int .i64 31, .int .i64 30, .int .i64 31, .int .i64 30, .int .i64 31] := by rw [marr, h]

set_option maxHeartbeats 400000 in
theorem months_any (y : Int) (w : World) :
    Calls Tryd.prog 36 #[.int .i64 y] w fun e w' => e = .returned (marr y) ∧ Below w.heap.size w w' := by
  by_cases hneg : y < 0
  · rw [marr_29 (show feb y = 29 by unfold feb; rw [if_pos (.inr (.inl (by omega)))])]
    go_enter Tryd.func36, Tryd.ntmps36
    go_wp2_with (go_at_call 50; refine (leap_neg _ _).mono ?_; rintro e w' ⟨b, rfl, rfl⟩; cases b)
    all_goals
      refine bodyPost_ret (v := .agg #[.int .i64 31, .int .i64 29, .int .i64 31, .int .i64 30, .int .i64 31, .int .i64 30, .int .i64 31, .int .i64 31, .int .i64 30, .int .i64 31, .int .i64 30, .int .i64 31]) (by simp [results, Tryd.results36, go_sem]) rfl ⟨rfl, ?_⟩
      exact ((Below.refl _ _).alloc (Nat.le_refl _) _).alloc (by simp) _
  · have h0 : 0 ≤ y := by omega
    cases hl : lpB y
    · have HL := Lib.hid hl; clear hl
      by_cases hlo : y < 1600
      · rw [marr_29 (show feb y = 29 by unfold feb; rw [if_pos (.inr (.inl (by omega)))])]
        go_enter Tryd.func36, Tryd.ntmps36
        go_wp2_with (go_at_call 50; refine (leap_any _ _ h0).mono ?_; rintro e w' ⟨rfl, rfl⟩; rw [HL.out])
        refine bodyPost_ret (v := .agg #[.int .i64 31, .int .i64 29, .int .i64 31, .int .i64 30, .int .i64 31, .int .i64 30, .int .i64 31, .int .i64 31, .int .i64 30, .int .i64 31, .int .i64 30, .int .i64 31]) (by simp [results, Tryd.results36, go_sem]) rfl ⟨rfl, ?_⟩
        exact ((Below.refl _ _).alloc (Nat.le_refl _) _).alloc (by simp) _
      · by_cases hhi : 9999 < y
        · rw [marr_29 (show feb y = 29 by unfold feb; rw [if_pos (.inr (.inr (by omega)))])]
          go_enter Tryd.func36, Tryd.ntmps36
          go_wp2_with (go_at_call 50; refine (leap_any _ _ h0).mono ?_; rintro e w' ⟨rfl, rfl⟩; rw [HL.out])
          refine bodyPost_ret (v := .agg #[.int .i64 31, .int .i64 29, .int .i64 31, .int .i64 30, .int .i64 31, .int .i64 30, .int .i64 31, .int .i64 31, .int .i64 30, .int .i64 31, .int .i64 30, .int .i64 31]) (by simp [results, Tryd.results36, go_sem]) rfl ⟨rfl, ?_⟩
          exact ((Below.refl _ _).alloc (Nat.le_refl _) _).alloc (by simp) _
        · rw [marr_28 (show feb y = 28 by unfold feb; rw [if_neg (by rw [HL.out]; rintro (h | h | h) <;> first | cases h | omega)])]
          have hd : decide (9999 < y) = false := by simp; omega
          go_enter Tryd.func36, Tryd.ntmps36
          go_wp2_with (go_at_call 50; refine (leap_any _ _ h0).mono ?_; rintro e w' ⟨rfl, rfl⟩; rw [HL.out])
          refine bodyPost_ret (v := .agg #[.int .i64 31, .int .i64 28, .int .i64 31, .int .i64 30, .int .i64 31, .int .i64 30, .int .i64 31, .int .i64 31, .int .i64 30, .int .i64 31, .int .i64 30, .int .i64 31]) (by simp [results, Tryd.results36, go_sem]) rfl ⟨rfl, ?_⟩
          exact ((Below.refl _ _).alloc (Nat.le_refl _) _).alloc (by simp) _
    · rw [marr_29 (show feb y = 29 by unfold feb; rw [if_pos (.inl hl)])]
      have HL := Lib.hid hl; clear hl
      go_enter Tryd.func36, Tryd.ntmps36
      go_wp2_with (go_at_call 50; refine (leap_any _ _ h0).mono ?_; rintro e w' ⟨rfl, rfl⟩; rw [HL.out])
      refine bodyPost_ret (v := .agg #[.int .i64 31, .int .i64 29, .int .i64 31, .int .i64 30, .int .i64 31, .int .i64 30, .int .i64 31, .int .i64 31, .int .i64 30, .int .i64 31, .int .i64 30, .int .i64 31]) (by simp [results, Tryd.results36, go_sem]) rfl ⟨rfl, ?_⟩
      exact ((Below.refl _ _).alloc (Nat.le_refl _) _).alloc (by simp) _

theorem begin_any (y : Int) (w : World) (h0 : 1600 ≤ y) (h1 : y ≤ 9999) :
    Calls Tryd.prog 37 #[.int .i64 y] w fun e w' => e = .returned (.int .i64 (byr y)) ∧ w = w' := by
  go_enter Tryd.func37, Tryd.ntmps37
  go_wp2
  go_loop [3, 4] (fun n x => ∃ k : Int, 1600 ≤ k ∧ k ≤ y ∧ x = .int .i64 k ∧ n = .int .i64 (byr k)) (fun _ x => (y - intOf x).toNat)
  case atStart => exact ⟨1600, by omega, by omega, rfl, by rw [byr_1600]⟩
  case round =>
    obtain ⟨k, hk0, hk1, rfl, rfl⟩ := hrel
    have hb0 := byr_nonneg hk0
    have hb1 := byr_hi (a := k) (by omega)
    by_cases hlt : k < y
    · by_cases h4 : k % 400 = 0
      · by_cases h5 : k + 400 ≤ y
        · go_wp2
          go_round
          case rel => exact ⟨k + 400, by omega, by omega, rfl, by rw [byr_400]⟩
          case measure => simp [intOf]; omega
        · have hd : decide (k + 400 ≤ y) = false := by simp; omega
          have hyl := ylen_bd k
          go_wp2_with (go_at_call 38; refine (days_any _ _ (by omega)).mono ?_; rintro e w' ⟨rfl, rfl⟩)
          go_round
          case rel => exact ⟨k + 1, by omega, by omega, rfl, by rw [byr_succ]⟩
          case measure => simp [intOf]; omega
      · have h4b : (k % 400 == 0) = false := by simp; omega
        have hyl := ylen_bd k
        go_wp2_with (go_at_call 38; refine (days_any _ _ (by omega)).mono ?_; rintro e w' ⟨rfl, rfl⟩)
        go_round
        case rel => exact ⟨k + 1, by omega, by omega, rfl, by rw [byr_succ]⟩
        case measure => simp [intOf]; omega
    · go_wp2
      go_ret
      exact ⟨ret_int (by rw [show y = k by omega]), rfl⟩

end Go.Proofs.YtpelnfolnlmhdaaDoor
