/- WALKS of the calendar's small functions: is, leap, days, Weekday. -/
import Derived.Test.YtpelnfolnlmhdaaDoorRows
import Derived.WalkKit
import Derived.Lib.Hide
import Derived.Test.YtpelnfolnlmhdaaDoorCalPlain
namespace Go.Proofs.YtpelnfolnlmhdaaDoor
open Go.RowKit
open Cal

theorem ret_int {k : IntKind} {a b : Int} (h : a = b) : Ending.returned (.int k a) = .returned (.int k b) := by rw [h]

theorem ret2_int {k k' : IntKind} {a b c d : Int} (h : a = b) (h' : c = d) : Ending.returned (.tuple #[.int k a, .int k' c]) = .returned (.tuple #[.int k b, .int k' d]) := by rw [h, h']

theorem is_yes (n : Int) (w : World) (h0 : 0 ≤ n) (h1 : n ≤ 1000000) :
    Calls Tryd.prog 30 #[.int .i64 n] w fun e w' => e = .returned (.bool true) ∧ w = w' := by
  go_enter Tryd.func30, Tryd.ntmps30
  go_wp2
  go_ret
  exact ⟨rfl, rfl⟩

theorem is_no (n : Int) (w : World) (h : n < 0 ∨ 1000000 < n) :
    Calls Tryd.prog 30 #[.int .i64 n] w fun e w' => e = .returned (.bool false) ∧ w = w' := by
  rcases h with h | h
  · go_enter Tryd.func30, Tryd.ntmps30
    go_wp2
    go_ret
    exact ⟨rfl, rfl⟩
  · have h0 : 0 ≤ n := by omega
    have h2 : decide (n ≤ 1000000) = false := by simp; omega
    go_enter Tryd.func30, Tryd.ntmps30
    go_wp2
    go_ret
    exact ⟨rfl, rfl⟩

theorem leap_any (y : Int) (w : World) (h0 : 0 ≤ y) :
    Calls Tryd.prog 50 #[.int .i64 y] w fun e w' => e = .returned (.bool (lpB y)) ∧ w = w' := by
  by_cases h4 : y % 4 = 0
  · by_cases h100 : y % 100 = 0
    · by_cases h400 : y % 400 = 0
      · have hb : lpB y = true := by unfold lpB; simp; omega
        rw [hb]
        go_enter Tryd.func50, Tryd.ntmps50
        go_wp2
        go_ret
        exact ⟨rfl, rfl⟩
      · have hb : lpB y = false := by unfold lpB; simp; omega
        have h4b : (y % 400 == 0) = false := by simp; omega
        rw [hb]
        go_enter Tryd.func50, Tryd.ntmps50
        go_wp2
        go_ret
        exact ⟨rfl, rfl⟩
    · have hb : lpB y = true := by unfold lpB; simp; omega
      rw [hb]
      go_enter Tryd.func50, Tryd.ntmps50
      go_wp2
      go_ret
      exact ⟨rfl, rfl⟩
  · have hb : lpB y = false := by unfold lpB; simp; omega
    have h4b : (y % 4 == 0) = false := by simp; omega
    have h4c : (y % 400 == 0) = false := by simp; omega
    rw [hb]
    go_enter Tryd.func50, Tryd.ntmps50
    go_wp2
    go_ret
    exact ⟨rfl, rfl⟩

/-- some Bool, the world as it was -/
def SomeB (w : World) (e : Ending) (w' : World) : Prop := ∃ b : Bool, e = .returned (.bool b) ∧ w = w'

theorem leap_neg (y : Int) (w : World) : Calls Tryd.prog 50 #[.int .i64 y] w (SomeB w) := by
  go_enter Tryd.func50, Tryd.ntmps50
  go_wp2
  all_goals go_ret
  all_goals exact ⟨_, rfl, rfl⟩

theorem days_any (y : Int) (w : World) (h0 : 0 ≤ y) :
    Calls Tryd.prog 38 #[.int .i64 y] w fun e w' => e = .returned (.int .i64 (ylen y)) ∧ w = w' := by
  cases hl : lpB y
  · have hy : ylen y = 365 := by simp [ylen, hl]
    rw [hy]
    go_enter Tryd.func38, Tryd.ntmps38
    go_wp2_with (go_at_call 50; refine (leap_any _ _ h0).mono ?_; rintro e w' ⟨rfl, rfl⟩)
    go_ret
    exact ⟨rfl, rfl⟩
  · have hy : ylen y = 366 := by simp [ylen, hl]
    rw [hy]
    go_enter Tryd.func38, Tryd.ntmps38
    go_wp2_with (go_at_call 50; refine (leap_any _ _ h0).mono ?_; rintro e w' ⟨rfl, rfl⟩)
    go_ret
    exact ⟨rfl, rfl⟩

theorem weekday_yes (n : Int) (w : World) (h0 : 0 ≤ n) (h1 : n ≤ 1000000) :
    Calls Tryd.prog 16 #[.int .i64 n] w fun e w' => e = .returned (.int .i64 ((n + 5) % 7)) ∧ w = w' := by
  go_enter Tryd.func16, Tryd.ntmps16
  go_wp2_with (go_at_call 30; refine (is_yes _ _ h0 h1).mono ?_; rintro e w' ⟨rfl, rfl⟩)
  go_ret
  exact ⟨rfl, rfl⟩
theorem weekday_no (n : Int) (w : World) (h : n < 0 ∨ 1000000 < n) :
    Calls Tryd.prog 16 #[.int .i64 n] w fun e w' => e = .returned (.int .i64 (-1)) ∧ w = w' := by
  go_enter Tryd.func16, Tryd.ntmps16
  go_wp2_with (go_at_call 30; refine (is_no _ _ h).mono ?_; rintro e w' ⟨rfl, rfl⟩)
  go_ret
  exact ⟨rfl, rfl⟩
end Go.Proofs.YtpelnfolnlmhdaaDoor
