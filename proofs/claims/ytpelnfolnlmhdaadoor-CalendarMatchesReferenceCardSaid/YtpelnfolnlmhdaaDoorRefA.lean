/- WALKS of the reference's small functions: Leap, Length, before, Is, Weekday. -/
import Derived.Test.YtpelnfolnlmhdaaDoorCalA
import Derived.Test.YtpelnfolnlmhdaaDoorCalPlainC
namespace Go.Proofs.YtpelnfolnlmhdaaDoor
open Go.RowKit
open Cal

theorem rleap_any (y : Int) (w : World) (h0 : 0 ≤ y) :
    Calls Tryd.prog 51 #[.int .i64 y] w fun e w' => e = .returned (.bool (lpB y)) ∧ w = w' := by
  by_cases h4 : y % 4 = 0
  · by_cases h100 : y % 100 = 0
    · by_cases h400 : y % 400 = 0
      · have hb : lpB y = true := by unfold lpB; simp; omega
        rw [hb]
        go_enter Tryd.func51, Tryd.ntmps51
        go_wp2
        go_ret
        exact ⟨rfl, rfl⟩
      · have hb : lpB y = false := by unfold lpB; simp; omega
        have h4b : (y % 400 == 0) = false := by simp; omega
        rw [hb]
        go_enter Tryd.func51, Tryd.ntmps51
        go_wp2
        go_ret
        exact ⟨rfl, rfl⟩
    · have hb : lpB y = true := by unfold lpB; simp; omega
      have h1b : (y % 100 != 0) = true := by simp; omega
      rw [hb]
      go_enter Tryd.func51, Tryd.ntmps51
      go_wp2
      go_ret
      exact ⟨rfl, rfl⟩
  · have hb : lpB y = false := by unfold lpB; simp; omega
    have h4b : (y % 4 == 0) = false := by simp; omega
    have h4c : (y % 400 == 0) = false := by simp; omega
    rw [hb]
    go_enter Tryd.func51, Tryd.ntmps51
    go_wp2
    go_ret
    exact ⟨rfl, rfl⟩

theorem rleap_some (y : Int) (w : World) : Calls Tryd.prog 51 #[.int .i64 y] w (SomeB w) := by
  go_enter Tryd.func51, Tryd.ntmps51
  go_wp2
  all_goals go_ret
  all_goals exact ⟨_, rfl, rfl⟩

theorem mlen_other {y m : Int} (h : m ≠ 2) : mlen y m = mlen 0 m := by unfold mlen; rw [if_neg h, if_neg h]

theorem rlen_two (y : Int) (w : World) :
    Calls Tryd.prog 39 #[.int .i64 y, .int .i64 2] w fun e w' => e = .returned (.int .i64 (mlen y 2)) ∧ Below w.heap.size w w' := by
  by_cases hy : y < 1600
  · have hm : mlen y 2 = 29 := by unfold mlen feb; rw [if_pos rfl, if_pos (.inr (.inl hy))]
    rw [hm]
    go_enter Tryd.func39, Tryd.ntmps39
    go_wp2_with fail
    refine (rleap_some _ _).mono ?_
    rintro e w' ⟨b, rfl, rfl⟩
    cases b
    all_goals go_wp2
    all_goals go_ret
    all_goals exact ⟨rfl, Below.refl _ _⟩
  · have hy0 : 0 ≤ y := by omega
    by_cases hy2 : 9999 < y
    · have hm : mlen y 2 = 29 := by unfold mlen feb; rw [if_pos rfl, if_pos (.inr (.inr hy2))]
      rw [hm]
      go_enter Tryd.func39, Tryd.ntmps39
      go_wp2_with fail
      refine (rleap_some _ _).mono ?_
      rintro e w' ⟨b, rfl, rfl⟩
      have h1 : 1600 ≤ y := by omega
      cases b
      all_goals go_wp2
      all_goals go_ret
      all_goals exact ⟨rfl, Below.refl _ _⟩
    · have hy1b : decide (y < 1600) = false := by simp; omega
      have hy2b : decide (9999 < y) = false := by simp; omega
      cases hl : lpB y with
      | true =>
        have hm : mlen y 2 = 29 := by unfold mlen feb; rw [if_pos rfl, if_pos (.inl hl)]
        rw [hm]
        have HL := Lib.hid hl
        clear hl
        go_enter Tryd.func39, Tryd.ntmps39
        go_wp2_with fail
        refine (rleap_any _ _ hy0).mono ?_
        rintro e w' ⟨rfl, rfl⟩
        rw [HL.out]
        go_wp2
        go_ret
        exact ⟨rfl, Below.refl _ _⟩
      | false =>
        have hm : mlen y 2 = 28 := by
          unfold mlen feb; rw [if_pos rfl, if_neg]
          rintro (h | h | h)
          · rw [hl] at h; exact absurd h (by decide)
          · omega
          · omega
        rw [hm]
        have HL := Lib.hid hl
        clear hl
        go_enter Tryd.func39, Tryd.ntmps39
        go_wp2_with fail
        refine (rleap_any _ _ hy0).mono ?_
        rintro e w' ⟨rfl, rfl⟩
        rw [HL.out]
        go_wp2
        go_ret
        exact ⟨rfl, (Below.refl _ _).alloc (Nat.le_refl _) _⟩

set_option maxHeartbeats 4000000 in
theorem rlen_any (y m : Int) (w : World) (h1 : 1 ≤ m) (h2 : m ≤ 12) :
    Calls Tryd.prog 39 #[.int .i64 y, .int .i64 m] w fun e w' => e = .returned (.int .i64 (mlen y m)) ∧ Below w.heap.size w w' := by
  by_cases h : m = 2
  · subst h; exact rlen_two y w
  · rw [mlen_other h]
    rcases m12 h1 h2 with rfl | rfl | rfl | rfl | rfl | rfl | rfl | rfl | rfl | rfl | rfl | rfl
    · go_enter Tryd.func39, Tryd.ntmps39
      go_wp2
      go_ret
      exact ⟨rfl, (Below.refl _ _).alloc (Nat.le_refl _) _⟩
    · exact absurd rfl h
    all_goals
      go_enter Tryd.func39, Tryd.ntmps39
      go_wp2
      go_ret
      exact ⟨rfl, (Below.refl _ _).alloc (Nat.le_refl _) _⟩

theorem before_any (y : Int) (w : World) (h0 : 1600 ≤ y) (h1 : y ≤ 10000) :
    Calls Tryd.prog 40 #[.int .i64 y] w fun e w' => e = .returned (.int .i64 (byr y)) ∧ w = w' := by
  go_enter Tryd.func40, Tryd.ntmps40
  go_wp2
  go_ret
  exact ⟨ret_int (by unfold byr; omega), rfl⟩

theorem ris_any (n : Int) (w : World) :
    Calls Tryd.prog 41 #[.int .i64 n] w fun e w' => e = .returned (.bool (decide (0 ≤ n ∧ n ≤ 1000000))) ∧ w = w' := by
  by_cases h0 : 0 ≤ n
  · by_cases h1 : n ≤ 1000000
    · have hb : decide (0 ≤ n ∧ n ≤ 1000000) = true := by simp; omega
      rw [hb]
      go_enter Tryd.func41, Tryd.ntmps41
      go_wp2
      go_ret
      exact ⟨rfl, rfl⟩
    · have hb : decide (0 ≤ n ∧ n ≤ 1000000) = false := by simp; omega
      have h2 : decide (n ≤ 1000000) = false := by simp; omega
      rw [hb]
      go_enter Tryd.func41, Tryd.ntmps41
      go_wp2
      go_ret
      exact ⟨rfl, rfl⟩
  · have hb : decide (0 ≤ n ∧ n ≤ 1000000) = false := by simp; omega
    have h2 : decide (0 ≤ n) = false := by simp; omega
    rw [hb]
    go_enter Tryd.func41, Tryd.ntmps41
    go_wp2
    go_ret
    exact ⟨rfl, rfl⟩
theorem ris_yes (n : Int) (w : World) (h0 : 0 ≤ n) (h1 : n ≤ 1000000) :
    Calls Tryd.prog 41 #[.int .i64 n] w fun e w' => e = .returned (.bool true) ∧ w = w' := by
  have := ris_any n w
  rwa [show decide (0 ≤ n ∧ n ≤ 1000000) = true by simp; omega] at this
theorem ris_no (n : Int) (w : World) (h : n < 0 ∨ 1000000 < n) :
    Calls Tryd.prog 41 #[.int .i64 n] w fun e w' => e = .returned (.bool false) ∧ w = w' := by
  have := ris_any n w
  rwa [show decide (0 ≤ n ∧ n ≤ 1000000) = false by simp; omega] at this

theorem rweekday_yes (n : Int) (w : World) (h0 : 0 ≤ n) (h1 : n ≤ 1000000) :
    Calls Tryd.prog 28 #[.int .i64 n] w fun e w' => e = .returned (.int .i64 ((n + 5) % 7)) ∧ w = w' := by
  go_enter Tryd.func28, Tryd.ntmps28
  go_wp2_with (go_at_call 41; refine (ris_yes _ _ h0 h1).mono ?_; rintro e w' ⟨rfl, rfl⟩)
  go_ret
  exact ⟨rfl, rfl⟩
theorem rweekday_no (n : Int) (w : World) (h : n < 0 ∨ 1000000 < n) :
    Calls Tryd.prog 28 #[.int .i64 n] w fun e w' => e = .returned (.int .i64 (-1)) ∧ w = w' := by
  go_enter Tryd.func28, Tryd.ntmps28
  go_wp2_with (go_at_call 41; refine (ris_no _ _ h).mono ?_; rintro e w' ⟨rfl, rfl⟩)
  go_ret
  exact ⟨rfl, rfl⟩
end Go.Proofs.YtpelnfolnlmhdaaDoor
