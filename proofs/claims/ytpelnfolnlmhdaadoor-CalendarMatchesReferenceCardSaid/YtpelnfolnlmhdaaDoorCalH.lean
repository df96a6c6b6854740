/- WALKS of the calendar: Add. -/
import Derived.Test.YtpelnfolnlmhdaaDoorCalG
namespace Go.Proofs.YtpelnfolnlmhdaaDoor
open Go.RowKit Go.Maps
open Cal

theorem add_arg (day N U : Int) (v : Value) (w : World) (h : ¬ argOk day N U) :
    Calls Tryd.prog 12 #[.int .i64 day, .agg #[.int .i64 N, .int .i64 U], v] w fun e w' => e = .returned (.tuple #[.int .i64 0, .int .i64 1]) ∧ Below w.heap.size w w' := by
  have hbw : Below w.heap.size w ((w.alloc (.cells #[.int .i64 day] 3)).alloc (.cells #[.int .i64 N, .int .i64 U] 29)) := ((Below.refl _ _).alloc (Nat.le_refl _) _).alloc (by simp) _
  by_cases h1 : day < 0 ∨ 1000000 < day
  · go_enter Tryd.func12, Tryd.ntmps12
    go_wp2_with (go_at_call 30; refine (is_no _ _ h1).mono ?_; rintro e w' ⟨rfl, rfl⟩)
    go_ret2
    exact ⟨rfl, hbw⟩
  · have h0 : 0 ≤ day := by omega
    have h0' : day ≤ 1000000 := by omega
    clear h1
    by_cases h2 : U < 1
    · clear h
      go_enter Tryd.func12, Tryd.ntmps12
      go_wp2_with (go_at_call 30; refine (is_yes _ _ h0 h0').mono ?_; rintro e w' ⟨rfl, rfl⟩)
      go_ret2
      exact ⟨rfl, hbw⟩
    · have h2' : decide (U < 1) = false := by simp; omega
      by_cases h3 : 5 < U
      · clear h
        go_enter Tryd.func12, Tryd.ntmps12
        go_wp2_with (go_at_call 30; refine (is_yes _ _ h0 h0').mono ?_; rintro e w' ⟨rfl, rfl⟩)
        go_ret2
        exact ⟨rfl, hbw⟩
      · have h3' : decide (5 < U) = false := by simp; omega
        by_cases h4 : N < 0
        · clear h
          go_enter Tryd.func12, Tryd.ntmps12
          go_wp2_with (go_at_call 30; refine (is_yes _ _ h0 h0').mono ?_; rintro e w' ⟨rfl, rfl⟩)
          go_ret2
          exact ⟨rfl, hbw⟩
        · have h4' : decide (N < 0) = false := by simp; omega
          have h5 : 1000000 < N := by unfold argOk at h; omega
          clear h
          go_enter Tryd.func12, Tryd.ntmps12
          go_wp2_with (go_at_call 30; refine (is_yes _ _ h0 h0').mono ?_; rintro e w' ⟨rfl, rfl⟩)
          go_ret2
          exact ⟨rfl, hbw⟩

theorem add_limit (day N U : Int) (v : Value) (L : List Int) (w : World) (h : argOk day N U) (hv : RI w w.heap.size v L) (hl : 1000 < L.length) :
    Calls Tryd.prog 12 #[.int .i64 day, .agg #[.int .i64 N, .int .i64 U], v] w fun e w' => e = .returned (.tuple #[.int .i64 0, .int .i64 2]) ∧ Below w.heap.size w w' := by
  have hbw : Below w.heap.size w ((w.alloc (.cells #[.int .i64 day] 3)).alloc (.cells #[.int .i64 N, .int .i64 U] 29)) := ((Below.refl _ _).alloc (Nat.le_refl _) _).alloc (by simp) _
  obtain ⟨h0, h0', u0, u1, n0, n1⟩ := h
  obtain ⟨A, cap, rfl, hlen, _, _⟩ := hv
  have h2' : decide (U < 1) = false := by simp; omega
  have h3' : decide (5 < U) = false := by simp; omega
  have h4' : decide (N < 0) = false := by simp; omega
  have h5' : decide (1000000 < N) = false := by simp; omega
  go_enter Tryd.func12, Tryd.ntmps12
  go_wp2_with (go_at_call 30; refine (is_yes _ _ h0 h0').mono ?_; rintro e w' ⟨rfl, rfl⟩)
  go_ret2
  exact ⟨rfl, hbw⟩

end Go.Proofs.YtpelnfolnlmhdaaDoor
