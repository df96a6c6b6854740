/- WALKS of the calendar: Day. -/
import Derived.Test.YtpelnfolnlmhdaaDoorCalB
namespace Go.Proofs.YtpelnfolnlmhdaaDoor
open Go.RowKit
open Cal

theorem index_marr (y m : Int) (h1 : 1 ≤ m) (h2 : m ≤ 12) (w : World) : (Instr.index 56 (marr y) (.int .i64 (m - 1))).run Tryd.prog w = .ok (.int .i64 (mlen y m)) w := by
  rcases m12 h1 h2 with rfl | rfl | rfl | rfl | rfl | rfl | rfl | rfl | rfl | rfl | rfl | rfl <;> simp [mlen] <;> kernel_rfl

theorem slice_arr (a : Addr) (n : Int) (h0 : 0 ≤ n) (h1 : n ≤ 12) (w : World) :
    (Instr.sliceAt 56 (.pointer (some a)) none (some (.int .i64 n)) none).run Tryd.prog w = .ok (.slice (some a) n.toNat 12) w := by
  have h := run_sliceAt_array_h (P := Tryd.prog) w 56 a (by kernel_rfl) .i64 n h0 (by rw [show Tryd.prog.arrayLen 56 = 12 by kernel_rfl]; omega)
  rw [h]
  have hz : (sizeOf (Tryd.prog.elem 56)).run Tryd.prog w = .ok 1 w := by kernel_rfl
  rw [hz]
  show Result.ok (slicedAt a 0 n.toNat (Tryd.prog.arrayLen 56) 1) w = _
  rw [show Tryd.prog.arrayLen 56 = 12 by kernel_rfl]
  rfl

theorem cell_marr (w : World) (y : Int) (k : Nat) (hk : k < 12) :
    (w.alloc (.cells #[.int .i64 31, .int .i64 (feb y), .int .i64 31, .int .i64 30, .int .i64 31, .int .i64 30, .int .i64 31, .int .i64 31, .int .i64 30, .int .i64 31, .int .i64 30, .int .i64 31] 56)).cell? ⟨w.heap.size, k, none⟩ = some (.int .i64 (mlen y (k + 1))) := by
  have h : k = 0 ∨ k = 1 ∨ k = 2 ∨ k = 3 ∨ k = 4 ∨ k = 5 ∨ k = 6 ∨ k = 7 ∨ k = 8 ∨ k = 9 ∨ k = 10 ∨ k = 11 := by omega
  rcases h with rfl | rfl | rfl | rfl | rfl | rfl | rfl | rfl | rfl | rfl | rfl | rfl <;> simp [mlen, go_sem]

theorem day_arg (y m d : Int) (w : World) (h : m < 1 ∨ 12 < m ∨ d < 1 ∨ mlen y m < d) :
    Calls Tryd.prog 14 #[.int .i64 y, .int .i64 m, .int .i64 d] w fun e w' => e = .returned (.tuple #[.int .i64 0, .int .i64 1]) ∧ Below w.heap.size w w' := by
  by_cases h1 : m < 1
  · clear h
    go_enter Tryd.func14, Tryd.ntmps14
    go_wp2
    go_ret2
    exact ⟨rfl, Below.refl _ _⟩
  · by_cases h2 : 12 < m
    · clear h
      go_enter Tryd.func14, Tryd.ntmps14
      go_wp2
      go_ret2
      exact ⟨rfl, Below.refl _ _⟩
    · have h2b : decide (12 < m) = false := by simp; omega
      by_cases h3 : d < 1
      · clear h
        go_enter Tryd.func14, Tryd.ntmps14
        go_wp2
        go_ret2
        exact ⟨rfl, Below.refl _ _⟩
      · have h4 : mlen y m < d := by omega
        have h3b : decide (d < 1) = false := by simp; omega
        have h1' : 1 ≤ m := by omega
        have h2' : m ≤ 12 := by omega
        clear h
        have hix := index_marr y m h1' h2'
        go_enter Tryd.func14, Tryd.ntmps14
        go_wp2_with (go_at_call 36; refine (months_any _ _).mono ?_; rintro e w' ⟨rfl, hb⟩)
        go_ret2
        exact ⟨rfl, ‹_›⟩

theorem day_range (y m d : Int) (w : World) (h1 : 1 ≤ m) (h2 : m ≤ 12) (h3 : 1 ≤ d) (h4 : d ≤ mlen y m) (h : y < 1600 ∨ 9999 < y) :
    Calls Tryd.prog 14 #[.int .i64 y, .int .i64 m, .int .i64 d] w fun e w' => e = .returned (.tuple #[.int .i64 0, .int .i64 10]) ∧ Below w.heap.size w w' := by
  have h2b : decide (12 < m) = false := by simp; omega
  have h3b : decide (d < 1) = false := by simp; omega
  have h4b : decide (mlen y m < d) = false := by simp; omega
  have hix := index_marr y m h1 h2
  rcases h with h | h
  all_goals
    go_enter Tryd.func14, Tryd.ntmps14
    go_wp2_with (go_at_call 36; refine (months_any _ _).mono ?_; rintro e w' ⟨rfl, hb⟩)
    go_ret2
    exact ⟨rfl, ‹_›⟩

set_option maxHeartbeats 400000 in
set_option maxRecDepth 100000 in
theorem day_num (y m d : Int) (w : World) (h1 : 1 ≤ m) (h2 : m ≤ 12) (h3 : 1 ≤ d) (h4 : d ≤ mlen y m) (h5 : 1600 ≤ y) (h6 : y ≤ 9999) :
    Calls Tryd.prog 14 #[.int .i64 y, .int .i64 m, .int .i64 d] w fun e w' => e = .returned (.tuple #[.int .i64 (dayV y m d).1, .int .i64 (dayV y m d).2]) ∧ Below w.heap.size w w' := by
  have h2b : decide (12 < m) = false := by simp; omega
  have h3b : decide (d < 1) = false := by simp; omega
  have h4b : decide (mlen y m < d) = false := by simp; omega
  have h6b : decide (9999 < y) = false := by simp; omega
  have hix := index_marr y m h1 h2
  have hm := mlen_bd y m
  have b0 := byr_nonneg h5
  have b1 := byr_hi h6
  go_enter Tryd.func14, Tryd.ntmps14
  go_wp2_with fail
  refine (months_any _ _).mono ?_
  rintro e w1 ⟨rfl, hb1⟩
  go_wp2_with fail
  refine (begin_any _ _ h5 h6).mono ?_
  rintro e w2 ⟨rfl, rfl⟩
  go_wp2_with fail
  refine (months_any _ _).mono ?_
  rintro e w3 ⟨rfl, hb3⟩
  clear hix
  have hsl := fun a => slice_arr a (m - 1) (by omega) (by omega)
  simp only [marr]
  go_wp2_with fail
  clear hsl
  go_loop [8, 48] (fun n i => ∃ k : Nat, k ≤ (m - 1).toNat ∧ i = .int .i64 k ∧ n = .int .i64 (byr y + d - 1 + cum y (k + 1))) (fun _ i => (m - 1).toNat - (intOf i).toNat)
  case atStart => exact ⟨0, Nat.zero_le _, rfl, by rw [show ((0 : Nat) : Int) + 1 = 1 from rfl, cum_one]; simp⟩
  case round =>
    obtain ⟨k, hk, rfl, rfl⟩ := hrel
    have cb := cum_bd y (k + 1) (by omega) (by omega)
    by_cases hlt : k < (m - 1).toNat
    · have hcell := cell_marr w3 y k (by omega)
      have mb := mlen_bd y (k + 1)
      go_wp2
      go_round
      case rel => exact ⟨k + 1, by omega, by go_num, by rw [show (((k + 1 : Nat) : Int) + 1) = (k : Int) + 1 + 1 by omega, cum_succ y (k + 1) (by omega) (by omega)]; go_num⟩
      case measure => simp [intOf]; omega
    · have hnum : byr y + d - 1 + cum y (k + 1) = num y m d := by rw [show (k : Int) + 1 = m by omega]; unfold num; omega
      have HN := Lib.hid hnum; clear hnum
      have hbw : Below w.heap.size w w3 := hb1.trans (hb3.mono hb1.size)
      by_cases hl : num y m d ≤ 1000000
      · have hn0 : 0 ≤ num y m d := by rw [← HN.out]; omega
        have HV := Lib.hid (dayV_ok h1 h2 h3 h4 h5 h6 hl)
        go_wp2_with fail
        refine (is_yes _ _ (by rw [HN.out]; exact hn0) (by rw [HN.out]; exact hl)).mono ?_
        rintro e w4 ⟨rfl, rfl⟩
        go_wp2
        go_ret2
        exact ⟨by rw [HV.out]; exact ret2_int HN.out rfl, hbw.alloc hbw.size _⟩
      · have HV := Lib.hid (dayV_late h1 h2 h3 h4 h5 h6 (by omega))
        go_wp2_with fail
        refine (is_no _ _ (by rw [HN.out]; omega)).mono ?_
        rintro e w4 ⟨rfl, rfl⟩
        go_wp2
        go_ret2
        exact ⟨by rw [HV.out]; rfl, hbw.alloc hbw.size _⟩

theorem day_any (y m d : Int) (w : World) :
    Calls Tryd.prog 14 #[.int .i64 y, .int .i64 m, .int .i64 d] w fun e w' => e = .returned (.tuple #[.int .i64 (dayV y m d).1, .int .i64 (dayV y m d).2]) ∧ Below w.heap.size w w' := by
  by_cases h : m < 1 ∨ 12 < m ∨ d < 1 ∨ mlen y m < d
  · rw [dayV_arg h]; exact day_arg y m d w h
  · by_cases h2 : y < 1600 ∨ 9999 < y
    · rw [dayV_range (by omega) (by omega) (by omega) (by omega) h2]; exact day_range y m d w (by omega) (by omega) (by omega) (by omega) h2
    · exact day_num y m d w (by omega) (by omega) (by omega) (by omega) (by omega) (by omega)

end Go.Proofs.YtpelnfolnlmhdaaDoor
