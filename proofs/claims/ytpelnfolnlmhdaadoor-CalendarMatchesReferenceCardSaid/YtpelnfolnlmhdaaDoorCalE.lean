/- WALKS of the calendar: months. -/
import Derived.Test.YtpelnfolnlmhdaaDoorCalD
namespace Go.Proofs.YtpelnfolnlmhdaaDoor
open Go.RowKit
open Cal

set_option maxHeartbeats 1000000 in
set_option maxRecDepth 100000 in
theorem monthsF_any (day n : Int) (w : World) (h0 : 0 ≤ day) (h1 : day ≤ 1000000) (n0 : 0 ≤ n) (n1 : n ≤ 100000000) :
    Calls Tryd.prog 34 #[.int .i64 day, .int .i64 n] w fun e w' => e = .returned (.tuple #[.int .i64 (monthsV day n).1, .int .i64 (monthsV day n).2]) ∧ Below w.heap.size w w' := by
  have hd := date_is h0 h1
  have yh := hd.year_hi h1
  have ⟨y0, y1, m0, m1, d0, d1, _⟩ := hd
  clear hd
  have mb := mlen_bd (yr day) (mo day)
  obtain ⟨Y, hY⟩ : ∃ Y, Y = yr day := ⟨_, rfl⟩
  obtain ⟨M, hM⟩ : ∃ M, M = mo day := ⟨_, rfl⟩
  obtain ⟨D, hD⟩ : ∃ D, D = da day := ⟨_, rfl⟩
  have hv : monthsV day n = if 9999 < (n + (12 * Y + M - 1)) / 12 then (0, 10) else dayV ((n + (12 * Y + M - 1)) / 12) ((n + (12 * Y + M - 1)) % 12 + 1) (min D (mlen ((n + (12 * Y + M - 1)) / 12) ((n + (12 * Y + M - 1)) % 12 + 1))) := by
    rw [hY, hM, hD]; rfl
  rw [← hY] at y0 y1 d1 yh mb
  rw [← hM] at m0 m1 d1 mb
  rw [← hD] at d0 d1
  have hdt : ∀ w, Calls Tryd.prog 15 #[.int .i64 day] w fun e w' => e = .returned (.tuple #[.int .i64 Y, .int .i64 M, .int .i64 D, .int .i64 0]) ∧ Below w.heap.size w w' := by
    intro w; rw [hY, hM, hD]; exact date_yes day w h0 h1
  have HV := Lib.hid hv
  have HDT := Lib.hid hdt
  clear hv hdt hY hM hD
  by_cases hbig : 9999 < (n + (12 * Y + M - 1)) / 12
  · rw [HV.out, if_pos hbig]
    go_enter Tryd.func34, Tryd.ntmps34
    go_wp2_with (go_at_call 15; refine (HDT.out _).mono ?_; rintro e w1 ⟨rfl, hb1⟩)
    go_ret2
    exact ⟨rfl, ‹_›⟩
  · obtain ⟨L, hL⟩ : ∃ L, L = mlen ((n + (12 * Y + M - 1)) / 12) ((n + (12 * Y + M - 1)) % 12 + 1) := ⟨_, rfl⟩
    have hcellw : ∀ w2 : World, (w2.alloc (.cells #[.int .i64 31, .int .i64 (feb ((n + (12 * Y + M - 1)) / 12)), .int .i64 31, .int .i64 30, .int .i64 31, .int .i64 30, .int .i64 31, .int .i64 31, .int .i64 30, .int .i64 31, .int .i64 30, .int .i64 31] 56)).cell? ⟨w2.heap.size, ((n + (12 * Y + M - 1)) % 12).toNat, none⟩ = some (.int .i64 L) := by
      intro w2
      rw [hL, cell_marr w2 ((n + (12 * Y + M - 1)) / 12) ((n + (12 * Y + M - 1)) % 12).toNat (by omega), show ((((n + (12 * Y + M - 1)) % 12).toNat : Nat) : Int) = (n + (12 * Y + M - 1)) % 12 by omega]
    have HC := Lib.hid hcellw
    clear hcellw
    rw [HV.out, if_neg hbig, ← hL]
    clear hL
    rcases (show D ≤ L ∨ L < D by omega) with hmin | hlt
    · rw [Int.min_eq_left hmin]
      go_enter Tryd.func34, Tryd.ntmps34
      go_wp2_with fail
      refine (HDT.out _).mono ?_
      rintro e w1 ⟨rfl, hb1⟩
      go_wp2_with fail
      refine (months_any _ _).mono ?_
      rintro e w2 ⟨rfl, hb2⟩
      simp only [marr]
      have hcell := HC.out w2
      go_wp2_with fail
      refine (day_any _ _ _ _).mono ?_
      rintro e w3 ⟨rfl, hb3⟩
      go_wp2
      go_ret2
      have hbw : Below w.heap.size w w2 := hb1.trans (hb2.mono hb1.size)
      exact ⟨rfl, (hbw.alloc hbw.size _).trans (hb3.mono (by have := hbw.size; simp; omega))⟩
    · rw [Int.min_eq_right (by omega)]
      go_enter Tryd.func34, Tryd.ntmps34
      go_wp2_with fail
      refine (HDT.out _).mono ?_
      rintro e w1 ⟨rfl, hb1⟩
      go_wp2_with fail
      refine (months_any _ _).mono ?_
      rintro e w2 ⟨rfl, hb2⟩
      simp only [marr]
      have hcell := HC.out w2
      go_wp2_with fail
      refine (day_any _ _ _ _).mono ?_
      rintro e w3 ⟨rfl, hb3⟩
      go_wp2
      go_ret2
      have hbw : Below w.heap.size w w2 := hb1.trans (hb2.mono hb1.size)
      exact ⟨rfl, (hbw.alloc hbw.size _).trans (hb3.mono (by have := hbw.size; simp; omega))⟩

end Go.Proofs.YtpelnfolnlmhdaaDoor
