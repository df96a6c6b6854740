/- WALKS of the reference's Day and Date. -/
import Derived.Test.YtpelnfolnlmhdaaDoorRefA
import Derived.Test.YtpelnfolnlmhdaaDoorCalD
namespace Go.Proofs.YtpelnfolnlmhdaaDoor
open Go.RowKit
open Cal

set_option maxHeartbeats 400000 in
theorem rday_arg (y m d : Int) (w : World) (h : m < 1 ∨ 12 < m ∨ d < 1 ∨ mlen y m < d) :
    Calls Tryd.prog 21 #[.int .i64 y, .int .i64 m, .int .i64 d] w fun e w' => e = .returned (.tuple #[.int .i64 0, .int .i64 1]) ∧ Below w.heap.size w w' := by
  by_cases h1 : m < 1
  · clear h
    go_enter Tryd.func21, Tryd.ntmps21
    go_wp2
    go_ret2
    exact ⟨rfl, Below.refl _ _⟩
  · have h1b : decide (m < 1) = false := by simp; omega
    by_cases h2 : 12 < m
    · clear h
      go_enter Tryd.func21, Tryd.ntmps21
      go_wp2
      go_ret2
      exact ⟨rfl, Below.refl _ _⟩
    · have h2b : decide (12 < m) = false := by simp; omega
      by_cases h3 : d < 1
      · clear h
        go_enter Tryd.func21, Tryd.ntmps21
        go_wp2
        go_ret2
        exact ⟨rfl, Below.refl _ _⟩
      · have h4 : mlen y m < d := by omega
        have h3b : decide (d < 1) = false := by simp; omega
        have h1' : 1 ≤ m := by omega
        have h2' : m ≤ 12 := by omega
        clear h
        go_enter Tryd.func21, Tryd.ntmps21
        go_wp2_with fail
        refine (rlen_any _ _ _ h1' h2').mono ?_
        rintro e w' ⟨rfl, hb⟩
        go_wp2
        go_ret2
        exact ⟨rfl, hb⟩

set_option maxHeartbeats 400000 in
theorem rday_range (y m d : Int) (w : World) (h1 : 1 ≤ m) (h2 : m ≤ 12) (h3 : 1 ≤ d) (h4 : d ≤ mlen y m) (h : y < 1600 ∨ 9999 < y) :
    Calls Tryd.prog 21 #[.int .i64 y, .int .i64 m, .int .i64 d] w fun e w' => e = .returned (.tuple #[.int .i64 0, .int .i64 10]) ∧ Below w.heap.size w w' := by
  have h1b : decide (m < 1) = false := by simp; omega
  have h2b : decide (12 < m) = false := by simp; omega
  have h3b : decide (d < 1) = false := by simp; omega
  have h4b : decide (mlen y m < d) = false := by simp; omega
  rcases h with h | h
  · go_enter Tryd.func21, Tryd.ntmps21
    go_wp2_with fail
    refine (rlen_any _ _ _ h1 h2).mono ?_
    rintro e w' ⟨rfl, hb⟩
    go_wp2
    go_ret2
    exact ⟨rfl, hb⟩
  · have h5 : decide (y < 1600) = false := by simp; omega
    go_enter Tryd.func21, Tryd.ntmps21
    go_wp2_with fail
    refine (rlen_any _ _ _ h1 h2).mono ?_
    rintro e w' ⟨rfl, hb⟩
    go_wp2
    go_ret2
    exact ⟨rfl, hb⟩

set_option maxHeartbeats 400000 in
theorem rday_num (y m d : Int) (w : World) (h1 : 1 ≤ m) (h2 : m ≤ 12) (h3 : 1 ≤ d) (h4 : d ≤ mlen y m) (h5 : 1600 ≤ y) (h6 : y ≤ 9999) :
    Calls Tryd.prog 21 #[.int .i64 y, .int .i64 m, .int .i64 d] w fun e w' => e = .returned (.tuple #[.int .i64 (dayV y m d).1, .int .i64 (dayV y m d).2]) ∧ Below w.heap.size w w' := by
  have h1b : decide (m < 1) = false := by simp; omega
  have h2b : decide (12 < m) = false := by simp; omega
  have h3b : decide (d < 1) = false := by simp; omega
  have h4b : decide (mlen y m < d) = false := by simp; omega
  have h5b : decide (y < 1600) = false := by simp; omega
  have h6b : decide (9999 < y) = false := by simp; omega
  have hm := mlen_bd y m
  have b0 := byr_nonneg h5
  have b1 := byr_hi h6
  go_enter Tryd.func21, Tryd.ntmps21
  go_wp2_with fail
  refine (rlen_any _ _ _ h1 h2).mono ?_
  rintro e w1 ⟨rfl, hb1⟩
  go_wp2_with fail
  refine (before_any _ _ h5 (by omega)).mono ?_
  rintro e w2 ⟨rfl, rfl⟩
  go_wp2
  go_loopw [8, 9] (fun n i wr => ∃ k : Int, 1 ≤ k ∧ k ≤ m ∧ i = .int .i64 k ∧ n = .int .i64 (byr y + d - 1 + cum y k) ∧ Below w.heap.size w wr) (fun _ i _ => m.toNat - (intOf i).toNat)
  case atStart => exact ⟨1, by omega, h1, rfl, by rw [cum_one]; simp, hb1⟩
  case round =>
    obtain ⟨k, k0, k1, rfl, rfl, hbw⟩ := hrel
    have cb := cum_bd y k (by omega) (by omega)
    by_cases hlt : k < m
    · have mb := mlen_bd y k
      have cs := cum_succ y k k0 (by omega)
      have CS := Lib.hid cs
      clear cs
      go_wp2_with fail
      refine (rlen_any y k _ k0 (by omega)).mono ?_
      rintro e w3 ⟨rfl, b3⟩
      have hbw3 := hbw.trans (b3.mono hbw.size)
      clear b3
      go_wp2
      go_roundw
      case rel => exact ⟨k + 1, by omega, by omega, by go_num, by rw [CS.out]; go_num, hbw3⟩
      case measure => simp [intOf]; omega
    · obtain rfl : k = m := by omega
      have hnum : byr y + d - 1 + cum y k = num y k d := by unfold num; omega
      have hltb : decide (k < k) = false := by simp
      have HN := Lib.hid hnum; clear hnum
      by_cases hl : num y k d ≤ 1000000
      · have HV := Lib.hid (dayV_ok h1 h2 h3 h4 h5 h6 hl)
        have hlb : decide (1000000 < byr y + d - 1 + cum y k) = false := by rw [HN.out]; simp; omega
        go_wp2
        go_ret2
        exact ⟨by rw [HV.out]; exact ret2_int HN.out rfl, hbw⟩
      · have HV := Lib.hid (dayV_late h1 h2 h3 h4 h5 h6 (by omega))
        have hlb : 1000000 < byr y + d - 1 + cum y k := by rw [HN.out]; omega
        go_wp2
        go_ret2
        exact ⟨by rw [HV.out]; rfl, hbw⟩

theorem rday_any (y m d : Int) (w : World) :
    Calls Tryd.prog 21 #[.int .i64 y, .int .i64 m, .int .i64 d] w fun e w' => e = .returned (.tuple #[.int .i64 (dayV y m d).1, .int .i64 (dayV y m d).2]) ∧ Below w.heap.size w w' := by
  by_cases h : m < 1 ∨ 12 < m ∨ d < 1 ∨ mlen y m < d
  · rw [dayV_arg h]; exact rday_arg y m d w h
  · by_cases h2 : y < 1600 ∨ 9999 < y
    · rw [dayV_range (by omega) (by omega) (by omega) (by omega) h2]; exact rday_range y m d w (by omega) (by omega) (by omega) (by omega) h2
    · exact rday_num y m d w (by omega) (by omega) (by omega) (by omega) (by omega) (by omega)

theorem rdate_no (n : Int) (w : World) (h : n < 0 ∨ 1000000 < n) :
    Calls Tryd.prog 22 #[.int .i64 n] w fun e w' => e = .returned (.tuple #[.int .i64 0, .int .i64 0, .int .i64 0, .int .i64 10]) ∧ Below w.heap.size w w' := by
  go_enter Tryd.func22, Tryd.ntmps22
  go_wp2_with (go_at_call 41; refine (ris_no _ _ h).mono ?_; rintro e w' ⟨rfl, rfl⟩)
  exact bodyPost_ret (v := .tuple #[.int .i64 0, .int .i64 0, .int .i64 0, .int .i64 10]) (by simp [results, Tryd.results22, go_sem]) rfl ⟨rfl, Below.refl _ _⟩

theorem byr_lo {n : Int} (h0 : 0 ≤ n) : byr (1600 + n / 366) ≤ n := by unfold byr; omega

set_option maxHeartbeats 1000000 in
theorem rdate_yes (n : Int) (w : World) (h0 : 0 ≤ n) (h1 : n ≤ 1000000) :
    Calls Tryd.prog 22 #[.int .i64 n] w fun e w' => e = .returned (.tuple #[.int .i64 (yr n), .int .i64 (mo n), .int .i64 (da n), .int .i64 0]) ∧ Below w.heap.size w w' := by
  have hlo := byr_lo h0
  have HLO := Lib.hid hlo
  clear hlo
  go_enter Tryd.func22, Tryd.ntmps22
  go_wp2_with (go_at_call 41; refine (ris_yes _ _ h0 h1).mono ?_; rintro e w' ⟨rfl, rfl⟩)
  go_loop [6] (fun y => ∃ t : Int, 1600 ≤ t ∧ t ≤ 4400 ∧ byr t ≤ n ∧ y = .int .i64 t) (fun y => (5000 - intOf y).toNat)
  case atStart => exact ⟨1600 + n / 366, by omega, by omega, HLO.out, by go_num⟩
  case round =>
    obtain ⟨t, t0, t1, tn, rfl⟩ := hrel
    have b0 := byr_nonneg t0
    have yl := ylen_bd t
    have hs := byr_succ t
    by_cases hlt : byr (t + 1) ≤ n
    · have t2 : t + 1 ≤ 4400 := by
        rcases Int.lt_or_le t 4400 with hl | hl
        · omega
        · have := byr_mono (a := 4401) (b := t + 1) (by omega)
          have e : byr 4401 = 1023045 := by decide
          omega
      have HS := Lib.hid hs; clear hs
      go_wp2_with fail
      refine (before_any (t + 1) _ (by omega) (by omega)).mono ?_
      rintro e w' ⟨rfl, rfl⟩
      go_wp2
      go_round
      case rel => exact ⟨t + 1, by omega, t2, hlt, by go_num⟩
      case measure => simp [intOf]; omega
    · have hlb : decide (byr (t + 1) ≤ n) = false := by simp; omega
      have HS := Lib.hid hs; clear hs
      go_wp2_with fail
      refine (before_any (t + 1) _ (by omega) (by omega)).mono ?_
      rintro e w' ⟨rfl, rfl⟩
      go_wp2_with fail
      refine (before_any t _ t0 (by omega)).mono ?_
      rintro e w' ⟨rfl, rfl⟩
      have hup : n - byr t < ylen t := by have := HS.out; omega
      clear hlb
      go_wp2
      go_loopw [7, 8] (fun x m wr => ∃ k : Int, 1 ≤ k ∧ k ≤ 12 ∧ m = .int .i64 k ∧ cum t k ≤ n - byr t ∧ x = .int .i64 (n - byr t - cum t k) ∧ Below w.heap.size w wr) (fun _ m _ => 13 - (intOf m).toNat)
      case atStart => exact ⟨1, by omega, by omega, rfl, by rw [cum_one]; omega, by rw [cum_one]; simp, Below.refl _ _⟩
      case round =>
        obtain ⟨k, k0, k1, rfl, hc, rfl, hbw⟩ := hrel
        have mb := mlen_bd t k
        have cs := cum_succ t k k0 k1
        have cb := cum_bd t k k0 (by omega)
        by_cases hm : mlen t k ≤ n - byr t - cum t k
        · have k2 : k + 1 ≤ 12 := by
            rcases Int.lt_or_le k 12 with h | h
            · omega
            · have e : k = 12 := by omega
              subst e
              have c13 : cum t (12 + 1) = 337 + feb t := cum_13 t
              have fy := feb_ylen t t0 (by omega)
              omega
          have CS := Lib.hid cs; clear cs
          go_wp2_with fail
          refine (rlen_any t k _ k0 k1).mono ?_
          rintro e w3 ⟨rfl, b3⟩
          have hbw3 := hbw.trans (b3.mono hbw.size)
          clear b3
          go_wp2_with fail
          refine (rlen_any t k _ k0 k1).mono ?_
          rintro e w4 ⟨rfl, b4⟩
          have hbw4 := hbw3.trans (b4.mono hbw3.size)
          clear b4
          go_wp2
          go_roundw
          case rel => exact ⟨k + 1, by omega, k2, by go_num, by rw [CS.out]; omega, by rw [CS.out]; go_num, hbw4⟩
          case measure => simp [intOf]; omega
        · have hmb : decide (mlen t k ≤ n - byr t - cum t k) = false := by simp; omega
          have hd : IsDate n t k (n - byr t - cum t k + 1) := ⟨t0, by omega, k0, k1, by omega, by omega, by unfold num; omega⟩
          have he := hd.eqs h1
          have HE := Lib.hid he; clear he hd cs
          go_wp2_with fail
          refine (rlen_any t k _ k0 k1).mono ?_
          rintro e w3 ⟨rfl, b3⟩
          have hbw3 := hbw.trans (b3.mono hbw.size)
          clear b3
          go_wp2
          refine bodyPost_ret (v := .tuple #[.int .i64 t, .int .i64 k, .int .i64 (n - byr t - cum t k + 1), .int .i64 0]) (by simp [results, Tryd.results22, go_sem]) rfl ⟨?_, hbw3⟩
          exact ret4_int HE.out.1.symm HE.out.2.1.symm HE.out.2.2.symm rfl

end Go.Proofs.YtpelnfolnlmhdaaDoor
