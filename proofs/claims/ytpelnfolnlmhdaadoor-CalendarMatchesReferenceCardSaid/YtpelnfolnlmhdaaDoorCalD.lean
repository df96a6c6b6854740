/- WALKS of the calendar: Date. -/
import Derived.Test.YtpelnfolnlmhdaaDoorCalC
import Derived.Test.YtpelnfolnlmhdaaDoorCalPlainB
namespace Go.Proofs.YtpelnfolnlmhdaaDoor
open Go.RowKit
open Cal

theorem date_no (n : Int) (w : World) (h : n < 0 ∨ 1000000 < n) :
    Calls Tryd.prog 15 #[.int .i64 n] w fun e w' => e = .returned (.tuple #[.int .i64 0, .int .i64 0, .int .i64 0, .int .i64 10]) ∧ Below w.heap.size w w' := by
  go_enter Tryd.func15, Tryd.ntmps15
  go_wp2_with (go_at_call 30; refine (is_no _ _ h).mono ?_; rintro e w' ⟨rfl, rfl⟩)
  exact bodyPost_ret (v := .tuple #[.int .i64 0, .int .i64 0, .int .i64 0, .int .i64 10]) (by simp [results, Tryd.results15, go_sem]) rfl ⟨rfl, Below.refl _ _⟩

theorem ret4_int {a b c d a' b' c' d' : Int} (h0 : a = a') (h1 : b = b') (h2 : c = c') (h3 : d = d') :
    Ending.returned (.tuple #[.int .i64 a, .int .i64 b, .int .i64 c, .int .i64 d]) = .returned (.tuple #[.int .i64 a', .int .i64 b', .int .i64 c', .int .i64 d']) := by rw [h0, h1, h2, h3]

/-- block b holds the months of year y -/
def MRow (w : World) (b : Nat) (y : Int) : Prop :=
  w.heap[b]? = some (.cells #[.int .i64 31, .int .i64 (feb y), .int .i64 31, .int .i64 30, .int .i64 31, .int .i64 30, .int .i64 31, .int .i64 31, .int .i64 30, .int .i64 31, .int .i64 30, .int .i64 31] 56 (0, 0))
theorem MRow.cell {w : World} {b : Nat} {y : Int} (h : MRow w b y) (k : Nat) (hk : k < 12) : w.cell? ⟨b, k, none⟩ = some (.int .i64 (mlen y (k + 1))) := by
  rw [cell_of_row w b k _ _ _ h]
  have h : k = 0 ∨ k = 1 ∨ k = 2 ∨ k = 3 ∨ k = 4 ∨ k = 5 ∨ k = 6 ∨ k = 7 ∨ k = 8 ∨ k = 9 ∨ k = 10 ∨ k = 11 := by omega
  rcases h with rfl | rfl | rfl | rfl | rfl | rfl | rfl | rfl | rfl | rfl | rfl | rfl <;> simp [mlen]
theorem mrow_new (w : World) (y : Int) : MRow (w.alloc (.cells #[.int .i64 31, .int .i64 (feb y), .int .i64 31, .int .i64 30, .int .i64 31, .int .i64 30, .int .i64 31, .int .i64 31, .int .i64 30, .int .i64 31, .int .i64 30, .int .i64 31] 56)) w.heap.size y := heap_alloc_new w _

set_option maxHeartbeats 1000000 in
set_option maxRecDepth 100000 in
theorem date_yes (n : Int) (w : World) (h0 : 0 ≤ n) (h1 : n ≤ 1000000) :
    Calls Tryd.prog 15 #[.int .i64 n] w fun e w' => e = .returned (.tuple #[.int .i64 (yr n), .int .i64 (mo n), .int .i64 (da n), .int .i64 0]) ∧ Below w.heap.size w w' := by
  have hq := byr_400q (n / 146097)
  have HQ := Lib.hid hq; clear hq
  go_enter Tryd.func15, Tryd.ntmps15
  go_wp2_with (go_at_call 30; refine (is_yes _ _ h0 h1).mono ?_; rintro e w' ⟨rfl, rfl⟩)
  go_loop [0, 6] (fun x y => ∃ t : Int, 1600 ≤ t ∧ t ≤ 4400 ∧ byr t ≤ n ∧ y = .int .i64 t ∧ x = .int .i64 (n - byr t)) (fun x _ => (intOf x).toNat)
  case atStart => exact ⟨1600 + n / 146097 * 400, by omega, by omega, by rw [HQ.out]; omega, rfl, by rw [HQ.out]; go_num⟩
  case round =>
    obtain ⟨t, t0, t1, tn, rfl, rfl⟩ := hrel
    have yl := ylen_bd t
    have hs := byr_succ t
    have b0 := byr_nonneg t0
    by_cases hlt : ylen t ≤ n - byr t
    · have t2 : t + 1 ≤ 4400 := by
        rcases Int.lt_or_le t 4400 with hl | hl
        · omega
        · have := byr_mono (a := 4401) (b := t + 1) (by omega)
          have e : byr 4401 = 1023045 := by decide
          omega
      have HS := Lib.hid hs; clear hs
      go_wp2_with (go_at_call 38; refine (days_any _ _ (by omega)).mono ?_; rintro e w' ⟨rfl, rfl⟩)
      go_round
      case rel => exact ⟨t + 1, by omega, t2, by rw [HS.out]; omega, rfl, by rw [HS.out]; go_num⟩
      case measure => simp [intOf]; omega
    · have HS := Lib.hid hs; clear hs
      go_wp2_with (go_at_call 38; refine (days_any _ _ (by omega)).mono ?_; rintro e w' ⟨rfl, rfl⟩)
      refine (months_any _ _).mono ?_
      rintro e w1 ⟨rfl, hb1⟩
      simp only [marr]
      go_wp2_with fail
      go_loopw [0, 7, 8] (fun x m p wr => ∃ k b : Nat, k ≤ 11 ∧ m = .int .i64 k ∧ cum t (k + 1) ≤ n - byr t ∧ x = .int .i64 (n - byr t - cum t (k + 1)) ∧ p = .pointer (some ⟨b, 0, none⟩) ∧ MRow wr b t ∧ Below w.heap.size w wr) (fun _ m _ _ => 12 - (intOf m).toNat)
      case atStart => exact ⟨0, w1.heap.size, by omega, rfl, by rw [show ((0 : Nat) : Int) + 1 = 1 from rfl, cum_one]; omega, by rw [show ((0 : Nat) : Int) + 1 = 1 from rfl, cum_one]; simp, rfl, mrow_new w1 t, hb1.alloc hb1.size _⟩
      case round =>
        obtain ⟨k, b, hk, rfl, hc, rfl, rfl, hrow, hbw⟩ := hrel
        have hcell := hrow.cell k (by omega)
        have mb := mlen_bd t (k + 1)
        have cs := cum_succ t (k + 1) (by omega) (by omega)
        have cb := cum_bd t (k + 1) (by omega) (by omega)
        by_cases hm : mlen t (k + 1) ≤ n - byr t - cum t (k + 1)
        · have hk2 : k < 11 := by
            rcases Nat.lt_or_ge k 11 with h | h
            · exact h
            · have e : k = 11 := by omega
              subst e
              have c13 : cum t (((11 : Nat) : Int) + 1 + 1) = 337 + feb t := cum_13 t
              have fy := feb_ylen t t0 (by omega)
              omega
          have CS := Lib.hid cs; clear cs
          go_wp2_with (refine wpList_load_row rfl 56 (.tmp 8) rfl b rfl 56 _ (0, 0) _ (show wr.heap[b]? = _ from hrow) Tryd.underlying56 rfl (by kernel_rfl) ?_)
          go_roundw
          case rel => exact ⟨k + 1, wr.heap.size, by omega, by go_num, by rw [show (((k + 1 : Nat) : Int) + 1) = (k : Int) + 1 + 1 by omega, CS.out]; omega, by rw [show (((k + 1 : Nat) : Int) + 1) = (k : Int) + 1 + 1 by omega, CS.out]; go_num, rfl, mrow_new wr t, hbw.alloc hbw.size _⟩
          case measure => simp [intOf]; omega
        · have hd : IsDate n t (k + 1) (n - byr t - cum t (k + 1) + 1) := ⟨t0, by omega, by omega, by omega, by omega, by omega, by unfold num; omega⟩
          have he := hd.eqs h1
          have HE := Lib.hid he; clear he hd cs
          go_wp2
          refine bodyPost_ret (v := .tuple #[.int .i64 t, .int .i64 (k + 1), .int .i64 (n - byr t - cum t (k + 1) + 1), .int .i64 0]) (by simp [results, Tryd.results15, go_sem]) rfl ⟨?_, hbw⟩
          exact ret4_int HE.out.1.symm HE.out.2.1.symm HE.out.2.2.symm rfl

end Go.Proofs.YtpelnfolnlmhdaaDoor
