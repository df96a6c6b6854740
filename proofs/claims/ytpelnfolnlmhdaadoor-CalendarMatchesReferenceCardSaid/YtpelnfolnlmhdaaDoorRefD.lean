/- WALKS of the reference's Text and Work. -/
import Derived.Test.YtpelnfolnlmhdaaDoorRefC
import Derived.Test.YtpelnfolnlmhdaaDoorRefIn
import Derived.Test.YtpelnfolnlmhdaaDoorRefDPlain
namespace Go.Proofs.YtpelnfolnlmhdaaDoor
open Go.RowKit
open Cal

theorem rtext_no (n : Int) (w : World) (h : n < 0 ∨ 1000000 < n) :
    Calls Tryd.prog 27 #[.int .i64 n] w fun e w' => e = .returned (.string ⟨#[]⟩) ∧ Below w.heap.size w w' := by
  go_enter Tryd.func27, Tryd.ntmps27
  go_wp2_with fail
  refine (rdate_no _ _ h).mono ?_
  rintro e w' ⟨rfl, hb⟩
  go_wp2
  go_ret
  exact ⟨rfl, hb⟩

set_option maxHeartbeats 800000 in
theorem rtext_yes (n : Int) (w : World) (h0 : 0 ≤ n) (h1 : n ≤ 1000000) :
    Calls Tryd.prog 27 #[.int .i64 n] w fun e w' => e = .returned (.string ⟨(textL n).toArray⟩) ∧ Below w.heap.size w w' := by
  have hd := date_is h0 h1
  have yh := hd.year_hi h1
  have ⟨y0, y1, m0, m1, d0, d1, _⟩ := hd
  have hm := mlen_bd (yr n) (mo n)
  have ht := fun w => rdig_any (yr n) 4 w (by omega) (by omega) (by omega)
  rw [dg_four (by omega) (by omega)] at ht
  have hm2 := fun w => rdig_any (mo n) 2 w (by omega) (by omega) (by omega)
  rw [dg_two (by omega) (by omega)] at hm2
  have hd2 := fun w => rdig_any (da n) 2 w (by omega) (by omega) (by omega)
  rw [dg_two (by omega) (by omega)] at hd2
  have hdt := fun w => rdate_yes n w h0 h1
  have l1 : (fourL (yr n)).length ≤ 4 := Nat.le_refl _
  have l2 : (twoL (mo n)).length ≤ 2 := Nat.le_refl _
  have l3 : (twoL (da n)).length ≤ 2 := Nat.le_refl _
  unfold textL
  generalize fourL (yr n) = I at ht l1 ⊢
  generalize twoL (mo n) = M at hm2 l2 ⊢
  generalize twoL (da n) = D at hd2 l3 ⊢
  have HT := Lib.hid ht
  have HM := Lib.hid hm2
  have HD := Lib.hid hd2
  have HDT := Lib.hid hdt
  clear ht hm2 hd2 hdt hd
  go_enter Tryd.func27, Tryd.ntmps27
  go_wp2_with fail
  refine (HDT.out _).mono ?_
  rintro e w1 ⟨rfl, hb1⟩
  go_wp2_with fail
  refine (HT.out _).mono ?_
  rintro e w2 ⟨rfl, rfl⟩
  go_wp2_with fail
  refine (HM.out _).mono ?_
  rintro e w3 ⟨rfl, rfl⟩
  go_wp2_with fail
  refine (HD.out _).mono ?_
  rintro e w4 ⟨rfl, rfl⟩
  go_wp2
  go_ret
  exact ⟨by simp [ba_append], hb1⟩

theorem rwork_any (v : Value) (L : List Int) (n : Int) (w : World) (h : RI w w.heap.size v L) :
    Calls Tryd.prog 29 #[.int .i64 n, v] w fun e w' => e = .returned (.bool (opn L n)) ∧ w = w' := by
  by_cases hi : n < 0 ∨ 1000000 < n
  · rw [opn_no (by omega)]
    go_enter Tryd.func29, Tryd.ntmps29
    go_wp2_with fail
    refine (ris_no _ _ hi).mono ?_
    rintro e w' ⟨rfl, rfl⟩
    go_wp2
    go_ret
    exact ⟨rfl, rfl⟩
  · have h0 : 0 ≤ n := by omega
    have h1 : n ≤ 1000000 := by omega
    clear hi
    by_cases h5 : (n + 5) % 7 < 5
    · have h4 : (n + 5) % 7 ≤ 4 := by omega
      obtain ⟨B, hB⟩ : ∃ B, B = decide (n ∈ L) := ⟨_, rfl⟩
      have ho : opn L n = !B := by rw [hB]; unfold opn; simp [h0, h1, h5]
      rw [ho]
      have hin := in_any v L n w h
      rw [← hB] at hin
      clear hB ho
      go_enter Tryd.func29, Tryd.ntmps29
      go_wp2_with fail
      refine (ris_yes _ _ h0 h1).mono ?_
      rintro e w' ⟨rfl, rfl⟩
      go_wp2_with fail
      refine (rweekday_yes _ _ h0 h1).mono ?_
      rintro e w' ⟨rfl, rfl⟩
      go_wp2_with fail
      refine hin.mono ?_
      rintro e w' ⟨rfl, rfl⟩
      go_wp2
      go_ret
      exact ⟨rfl, rfl⟩
    · have h4 : decide ((n + 5) % 7 ≤ 4) = false := by simp; omega
      rw [opn_no (by omega)]
      go_enter Tryd.func29, Tryd.ntmps29
      go_wp2_with fail
      refine (ris_yes _ _ h0 h1).mono ?_
      rintro e w' ⟨rfl, rfl⟩
      go_wp2_with fail
      refine (rweekday_yes _ _ h0 h1).mono ?_
      rintro e w' ⟨rfl, rfl⟩
      go_wp2
      go_ret
      exact ⟨rfl, rfl⟩
end Go.Proofs.YtpelnfolnlmhdaaDoor
