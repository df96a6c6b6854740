/- THE PLAIN LAW of CalendarDates. -/
import Derived.Test.YtpelnfolnlmhdaaDoorCalPlainC
namespace Go.Proofs.YtpelnfolnlmhdaaDoor
namespace Cal

theorem dayV_of_is {n y m d : Int} (h : IsDate n y m d) (hn : n ≤ 1000000) : dayV y m d = (n, 0) := by
  rw [dayV_ok h.m0 h.m1 h.d0 h.d1 h.y0 h.y1 (by rw [h.eq]; exact hn), h.eq]
theorem feb_400 {y : Int} (h0 : 1600 ≤ y) (h1 : y ≤ 9599) : feb (y + 400) = feb y := by
  have e : lpB (y + 400) = lpB y := by unfold lpB; congr 1; apply propext; omega
  unfold feb
  rw [e]
  have e2 : (lpB y = true ∨ y + 400 < 1600 ∨ 9999 < y + 400) ↔ (lpB y = true ∨ y < 1600 ∨ 9999 < y) := by
    constructor
    · rintro (h | h | h)
      · exact .inl h
      · omega
      · omega
    · rintro (h | h | h)
      · exact .inl h
      · omega
      · omega
  simp only [e2]
theorem is_400 {n y m d : Int} (h : IsDate n y m d) (h1 : n ≤ 1000000) : IsDate (n + 146097) (y + 400) m d := by
  have hy := h.year_hi h1
  have hf := feb_400 h.y0 (by omega)
  have hm : mlen (y + 400) m = mlen y m := by unfold mlen; rw [hf]
  have hc : cum (y + 400) m = cum y m := by unfold cum; rw [hf]
  refine ⟨by have := h.y0; omega, by omega, h.m0, h.m1, h.d0, by rw [hm]; exact h.d1, ?_⟩
  have := h.eq
  unfold num at this ⊢
  rw [byr_400, hc]; omega
theorem dayV_400 {n y m d : Int} (h : IsDate n y m d) (h1 : n ≤ 1000000) (h2 : n + 146097 ≤ 1000000) : dayV (y + 400) m d = (n + 146097, 0) := dayV_of_is (is_400 h h1) h2
theorem dayV_400_late {n y m d : Int} (h : IsDate n y m d) (h1 : n ≤ 1000000) (h2 : 1000000 < n + 146097) : dayV (y + 400) m d = (0, 10) := by
  have g := is_400 h h1
  exact dayV_late g.m0 g.m1 g.d0 g.d1 g.y0 g.y1 (by rw [g.eq]; exact h2)
theorem dayV_pair {y m d : Int} : (∃ r, dayV y m d = (r, 0) ∧ 0 ≤ r ∧ r ≤ 1000000 ∧ IsDate r y m d) ∨ (∃ e, e ≠ 0 ∧ dayV y m d = (0, e)) := by
  by_cases h : (dayV y m d).2 = 0
  · obtain ⟨a, b, c⟩ := dayV_ok2 h
    exact .inl ⟨_, by rw [← h], a, b, c⟩
  · exact .inr ⟨_, h, by rw [← (dayV_bad h).1]⟩
end Cal
end Go.Proofs.YtpelnfolnlmhdaaDoor
