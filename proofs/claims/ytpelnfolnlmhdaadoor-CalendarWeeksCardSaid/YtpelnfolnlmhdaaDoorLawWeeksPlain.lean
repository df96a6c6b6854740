/- THE PLAIN LAW of CalendarWeeks. -/
import Derived.Test.YtpelnfolnlmhdaaDoorCalPlainC
namespace Go.Proofs.YtpelnfolnlmhdaaDoor
namespace Cal

/-- is weekday j among the first k days from day on -/
def saw (day : Int) : Nat → Int → Bool
  | 0, _ => false
  | k + 1, j => saw day k j || ((day + k + 5) % 7 == j)
/-- how many of the first k days are of Monday to Friday -/
def cntW (day : Int) : Nat → Int
  | 0 => 0
  | k + 1 => cntW day k + if (day + k + 5) % 7 < 5 then 1 else 0
theorem saw_iff (day j : Int) (k : Nat) : saw day k j = true ↔ ∃ i : Nat, i < k ∧ (day + i + 5) % 7 = j := by
  induction k with
  | zero => simp [saw]
  | succ k ih =>
    simp only [saw, Bool.or_eq_true, ih, beq_iff_eq]
    constructor
    · rintro (⟨i, hi, h⟩ | h)
      · exact ⟨i, by omega, h⟩
      · exact ⟨k, by omega, h⟩
    · rintro ⟨i, hi, h⟩
      by_cases hk : i < k
      · exact .inl ⟨i, hk, h⟩
      · exact .inr (by rw [show k = i by omega]; exact h)
theorem saw_new (day : Int) (k : Nat) (hk : k < 7) : saw day k ((day + k + 5) % 7) = false := by
  rw [Bool.eq_false_iff]
  intro h
  obtain ⟨i, hi, h⟩ := (saw_iff _ _ _).1 h
  omega
theorem cntW_bd (day : Int) (k : Nat) : 0 ≤ cntW day k ∧ cntW day k ≤ k := by
  induction k with
  | zero => simp [cntW]
  | succ k ih => rw [cntW]; split <;> omega
theorem cntW_7 (day : Int) : cntW day 7 = 5 := by
  simp only [cntW]
  have h : day % 7 = 0 ∨ day % 7 = 1 ∨ day % 7 = 2 ∨ day % 7 = 3 ∨ day % 7 = 4 ∨ day % 7 = 5 ∨ day % 7 = 6 := by omega
  have e : ∀ i : Nat, (day + (i : Int) + 5) % 7 = (day % 7 + i + 5) % 7 := fun i => by omega
  simp only [e]
  rcases h with h | h | h | h | h | h | h <;> rw [h] <;> decide
end Cal
end Go.Proofs.YtpelnfolnlmhdaaDoor
