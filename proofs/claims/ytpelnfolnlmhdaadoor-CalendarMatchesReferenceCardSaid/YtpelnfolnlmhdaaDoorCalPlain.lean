/- THE CALENDAR IN PLAIN LEAN: years, months, days. Imports nothing of the program. -/
namespace Go.Proofs.YtpelnfolnlmhdaaDoor
namespace Cal

/-- a leap year -/
def lpB (y : Int) : Bool := decide (y % 400 = 0 ∨ (y % 4 = 0 ∧ ¬ y % 100 = 0))
/-- how many days a year has -/
def ylen (y : Int) : Int := if lpB y then 366 else 365
/-- February's length as the program lays it -/
def feb (y : Int) : Int := if lpB y ∨ y < 1600 ∨ 9999 < y then 29 else 28
/-- the length of month m (1 to 12) -/
def mlen (y m : Int) : Int := if m = 2 then feb y else if m = 4 ∨ m = 6 ∨ m = 9 ∨ m = 11 then 30 else 31
/-- days from 1600 to the beginning of year y -/
def byr (y : Int) : Int := 365 * (y - 1600) + (y - 1600 + 3) / 4 - (y - 1600 + 99) / 100 + (y - 1600 + 399) / 400
/-- days of the year before month m (1 to 13) -/
def cum (y m : Int) : Int :=
  if m ≤ 1 then 0 else if m ≤ 2 then 31 else feb y + (if m ≤ 3 then 31 else if m ≤ 4 then 62 else if m ≤ 5 then 92 else if m ≤ 6 then 123 else if m ≤ 7 then 153 else if m ≤ 8 then 184 else if m ≤ 9 then 215
    else if m ≤ 10 then 245 else if m ≤ 11 then 276 else if m ≤ 12 then 306 else 337)

theorem feb_bd (y : Int) : 28 ≤ feb y ∧ feb y ≤ 29 := by unfold feb; split <;> omega
theorem feb_ylen (y : Int) (h0 : 1600 ≤ y) (h1 : y ≤ 9999) : ylen y = 337 + feb y := by
  unfold ylen feb
  by_cases h : lpB y = true
  · simp [h]
  · have h2 : ¬ (lpB y = true ∨ y < 1600 ∨ 9999 < y) := by
      rintro (h' | h' | h')
      · exact h h'
      · omega
      · omega
    rw [if_neg h, if_neg h2]; rfl
theorem mlen_bd (y m : Int) : 28 ≤ mlen y m ∧ mlen y m ≤ 31 := by
  have := feb_bd y
  unfold mlen; split
  · omega
  · split <;> omega
theorem ylen_bd (y : Int) : 365 ≤ ylen y ∧ ylen y ≤ 366 := by unfold ylen; split <;> omega
theorem byr_succ (y : Int) : byr (y + 1) = byr y + ylen y := by
  unfold byr ylen
  by_cases h : y % 400 = 0 ∨ (y % 4 = 0 ∧ ¬ y % 100 = 0)
  · have hb : lpB y = true := by unfold lpB; simpa using h
    rw [if_pos hb]
    omega
  · have hb : ¬ lpB y = true := by unfold lpB; simpa using h
    rw [if_neg hb]
    omega
theorem byr_400 (y : Int) : byr (y + 400) = byr y + 146097 := by unfold byr; omega
theorem byr_1600 : byr 1600 = 0 := by decide
theorem byr_mono {a b : Int} (h : a ≤ b) : byr a ≤ byr b := by unfold byr; omega
theorem byr_lt {a b : Int} (h : a < b) : byr a + 365 ≤ byr b := by unfold byr; omega
theorem byr_nonneg {a : Int} (h : 1600 ≤ a) : 0 ≤ byr a := by unfold byr; omega
theorem byr_hi {a : Int} (h : a ≤ 9999) : byr a ≤ 3068000 := by unfold byr; omega
theorem cum_succ (y m : Int) (h1 : 1 ≤ m) (h2 : m ≤ 12) : cum y (m + 1) = cum y m + mlen y m := by
  have hf := feb_bd y
  have : m = 1 ∨ m = 2 ∨ m = 3 ∨ m = 4 ∨ m = 5 ∨ m = 6 ∨ m = 7 ∨ m = 8 ∨ m = 9 ∨ m = 10 ∨ m = 11 ∨ m = 12 := by omega
  rcases this with rfl | rfl | rfl | rfl | rfl | rfl | rfl | rfl | rfl | rfl | rfl | rfl <;> simp [cum, mlen] <;> omega
theorem cum_one (y : Int) : cum y 1 = 0 := rfl
theorem cum_13 (y : Int) : cum y 13 = 337 + feb y := by simp [cum]; omega
theorem m12 {m : Int} (h1 : 1 ≤ m) (h2 : m ≤ 12) : m = 1 ∨ m = 2 ∨ m = 3 ∨ m = 4 ∨ m = 5 ∨ m = 6 ∨ m = 7 ∨ m = 8 ∨ m = 9 ∨ m = 10 ∨ m = 11 ∨ m = 12 := by omega
theorem cum_mono (y : Int) (k : Nat) : ∀ a : Int, 1 ≤ a → a + k ≤ 13 → cum y a + 28 * k ≤ cum y (a + k) := by
  induction k with
  | zero => intro a _ _; simp
  | succ k ih =>
    intro a h1 h2
    have h := ih a h1 (by omega)
    have hs := cum_succ y (a + k) (by omega) (by omega)
    have hm := mlen_bd y (a + k)
    have e : a + ((k + 1 : Nat) : Int) = a + k + 1 := by omega
    rw [e, hs]; omega
theorem cum_le (y : Int) {a b : Int} (h1 : 1 ≤ a) (h : a ≤ b) (h2 : b ≤ 13) : cum y a + 28 * (b - a) ≤ cum y b := by
  have := cum_mono y (b - a).toNat a h1 (by omega)
  have e : a + ((b - a).toNat : Int) = b := by omega
  rw [e] at this; omega
theorem cum_bd (y m : Int) (h1 : 1 ≤ m) (h2 : m ≤ 13) : 0 ≤ cum y m ∧ cum y m ≤ 366 := by
  have a := cum_le y (a := 1) (b := m) (by omega) h1 h2
  have b := cum_le y (a := m) (b := 13) h1 h2 (by omega)
  rw [cum_13] at b; rw [cum_one] at a
  have := feb_bd y
  omega

/-- the day's number of a date that is one, whatever the year -/
def num (y m d : Int) : Int := byr y + cum y m + d - 1
/-- what 'Day' returns -/
def dayV (y m d : Int) : Int × Int :=
  if m < 1 ∨ 12 < m ∨ d < 1 ∨ mlen y m < d then (0, 1) else if y < 1600 ∨ 9999 < y then (0, 10) else if 1000000 < num y m d then (0, 10) else (num y m d, 0)
theorem dayV_arg {y m d : Int} (h : m < 1 ∨ 12 < m ∨ d < 1 ∨ mlen y m < d) : dayV y m d = (0, 1) := by unfold dayV; rw [if_pos h]
theorem dayV_range {y m d : Int} (h1 : 1 ≤ m) (h2 : m ≤ 12) (h3 : 1 ≤ d) (h4 : d ≤ mlen y m) (h : y < 1600 ∨ 9999 < y) : dayV y m d = (0, 10) := by
  unfold dayV; rw [if_neg (by omega), if_pos h]
theorem dayV_late {y m d : Int} (h1 : 1 ≤ m) (h2 : m ≤ 12) (h3 : 1 ≤ d) (h4 : d ≤ mlen y m) (h5 : 1600 ≤ y) (h6 : y ≤ 9999) (h : 1000000 < num y m d) : dayV y m d = (0, 10) := by
  unfold dayV; rw [if_neg (by omega), if_neg (by omega), if_pos h]
theorem dayV_ok {y m d : Int} (h1 : 1 ≤ m) (h2 : m ≤ 12) (h3 : 1 ≤ d) (h4 : d ≤ mlen y m) (h5 : 1600 ≤ y) (h6 : y ≤ 9999) (h : num y m d ≤ 1000000) : dayV y m d = (num y m d, 0) := by
  unfold dayV; rw [if_neg (by omega), if_neg (by omega), if_neg (by omega)]
end Cal
end Go.Proofs.YtpelnfolnlmhdaaDoor
