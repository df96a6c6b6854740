/- THE CALENDAR IN PLAIN LEAN: each day has one date, each date one day. -/
import Derived.Test.YtpelnfolnlmhdaaDoorCalPlain
namespace Go.Proofs.YtpelnfolnlmhdaaDoor
namespace Cal

/-- y, m, d is the date of day n -/
structure IsDate (n y m d : Int) : Prop where
  y0 : 1600 ≤ y
  y1 : y ≤ 9999
  m0 : 1 ≤ m
  m1 : m ≤ 12
  d0 : 1 ≤ d
  d1 : d ≤ mlen y m
  eq : num y m d = n

theorem num_ge {y m d : Int} (m0 : 1 ≤ m) (m1 : m ≤ 12) (d0 : 1 ≤ d) : byr y ≤ num y m d := by
  have := cum_bd y m m0 (by omega)
  unfold num; omega
theorem num_lt {y m d : Int} (y0 : 1600 ≤ y) (y1 : y ≤ 9999) (m0 : 1 ≤ m) (m1 : m ≤ 12) (d1 : d ≤ mlen y m) : num y m d < byr (y + 1) := by
  have h1 := cum_le y (a := m + 1) (b := 13) (by omega) (by omega) (by omega)
  have h2 := cum_succ y m m0 m1
  rw [cum_13] at h1
  rw [byr_succ, feb_ylen y y0 y1]
  unfold num; omega

theorem IsDate.uniq {n y m d y' m' d' : Int} (h : IsDate n y m d) (h' : IsDate n y' m' d') : y = y' ∧ m = m' ∧ d = d' := by
  have a0 := num_ge (y := y) h.m0 h.m1 h.d0
  have a1 := num_lt h.y0 h.y1 h.m0 h.m1 h.d1
  have b0 := num_ge (y := y') h'.m0 h'.m1 h'.d0
  have b1 := num_lt h'.y0 h'.y1 h'.m0 h'.m1 h'.d1
  rw [h.eq] at a0 a1
  rw [h'.eq] at b0 b1
  have hy : y = y' := by
    rcases Int.lt_trichotomy y y' with hl | hl | hl
    · have := byr_mono (a := y + 1) (b := y') (by omega); omega
    · exact hl
    · have := byr_mono (a := y' + 1) (b := y) (by omega); omega
  subst hy
  have e1 := h.eq
  have e2 := h'.eq
  unfold num at e1 e2
  have hm : m = m' := by
    rcases Int.lt_trichotomy m m' with hl | hl | hl
    · have c1 := cum_le y (a := m + 1) (b := m') (by have := h.m0; omega) (by omega) (by have := h'.m1; omega)
      have c2 := cum_succ y m h.m0 h.m1
      have := h.d1; have := h'.d0; omega
    · exact hl
    · have c1 := cum_le y (a := m' + 1) (b := m) (by have := h'.m0; omega) (by omega) (by have := h.m1; omega)
      have c2 := cum_succ y m' h'.m0 h'.m1
      have := h'.d1; have := h.d0; omega
  subst hm
  exact ⟨rfl, rfl, by omega⟩

theorem IsDate.year_hi {n y m d : Int} (h : IsDate n y m d) (hn : n ≤ 1000000) : y ≤ 4400 := by
  have a0 := num_ge (y := y) h.m0 h.m1 h.d0
  rw [h.eq] at a0
  have : y < 4401 := by
    rcases Int.lt_or_le y 4401 with hl | hl
    · exact hl
    · have := byr_mono hl
      have e : byr 4401 = 1023045 := by decide
      omega
  omega
theorem IsDate.nonneg {n y m d : Int} (h : IsDate n y m d) : 0 ≤ n := by
  have a0 := num_ge (y := y) h.m0 h.m1 h.d0
  have := byr_nonneg h.y0
  rw [h.eq] at a0; omega

/-- the date of the next day -/
theorem IsDate.next {n y m d : Int} (h : IsDate n y m d) (hn : n ≤ 1000000) :
    (d + 1 ≤ mlen y m ∧ IsDate (n + 1) y m (d + 1)) ∨ (d = mlen y m ∧ m < 12 ∧ IsDate (n + 1) y (m + 1) 1) ∨ (d = mlen y m ∧ m = 12 ∧ IsDate (n + 1) (y + 1) 1 1) := by
  have hy := h.year_hi hn
  have ⟨y0, y1, m0, m1, d0, d1, eq⟩ := h
  by_cases hd : d + 1 ≤ mlen y m
  · refine .inl ⟨hd, y0, y1, m0, m1, by omega, hd, ?_⟩
    rw [← eq]; unfold num; omega
  · have hde : d = mlen y m := by omega
    by_cases hm : m < 12
    · refine .inr (.inl ⟨hde, hm, y0, y1, by omega, by omega, by omega, by have := mlen_bd y (m + 1); omega, ?_⟩)
      rw [← eq]; unfold num; rw [cum_succ y m m0 m1]; omega
    · have hm12 : m = 12 := by omega
      refine .inr (.inr ⟨hde, hm12, by omega, by omega, by omega, by omega, by omega, by have := mlen_bd (y + 1) 1; omega, ?_⟩)
      have hc := cum_succ y 12 (by omega) (by omega)
      have hc13 : cum y (12 + 1) = 337 + feb y := cum_13 y
      rw [← eq]; unfold num; rw [byr_succ, feb_ylen y y0 y1, cum_one, hm12] ; rw [hm12] at hde; omega

theorem date_zero : IsDate 0 1600 1 1 := ⟨by decide, by decide, by decide, by decide, by decide, by decide, by decide⟩

theorem date_ex_nat (k : Nat) (hk : k ≤ 1000000) : ∃ y m d, IsDate k y m d := by
  induction k with
  | zero => exact ⟨_, _, _, date_zero⟩
  | succ k ih =>
    obtain ⟨y, m, d, h⟩ := ih (by omega)
    have e : ((k + 1 : Nat) : Int) = (k : Int) + 1 := by omega
    rw [e]
    rcases h.next (by omega) with ⟨_, h⟩ | ⟨_, _, h⟩ | ⟨_, _, h⟩ <;> exact ⟨_, _, _, h⟩
theorem date_ex {n : Int} (h0 : 0 ≤ n) (h1 : n ≤ 1000000) : ∃ y m d, IsDate n y m d := by
  have h := date_ex_nat n.toNat (by omega)
  rwa [Int.toNat_of_nonneg h0] at h

open Classical in
/-- the date of a day: what 'Date' returns, without its error -/
noncomputable def dateT (n : Int) : Int × Int × Int := if h : ∃ t : Int × Int × Int, IsDate n t.1 t.2.1 t.2.2 then h.choose else (0, 0, 0)
noncomputable def yr (n : Int) : Int := (dateT n).1
noncomputable def mo (n : Int) : Int := (dateT n).2.1
noncomputable def da (n : Int) : Int := (dateT n).2.2
theorem date_is {n : Int} (h0 : 0 ≤ n) (h1 : n ≤ 1000000) : IsDate n (yr n) (mo n) (da n) := by
  obtain ⟨y, m, d, h⟩ := date_ex h0 h1
  have he : ∃ t : Int × Int × Int, IsDate n t.1 t.2.1 t.2.2 := ⟨(y, m, d), h⟩
  unfold yr mo da dateT
  rw [dif_pos he]
  exact he.choose_spec
theorem IsDate.eqs {n y m d : Int} (h : IsDate n y m d) (h1 : n ≤ 1000000) : yr n = y ∧ mo n = m ∧ da n = d := (date_is h.nonneg h1).uniq h

theorem byr_400q (q : Int) : byr (1600 + q * 400) = 146097 * q := by unfold byr; omega
/-- what 'months' returns -/
noncomputable def monthsV (day n : Int) : Int × Int :=
  if 9999 < (n + (12 * yr day + mo day - 1)) / 12 then (0, 10)
  else dayV ((n + (12 * yr day + mo day - 1)) / 12) ((n + (12 * yr day + mo day - 1)) % 12 + 1) (min (da day) (mlen ((n + (12 * yr day + mo day - 1)) / 12) ((n + (12 * yr day + mo day - 1)) % 12 + 1)))
end Cal
end Go.Proofs.YtpelnfolnlmhdaaDoor
