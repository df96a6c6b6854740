/- THE PLAIN LAW of CalendarEnds: what 'Add' gives. -/
import Derived.Test.YtpelnfolnlmhdaaDoorCalPlainC
namespace Go.Proofs.YtpelnfolnlmhdaaDoor
namespace Cal

/-- the first of a month, by the months since the year 0 -/
def ms (T : Int) : Int := byr (T / 12) + cum (T / 12) (T % 12 + 1)
theorem ms_succ {T : Int} (h0 : 19200 ≤ T) (h1 : T < 120000) : ms (T + 1) = ms T + mlen (T / 12) (T % 12 + 1) := by
  unfold ms
  by_cases h : T % 12 = 11
  · have e1 : (T + 1) / 12 = T / 12 + 1 := by omega
    have e2 : (T + 1) % 12 = 0 := by omega
    have c := cum_succ (T / 12) 12 (by omega) (by omega)
    have c13 : cum (T / 12) (12 + 1) = 337 + feb (T / 12) := cum_13 _
    rw [e1, e2, h, byr_succ, feb_ylen _ (by omega) (by omega), show (0 : Int) + 1 = 1 from rfl, cum_one, show (11 : Int) + 1 = 12 from rfl]
    omega
  · have e1 : (T + 1) / 12 = T / 12 := by omega
    have e2 : (T + 1) % 12 = T % 12 + 1 := by omega
    have c := cum_succ (T / 12) (T % 12 + 1) (by omega) (by omega)
    rw [e1, e2, c]; omega
theorem ms_mono (k : Nat) : ∀ T : Int, 19200 ≤ T → T + k ≤ 120000 → ms T + 28 * k ≤ ms (T + k) := by
  induction k with
  | zero => intro T _ _; simp
  | succ k ih =>
    intro T h0 h1
    have h := ih T h0 (by omega)
    have hs := ms_succ (T := T + k) (by omega) (by omega)
    have hm := mlen_bd ((T + k) / 12) ((T + k) % 12 + 1)
    rw [show T + ((k + 1 : Nat) : Int) = T + k + 1 by omega, hs]; omega
theorem ms_le {a b : Int} (h0 : 19200 ≤ a) (h : a ≤ b) (h1 : b ≤ 120000) : ms a + 28 * (b - a) ≤ ms b := by
  have := ms_mono (b - a).toNat a h0 (by omega)
  rw [show a + ((b - a).toNat : Int) = b by omega] at this; omega
theorem num_ms {y m d : Int} (h1 : 1 ≤ m) (h2 : m ≤ 12) : num y m d = ms (12 * y + (m - 1)) + d - 1 := by
  unfold num ms
  rw [show (12 * y + (m - 1)) / 12 = y by omega, show (12 * y + (m - 1)) % 12 + 1 = m by omega]

/-- what 'months' gives where it has no error -/
theorem monthsV_val {day n x : Int} (h0 : 0 ≤ day) (h1 : day ≤ 1000000) (n0 : 0 ≤ n) (h : monthsV day n = (x, 0)) :
    ∃ T d : Int, T = n + (12 * yr day + mo day - 1) ∧ 19200 ≤ T ∧ T < 120000 ∧ d = min (da day) (mlen (T / 12) (T % 12 + 1)) ∧ x = ms T + d - 1 ∧ x ≤ 1000000 := by
  have hd := date_is h0 h1
  have := hd.y0; have := hd.m0; have := hd.m1; have := hd.d0
  refine ⟨_, _, rfl, by omega, ?_, rfl, ?_⟩
  · unfold monthsV at h
    split at h
    · simp at h
    · omega
  · unfold monthsV at h
    split at h
    · simp at h
    · have hz : (dayV ((n + (12 * yr day + mo day - 1)) / 12) ((n + (12 * yr day + mo day - 1)) % 12 + 1) (min (da day) (mlen ((n + (12 * yr day + mo day - 1)) / 12) ((n + (12 * yr day + mo day - 1)) % 12 + 1)))).2 = 0 := by rw [h]
      obtain ⟨a, b, c⟩ := dayV_ok2 hz
      rw [h] at b c
      have e := c.eq
      rw [num_ms c.m0 c.m1] at e
      refine ⟨?_, b⟩
      rw [show 12 * ((n + (12 * yr day + mo day - 1)) / 12) + ((n + (12 * yr day + mo day - 1)) % 12 + 1 - 1) = n + (12 * yr day + mo day - 1) by omega] at e
      exact e.symm
theorem monthsV_ge {day n x : Int} (h0 : 0 ≤ day) (h1 : day ≤ 1000000) (n0 : 0 ≤ n) (h : monthsV day n = (x, 0)) : day ≤ x := by
  obtain ⟨T, d, hT, t0, t1, hd, hx, _⟩ := monthsV_val h0 h1 n0 h
  have hdt := date_is h0 h1
  have he := hdt.eq
  rw [num_ms hdt.m0 hdt.m1] at he
  have hdd := hdt.d1
  have hd0 := hdt.d0
  have := hdt.y0; have := hdt.y1; have := hdt.m0; have := hdt.m1
  by_cases hn : n = 0
  · have e : T = 12 * yr day + (mo day - 1) := by omega
    rw [e, show (12 * yr day + (mo day - 1)) / 12 = yr day by omega, show (12 * yr day + (mo day - 1)) % 12 + 1 = mo day by omega, Int.min_eq_left hdd] at hd
    rw [hx, hd, e]; omega
  · have hle := ms_le (a := 12 * yr day + (mo day - 1) + 1) (b := T) (by omega) (by omega) (by omega)
    have hs := ms_succ (T := 12 * yr day + (mo day - 1)) (by omega) (by omega)
    rw [show (12 * yr day + (mo day - 1)) / 12 = yr day by omega, show (12 * yr day + (mo day - 1)) % 12 + 1 = mo day by omega] at hs
    have hm := mlen_bd (T / 12) (T % 12 + 1)
    have : 1 ≤ d := by rw [hd]; omega
    omega

/-- the days that 'from' passes are not open -/
theorem fromN_shut (L : List Int) (k : Nat) : ∀ n d : Int, n ≤ d → d < fromN L k n → opn L d = false := by
  induction k with
  | zero => intro n d h1 h2; simp only [fromN] at h2; omega
  | succ k ih =>
    intro n d h1 h2
    rw [fromN] at h2
    split at h2
    · omega
    · rename_i hno
      by_cases hd : d = n
      · subst hd; simpa using hno
      · exact ih (n + 1) d (by omega) h2
theorem fromV_none {L : List Int} {n d : Int} (h1 : n ≤ d) (h2 : d < fromV L n) : opn L d = false := by
  unfold fromV at h2
  split at h2
  · omega
  · exact fromN_shut L _ n d h1 h2
theorem fromN_open (L : List Int) (k : Nat) : ∀ n : Int, fromN L k n < n + k → opn L (fromN L k n) = true := by
  induction k with
  | zero => intro n h; simp only [fromN] at h; omega
  | succ k ih =>
    intro n h
    rw [fromN] at h ⊢
    split
    · assumption
    · rename_i hno
      rw [if_neg hno] at h
      exact ih (n + 1) (by omega)
theorem fromV_isopen {L : List Int} {n : Int} (h0 : 0 ≤ n) (h : fromV L n ≤ 1000000) : opn L (fromV L n) = true := by
  have hg := fromV_ge L n
  unfold fromV at h ⊢
  rw [if_neg (by omega)] at h ⊢
  exact fromN_open L _ n (by omega)

/-- what a term without an error gives -/
theorem addV_val {day N U e : Int} {L : List Int} (h : addV day N U L = (e, 0)) :
    argOk day N U ∧ L.length ≤ 1000 ∧ ∃ s, firstV day N U L = (s, 0) ∧ 0 ≤ s ∧ s ≤ 1000000 ∧ e = fromV L s ∧ e ≤ 1000000 := by
  by_cases ha : argOk day N U
  · by_cases hl : 1000 < L.length
    · rw [addV_limit ha hl] at h; simp at h
    · rw [addV_ok ha (by omega)] at h
      unfold lastV at h
      split at h
      · simp at h
      · rename_i hc
        split at h
        · simp at h
        · have hs : (firstV day N U L).2 = 0 := by
            rcases Decidable.em ((firstV day N U L).2 = 0) with hz | hz
            · exact hz
            · exact absurd (.inl hz) hc
          refine ⟨ha, by omega, (firstV day N U L).1, by rw [← hs], by omega, by omega, ?_, ?_⟩
          · simp only [Prod.mk.injEq, and_true] at h; exact h.symm
          · simp only [Prod.mk.injEq, and_true] at h; omega
  · rw [addV_arg ha] at h; simp at h
theorem addV_err {day N U a e : Int} {L : List Int} (h : addV day N U L = (a, e)) (he : e ≠ 0) : a = 0 := by
  unfold addV at h
  split at h
  · simp only [Prod.mk.injEq] at h; exact h.1.symm
  · split at h
    · simp only [Prod.mk.injEq] at h; exact h.1.symm
    · unfold lastV at h
      split at h
      · simp only [Prod.mk.injEq] at h; exact h.1.symm
      · split at h
        · simp only [Prod.mk.injEq] at h; exact h.1.symm
        · simp only [Prod.mk.injEq] at h; exact absurd h.2.symm he
theorem first_ge {day N U s : Int} {L : List Int} (ha : argOk day N U) (h : firstV day N U L = (s, 0)) : day ≤ s := by
  obtain ⟨h0, h1, _, _, n0, n1⟩ := id ha
  rcases argOk_unit ha with rfl | rfl | rfl | rfl | rfl
  · rw [firstV_1] at h; simp only [Prod.mk.injEq, and_true] at h; omega
  · rw [firstV_2] at h; simp only [Prod.mk.injEq, and_true] at h; omega
  · rw [firstV_3] at h; exact monthsV_ge h0 h1 n0 h
  · rw [firstV_4] at h; exact monthsV_ge h0 h1 (by omega) h
  · rw [firstV_5] at h; simp only [Prod.mk.injEq, and_true] at h; rw [← h]; exact workN_ge L _ _
theorem add_end {day N U e : Int} {L : List Int} (h : addV day N U L = (e, 0)) : day ≤ e ∧ e ≤ 1000000 ∧ opn L e = true := by
  obtain ⟨ha, _, s, hf, s0, s1, rfl, he⟩ := addV_val h
  exact ⟨Int.le_trans (first_ge ha hf) (fromV_ge L s), he, fromV_isopen s0 he⟩

/-- how many of the k days behind day a are open -/
def cO (L : List Int) (a : Int) : Nat → Int
  | 0 => 0
  | k + 1 => cO L a k + if opn L (a + k + 1) then 1 else 0
theorem cO_add (L : List Int) (a : Int) (j k : Nat) : cO L a (j + k) = cO L a j + cO L (a + j) k := by
  induction k with
  | zero => simp [cO]
  | succ k ih =>
    rw [show j + (k + 1) = j + k + 1 from rfl, cO, ih, cO, show a + ((j + k : Nat) : Int) + 1 = a + j + k + 1 by omega]
    omega
theorem cO_none (L : List Int) (a : Int) (k : Nat) (h : ∀ d, a < d → d ≤ a + k → opn L d = false) : cO L a k = 0 := by
  induction k with
  | zero => rfl
  | succ k ih =>
    rw [cO, ih (fun d h1 h2 => h d h1 (by omega)), h (a + k + 1) (by omega) (by omega)]
    simp
theorem cO_bd (L : List Int) (a : Int) (k : Nat) : 0 ≤ cO L a k ∧ cO L a k ≤ k := by
  induction k with
  | zero => simp [cO]
  | succ k ih => rw [cO]; split <;> omega
theorem work_count (L : List Int) (k : Nat) : ∀ e : Int, 0 ≤ e → workN L k e ≤ 1000000 → cO L e (workN L k e - e).toNat = k ∧ (1 ≤ k → opn L (workN L k e) = true) := by
  induction k with
  | zero => intro e _ _; simp [workN, cO]
  | succ k ih =>
    intro e h0 h1
    by_cases hin : e ≤ 1000000
    · rw [workN_in h0 hin] at h1 ⊢
      have hg := fromV_ge L (e + 1)
      have hw := workN_ge L k (fromV L (e + 1))
      obtain ⟨hc, ho⟩ := ih (fromV L (e + 1)) (by omega) h1
      have hopen := fromV_isopen (L := L) (n := e + 1) (by omega) (by omega)
      obtain ⟨j, hj⟩ : ∃ j : Nat, fromV L (e + 1) = e + 1 + j := ⟨(fromV L (e + 1) - (e + 1)).toNat, by omega⟩
      have h1c : cO L e (j + 1) = 1 := by
        rw [cO, cO_none L e j (fun d hd1 hd2 => fromV_none (n := e + 1) (by omega) (by omega)), show e + (j : Int) + 1 = fromV L (e + 1) by omega, hopen]
        simp
      constructor
      · rw [show (workN L k (fromV L (e + 1)) - e).toNat = (j + 1) + (workN L k (fromV L (e + 1)) - fromV L (e + 1)).toNat by omega, cO_add, h1c, show e + ((j + 1 : Nat) : Int) = fromV L (e + 1) by omega, hc]
        omega
      · intro _
        rcases Nat.eq_zero_or_pos k with hk | hk
        · subst hk; simpa [workN] using hopen
        · exact ho hk
    · rw [workN_out (.inr (by omega))] at h1; omega
theorem add_work_count {day N e : Int} {L : List Int} (h : addV day N 5 L = (e, 0)) (hN : N ≠ 0) : cO L day (e - day).toNat = N := by
  obtain ⟨ha, _, s, hf, s0, s1, rfl, he⟩ := addV_val h
  obtain ⟨h0, h1, _, _, n0, n1⟩ := ha
  rw [firstV_5] at hf
  simp only [Prod.mk.injEq, and_true] at hf
  subst hf
  obtain ⟨hc, ho⟩ := work_count L N.toNat day h0 s1
  rw [fromV_open (ho (by omega)), hc]; omega
theorem add_day_none {day N e : Int} {L : List Int} (h : addV day N 1 L = (e, 0)) : day + N ≤ e ∧ ∀ d, day + N ≤ d → d < e → opn L d = false := by
  obtain ⟨ha, _, s, hf, s0, s1, rfl, he⟩ := addV_val h
  rw [firstV_1] at hf
  simp only [Prod.mk.injEq, and_true] at hf
  subst hf
  exact ⟨fromV_ge L _, fun d h1 h2 => fromV_none h1 h2⟩
theorem add_week_none {day N e : Int} {L : List Int} (h : addV day N 2 L = (e, 0)) : day + 7 * N ≤ e ∧ ∀ d, day + 7 * N ≤ d → d < e → opn L d = false := by
  obtain ⟨ha, _, s, hf, s0, s1, rfl, he⟩ := addV_val h
  rw [firstV_2] at hf
  simp only [Prod.mk.injEq, and_true] at hf
  subst hf
  exact ⟨fromV_ge L _, fun d h1 h2 => fromV_none h1 h2⟩
theorem add_work0_none {day e : Int} {L : List Int} (h : addV day 0 5 L = (e, 0)) : day ≤ e ∧ ∀ d, day ≤ d → d < e → opn L d = false := by
  obtain ⟨ha, _, s, hf, s0, s1, rfl, he⟩ := addV_val h
  rw [firstV_5] at hf
  simp only [Prod.mk.injEq, and_true] at hf
  subst hf
  exact ⟨fromV_ge L _, fun d h1 h2 => fromV_none h1 h2⟩
end Cal
end Go.Proofs.YtpelnfolnlmhdaaDoor
