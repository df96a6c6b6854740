/- THE CALENDAR IN PLAIN LEAN: open days, terms. -/
import Derived.Test.YtpelnfolnlmhdaaDoorCalPlainB
namespace Go.Proofs.YtpelnfolnlmhdaaDoor
namespace Cal

/-- are offices open on a day: the closed days are L -/
def opn (L : List Int) (n : Int) : Bool := decide (0 ≤ n ∧ n ≤ 1000000 ∧ (n + 5) % 7 < 5 ∧ n ∉ L)
theorem opn_no {L : List Int} {n : Int} (h : ¬ (0 ≤ n ∧ n ≤ 1000000 ∧ (n + 5) % 7 < 5 ∧ n ∉ L)) : opn L n = false := by simpa [opn] using h
theorem opn_yes {L : List Int} {n : Int} (h : 0 ≤ n ∧ n ≤ 1000000 ∧ (n + 5) % 7 < 5 ∧ n ∉ L) : opn L n = true := by simpa [opn] using h
theorem opn_iff {L : List Int} {n : Int} : opn L n = true ↔ (0 ≤ n ∧ n ≤ 1000000 ∧ (n + 5) % 7 < 5 ∧ n ∉ L) := by simp [opn]

/-- the first day from n on, of k days, that is open; n + k if there is none -/
def fromN (L : List Int) : Nat → Int → Int
  | 0, n => n
  | k + 1, n => if opn L n then n else fromN L k (n + 1)
/-- what 'from' returns -/
def fromV (L : List Int) (n : Int) : Int := if n < 0 then n else fromN L (1000001 - n).toNat n
theorem fromV_out {L : List Int} {n : Int} (h : n < 0 ∨ 1000000 < n) : fromV L n = n := by
  unfold fromV
  split
  · rfl
  · rw [show (1000001 - n).toNat = 0 by omega]; rfl
theorem fromV_open {L : List Int} {n : Int} (h : opn L n = true) : fromV L n = n := by
  have := opn_iff.1 h
  unfold fromV
  rw [if_neg (by omega)]
  obtain ⟨k, hk⟩ : ∃ k, (1000001 - n).toNat = k + 1 := ⟨(1000001 - n).toNat - 1, by omega⟩
  rw [hk, fromN, if_pos h]
theorem fromV_shut {L : List Int} {n : Int} (h0 : 0 ≤ n) (h1 : n ≤ 1000000) (h : opn L n = false) : fromV L n = fromV L (n + 1) := by
  unfold fromV
  rw [if_neg (by omega), if_neg (by omega)]
  obtain ⟨k, hk⟩ : ∃ k, (1000001 - n).toNat = k + 1 := ⟨(1000001 - n).toNat - 1, by omega⟩
  rw [hk, show (1000001 - (n + 1)).toNat = k by omega, fromN, h]; simp
/-- k working days on -/
def workN (L : List Int) : Nat → Int → Int
  | 0, e => e
  | k + 1, e => if 0 ≤ e ∧ e ≤ 1000000 then workN L k (fromV L (e + 1)) else e
/-- the first step of a term -/
noncomputable def firstV (day N U : Int) (L : List Int) : Int × Int :=
  if U = 1 then (day + N, 0) else if U = 2 then (day + 7 * N, 0) else if U = 3 then monthsV day N else if U = 4 then monthsV day (12 * N) else (workN L N.toNat day, 0)
/-- the second step -/
def lastV (L : List Int) (s : Int × Int) : Int × Int :=
  if s.2 ≠ 0 ∨ s.1 < 0 ∨ 1000000 < s.1 then (0, 10) else if 1000000 < fromV L s.1 then (0, 10) else (fromV L s.1, 0)
/-- are the arguments of 'Add' allowed -/
def argOk (day N U : Int) : Prop := 0 ≤ day ∧ day ≤ 1000000 ∧ 1 ≤ U ∧ U ≤ 5 ∧ 0 ≤ N ∧ N ≤ 1000000
instance (day N U : Int) : Decidable (argOk day N U) := by unfold argOk; infer_instance
/-- what 'Add' returns -/
noncomputable def addV (day N U : Int) (L : List Int) : Int × Int :=
  if ¬ argOk day N U then (0, 1) else if 1000 < L.length then (0, 2) else lastV L (firstV day N U L)
theorem addV_arg {day N U : Int} {L : List Int} (h : ¬ argOk day N U) : addV day N U L = (0, 1) := by unfold addV; rw [if_pos h]
theorem addV_limit {day N U : Int} {L : List Int} (h : argOk day N U) (hl : 1000 < L.length) : addV day N U L = (0, 2) := by unfold addV; rw [if_neg (fun g => g h), if_pos hl]
theorem addV_ok {day N U : Int} {L : List Int} (h : argOk day N U) (hl : L.length ≤ 1000) : addV day N U L = lastV L (firstV day N U L) := by unfold addV; rw [if_neg (fun g => g h), if_neg (by omega)]
theorem argOk_unit {day N U : Int} (h : argOk day N U) : U = 1 ∨ U = 2 ∨ U = 3 ∨ U = 4 ∨ U = 5 := by obtain ⟨_, _, h1, h2, _⟩ := h; omega
theorem firstV_1 (day N : Int) (L : List Int) : firstV day N 1 L = (day + N, 0) := by simp [firstV]
theorem firstV_2 (day N : Int) (L : List Int) : firstV day N 2 L = (day + 7 * N, 0) := by simp [firstV]
theorem firstV_3 (day N : Int) (L : List Int) : firstV day N 3 L = monthsV day N := by simp [firstV]
theorem firstV_4 (day N : Int) (L : List Int) : firstV day N 4 L = monthsV day (12 * N) := by simp [firstV]
theorem firstV_5 (day N : Int) (L : List Int) : firstV day N 5 L = (workN L N.toNat day, 0) := by simp [firstV]
theorem lastV_err {L : List Int} {a b : Int} (h : b ≠ 0 ∨ a < 0 ∨ 1000000 < a) : lastV L (a, b) = (0, 10) := by unfold lastV; rw [if_pos h]
theorem lastV_late {L : List Int} {a : Int} (h0 : 0 ≤ a) (h1 : a ≤ 1000000) (h : 1000000 < fromV L a) : lastV L (a, 0) = (0, 10) := by
  unfold lastV; rw [if_neg (by simp; omega), if_pos h]
theorem lastV_ok {L : List Int} {a : Int} (h0 : 0 ≤ a) (h1 : a ≤ 1000000) (h : fromV L a ≤ 1000000) : lastV L (a, 0) = (fromV L a, 0) := by
  unfold lastV; rw [if_neg (by simp; omega), if_neg (show ¬ 1000000 < fromV L a by omega)]
theorem workN_out {L : List Int} {e : Int} (h : e < 0 ∨ 1000000 < e) (k : Nat) : workN L k e = e := by
  cases k with
  | zero => rfl
  | succ k => rw [workN, if_neg (by omega)]
theorem workN_in {L : List Int} {e : Int} (h0 : 0 ≤ e) (h1 : e ≤ 1000000) (k : Nat) : workN L (k + 1) e = workN L k (fromV L (e + 1)) := by
  rw [workN, if_pos ⟨h0, h1⟩]
theorem fromN_bd (L : List Int) (k : Nat) : ∀ n : Int, n ≤ fromN L k n ∧ fromN L k n ≤ n + k := by
  induction k with
  | zero => intro n; simp [fromN]
  | succ k ih =>
    intro n
    rw [fromN]
    split
    · omega
    · have := ih (n + 1); omega
theorem fromV_ge (L : List Int) (n : Int) : n ≤ fromV L n := by
  unfold fromV; split
  · omega
  · exact (fromN_bd L _ n).1
theorem fromV_le (L : List Int) {n : Int} (h : n ≤ 1000001) : fromV L n ≤ 1000001 := by
  unfold fromV; split
  · omega
  · have := (fromN_bd L (1000001 - n).toNat n).2; omega
theorem workN_ge (L : List Int) (k : Nat) : ∀ e : Int, e ≤ workN L k e := by
  induction k with
  | zero => intro e; simp [workN]
  | succ k ih =>
    intro e
    rw [workN]
    split
    · have := fromV_ge L (e + 1); have := ih (fromV L (e + 1)); omega
    · omega
theorem workN_le (L : List Int) (k : Nat) : ∀ e : Int, e ≤ 1000001 → workN L k e ≤ 1000001 := by
  induction k with
  | zero => intro e h; simpa [workN] using h
  | succ k ih =>
    intro e h
    rw [workN]
    split
    · exact ih _ (fromV_le L (by omega))
    · exact h
theorem dayV_ok2 {y m d : Int} (h : (dayV y m d).2 = 0) : 0 ≤ (dayV y m d).1 ∧ (dayV y m d).1 ≤ 1000000 ∧ IsDate (dayV y m d).1 y m d := by
  unfold dayV at h ⊢
  split at h
  · simp at h
  · rename_i h1
    rw [if_neg h1]
    split at h
    · simp at h
    · rename_i h2
      rw [if_neg h2]
      split at h
      · simp at h
      · rename_i h3
        rw [if_neg h3]
        have hd : IsDate (num y m d) y m d := ⟨by omega, by omega, by omega, by omega, by omega, by omega, rfl⟩
        exact ⟨hd.nonneg, by simp only; omega, hd⟩
theorem dayV_bad {y m d : Int} (h : (dayV y m d).2 ≠ 0) : (dayV y m d).1 = 0 ∧ ((dayV y m d).2 = 1 ∨ (dayV y m d).2 = 10) := by
  unfold dayV at h ⊢
  split
  · simp
  · split
    · simp
    · split
      · simp
      · rename_i h1 h2 h3
        rw [if_neg h1, if_neg h2, if_neg h3] at h
        simp at h
theorem monthsV_ok2 {day n : Int} (h : (monthsV day n).2 = 0) : 0 ≤ (monthsV day n).1 ∧ (monthsV day n).1 ≤ 1000000 := by
  unfold monthsV at h ⊢
  split at h
  · simp at h
  · rename_i h1
    rw [if_neg h1]
    have := dayV_ok2 h
    exact ⟨this.1, this.2.1⟩
end Cal
end Go.Proofs.YtpelnfolnlmhdaaDoor
