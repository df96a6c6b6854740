/- THE PLAIN LAWS of Parse: splitting at a byte, digits. -/
import Derived.Lib.Split
import Derived.Lib.SplitLaws
import Derived.Lib.Atoi
import Derived.Laws.RangeAny
import Derived.Laws.RangeString
import Derived.Shelf.GgClosure.StringsIndexFunc
import Derived.Test.YtpelnfolnlmhdaaDoorCalPlainC
namespace Go.Proofs.YtpelnfolnlmhdaaDoor
namespace Cal

/-- a list parted at a byte -/
def splitL (c : UInt8) : List UInt8 → List (List UInt8)
  | [] => [[]]
  | b :: l => if b = c then [] :: splitL c l else match splitL c l with
    | [] => [[b]]
    | h :: t => (b :: h) :: t
theorem splitL_ne (c : UInt8) (l : List UInt8) : splitL c l ≠ [] := by
  cases l with
  | nil => simp [splitL]
  | cons b l =>
    rw [splitL]
    split
    · simp
    · split <;> simp
theorem splitL_none (c : UInt8) (l : List UInt8) (h : c ∉ l) : splitL c l = [l] := by
  induction l with
  | nil => rfl
  | cons b l ih =>
    simp only [List.mem_cons, not_or] at h
    rw [splitL, if_neg (fun e => h.1 e.symm), ih h.2]
theorem splitL_app (c : UInt8) (p l : List UInt8) (h : c ∉ p) : splitL c (p ++ c :: l) = p :: splitL c l := by
  induction p with
  | nil => simp [splitL]
  | cons b p ih =>
    simp only [List.mem_cons, not_or] at h
    rw [List.cons_append, splitL, if_neg (fun e => h.1 e.symm), ih h.2]
/-- the pieces put together again -/
def joinL (c : UInt8) : List (List UInt8) → List UInt8
  | [] => []
  | [p] => p
  | p :: q :: r => p ++ c :: joinL c (q :: r)
theorem joinL_split (c : UInt8) (l : List UInt8) : joinL c (splitL c l) = l := by
  induction l with
  | nil => rfl
  | cons b l ih =>
    have hne := splitL_ne c l
    rw [splitL]
    cases hs : splitL c l with
    | nil => exact absurd hs hne
    | cons h t =>
      rw [hs] at ih
      by_cases hb : b = c
      · rw [if_pos hb, joinL, ih, hb]; rfl
      · rw [if_neg hb]
        simp only
        cases t with
        | nil => simp only [joinL] at ih ⊢; rw [ih]
        | cons q r => simp only [joinL] at ih ⊢; rw [List.cons_append, ih]
theorem splitL_mem (c : UInt8) (l : List UInt8) : ∀ p ∈ splitL c l, c ∉ p := by
  induction l with
  | nil => intro p hp; simp [splitL] at hp; subst hp; simp
  | cons b l ih =>
    have hne := splitL_ne c l
    rw [splitL]
    cases hs : splitL c l with
    | nil => exact absurd hs hne
    | cons h t =>
      rw [hs] at ih
      by_cases hb : b = c
      · rw [if_pos hb]
        intro p hp
        rcases List.mem_cons.1 hp with rfl | hp
        · simp
        · exact ih p hp
      · rw [if_neg hb]
        intro p hp
        rcases List.mem_cons.1 hp with rfl | hp
        · simp only [List.mem_cons, not_or]
          exact ⟨fun e => hb e.symm, ih h List.mem_cons_self⟩
        · exact ih p (List.mem_cons_of_mem _ hp)
theorem splitL_three {c : UInt8} {l p q r : List UInt8} : splitL c l = [p, q, r] ↔ (l = p ++ c :: (q ++ c :: r) ∧ c ∉ p ∧ c ∉ q ∧ c ∉ r) := by
  constructor
  · intro h
    have hj := joinL_split c l
    have hm := splitL_mem c l
    rw [h] at hj hm
    exact ⟨hj.symm, hm p (by simp), hm q (by simp), hm r (by simp)⟩
  · rintro ⟨rfl, hp, hq, hr⟩
    rw [splitL_app c p _ hp, splitL_app c q _ hq, splitL_none c r hr]

theorem index_none (c : UInt8) (l : List UInt8) (h : c ∉ l) : Lib.index l [c] = -1 := by
  induction l with
  | nil => rfl
  | cons b l ih =>
    simp only [List.mem_cons, not_or] at h
    have hb : (c == b) = false := by rw [beq_eq_false_iff_ne]; exact h.1
    rw [Lib.index]
    simp [List.isPrefixOf, hb, ih h.2]
theorem splitK_splitL (c : UInt8) (l : List UInt8) : Lib.splitK [c] 0 (Lib.count l [c]) l = splitL c l := by
  induction l with
  | nil => rfl
  | cons b l ih =>
    by_cases hb : b = c
    · subst hb
      rw [Lib.count_cons_eq, show 1 + Lib.count l [b] = Lib.count l [b] + 1 by omega, Lib.splitK, splitL, if_pos rfl]
      have hi : Lib.index (b :: l) [b] = 0 := by simp [Lib.index, List.isPrefixOf]
      rw [hi]
      simpa using ih
    · have hbc : (c == b) = false := by rw [beq_eq_false_iff_ne]; exact fun e => hb e.symm
      rw [Lib.count_cons_ne b c l hb, splitL, if_neg hb]
      have hi : Lib.index (b :: l) [c] = if Lib.index l [c] == -1 then -1 else Lib.index l [c] + 1 := by
        simp [Lib.index, List.isPrefixOf, hbc]
      cases hk : Lib.count l [c] with
      | zero =>
        have hm : c ∉ l := by
          rw [Lib.count_one] at hk
          exact List.count_eq_zero.1 hk
        rw [splitL_none c l hm]
        rfl
      | succ k =>
        rw [hk] at ih
        have hm : c ∈ l := by
          rw [Lib.count_one] at hk
          exact List.count_pos_iff.1 (by omega)
        rw [Lib.splitK] at ih ⊢
        rw [hi]
        by_cases hn : Lib.index l [c] == -1
        · rw [if_pos hn] at ih ⊢
          rw [← ih]
          simp
        · rw [if_neg hn] at ih ⊢
          have hge := Lib.index_ge l [c]
          have hn2 : Lib.index l [c] ≠ -1 := by simpa using hn
          rw [if_neg (by simp; omega), ← ih]
          simp only
          rw [show (Lib.index l [c] + 1).toNat = (Lib.index l [c]).toNat + 1 by omega]
          simp
end Cal
end Go.Proofs.YtpelnfolnlmhdaaDoor
