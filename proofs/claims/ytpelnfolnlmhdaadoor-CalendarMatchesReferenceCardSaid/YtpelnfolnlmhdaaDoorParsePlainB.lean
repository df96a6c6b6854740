/- THE PLAIN LAWS of Parse: digits, what Parse returns. -/
import Derived.Test.YtpelnfolnlmhdaaDoorParsePlain
namespace Go.Proofs.YtpelnfolnlmhdaaDoor
namespace Cal

def digB (b : UInt8) : Bool := decide (48 ≤ b.toNat ∧ b.toNat ≤ 57)
theorem digB_iff {b : UInt8} : digB b = true ↔ (48 ≤ b.toNat ∧ b.toNat ≤ 57) := by simp [digB]
/-- all bytes are digits -/
def digL (l : List UInt8) : Bool := l.all digB
theorem digL_iff {l : List UInt8} : digL l = true ↔ ∀ b ∈ l, digB b = true := by simp [digL]
/-- what the closure of Parse asks of a rune -/
def pRune (x : Nat) : Bool := decide (x < 48 ∨ 57 < x)

theorem get_mem (s : ByteArray) (i : Nat) (h : i < s.size) : s[i] ∈ s.data.toList := by
  have : s[i] = s.data[i] := rfl
  rw [this]
  exact Array.mem_toList_iff.2 (Array.getElem_mem h)
theorem idx_no (s : ByteArray) (hd : digL s.data.toList = true) : ∀ f pos, Lib.idxFuncFrom pRune true s f pos = -1 := by
  intro f
  induction f with
  | zero => intro pos; rfl
  | succ f ih =>
    intro pos
    rw [Lib.idxFuncFrom]
    by_cases hp : pos < s.size
    · have hb := digB_iff.1 (digL_iff.1 hd _ (get_mem s pos hp))
      rw [if_pos hp, decode_ascii s pos hp (by omega)]
      have hr : pRune (s[pos]).toNat = false := by simp [pRune]; omega
      rw [hr]
      simpa using ih (pos + 1)
    · rw [if_neg hp]
theorem idx_yes (s : ByteArray) : ∀ f pos, s.size ≤ pos + f → (∃ i, ∃ h : i < s.size, pos ≤ i ∧ digB s[i] = false) → 0 ≤ Lib.idxFuncFrom pRune true s f pos := by
  intro f
  induction f with
  | zero => rintro pos hf ⟨i, hi, h1, _⟩; omega
  | succ f ih =>
    rintro pos hf ⟨i, hi, h1, h2⟩
    have hp : pos < s.size := by omega
    rw [Lib.idxFuncFrom, if_pos hp]
    cases hb : digB s[pos] with
    | true =>
      have hb' := digB_iff.1 hb
      rw [decode_ascii s pos hp (by omega)]
      have hr : pRune (s[pos]).toNat = false := by simp [pRune]; omega
      rw [hr]
      have hne : pos ≠ i := by rintro rfl; rw [hb] at h2; cases h2
      simpa using ih (pos + 1) (by omega) ⟨i, hi, by omega, h2⟩
    | false =>
      have hb' : ¬ (48 ≤ (s[pos]).toNat ∧ (s[pos]).toNat ≤ 57) := by simpa [digB] using hb
      have hr : pRune (Utf8.decode s pos).1 = true := by
        by_cases ha : (s[pos]).toNat < 128
        · rw [decode_ascii s pos hp ha]; simp [pRune]; omega
        · have := decode_high s pos hp (by omega)
          simp [pRune]; omega
      rw [hr]
      simp
theorem contains_digits (s : ByteArray) : decide (0 ≤ Lib.idxFunc pRune true s) = !digL s.data.toList := by
  cases hd : digL s.data.toList with
  | true => simp [Lib.idxFunc, idx_no s hd]
  | false =>
    have h : ∃ b ∈ s.data.toList, digB b = false := by
      simp only [digL, List.all_eq_false] at hd
      obtain ⟨b, hb, h⟩ := hd
      exact ⟨b, hb, by simpa using h⟩
    obtain ⟨b, hb, h⟩ := h
    obtain ⟨i, hi, he⟩ := List.mem_iff_getElem.1 hb
    have hi' : i < s.size := by simpa using hi
    have := idx_yes s s.size 0 (by omega) ⟨i, hi', by omega, by
      have e : s[i] = b := by rw [← he]; rfl
      rw [e]; exact h⟩
    have e : decide (0 ≤ Lib.idxFunc pRune true s) = true := by rw [decide_eq_true_eq]; exact this
    rw [e]; rfl

/-- the number of a list of digits -/
def numF (acc : Int) (l : List UInt8) : Int := l.foldl (fun a b => 10 * a + ((b.toNat : Int) - 48)) acc
def numL (l : List UInt8) : Int := numF 0 l
theorem decFrom_num (l : List UInt8) : ∀ acc : Nat, digL l = true → ∃ n : Nat, Lib.decFrom acc l = some n ∧ (n : Int) = numF acc l := by
  induction l with
  | nil => intro acc _; exact ⟨acc, rfl, rfl⟩
  | cons b l ih =>
    intro acc h
    simp only [digL, List.all_cons, Bool.and_eq_true] at h
    have hb := digB_iff.1 h.1
    obtain ⟨n, hn, he⟩ := ih (acc * 10 + (b.toNat - 48)) h.2
    refine ⟨n, ?_, ?_⟩
    · rw [Lib.decFrom, Lib.digitVal, if_pos hb]; exact hn
    · rw [he, numF, numF, List.foldl_cons]
      congr 1
      omega
theorem atoi_num (l : List UInt8) (hne : l ≠ []) (h : digL l = true) : Lib.atoi l = some (numL l) := by
  cases l with
  | nil => exact absurd rfl hne
  | cons b r =>
    have hb := digB_iff.1 (digL_iff.1 h b (by simp))
    have h45 : (b == 45) = false := by rw [beq_eq_false_iff_ne]; rintro rfl; revert hb; decide
    have h43 : (b == 43) = false := by rw [beq_eq_false_iff_ne]; rintro rfl; revert hb; decide
    obtain ⟨n, hn, he⟩ := decFrom_num (b :: r) 0 h
    rw [Lib.atoi, h45, h43]
    simp only [Bool.false_eq_true, if_false]
    rw [Lib.decNat, List.isEmpty_cons]
    simp only [Bool.false_eq_true, if_false]
    rw [hn, Option.map_some, he]
    rfl
theorem numL_bd4 {l : List UInt8} (h : digL l = true) (hl : l.length = 4) : 0 ≤ numL l ∧ numL l ≤ 9999 := by
  match l, hl with
  | [a, b, c, d], _ =>
    simp only [digL, List.all_cons, List.all_nil, Bool.and_eq_true, digB_iff] at h
    simp only [numL, numF, List.foldl_cons, List.foldl_nil]
    omega
theorem numL_bd2 {l : List UInt8} (h : digL l = true) (hl : l.length = 2) : 0 ≤ numL l ∧ numL l ≤ 99 := by
  match l, hl with
  | [a, b], _ =>
    simp only [digL, List.all_cons, List.all_nil, Bool.and_eq_true, digB_iff] at h
    simp only [numL, numF, List.foldl_cons, List.foldl_nil]
    omega

/-- the text spells year, month and day -/
def Iso (l : List UInt8) (y m d : Int) : Prop :=
  ∃ p q r, splitL 45 l = [p, q, r] ∧ p.length = 4 ∧ q.length = 2 ∧ r.length = 2 ∧ digL p = true ∧ digL q = true ∧ digL r = true ∧ y = numL p ∧ m = numL q ∧ d = numL r
theorem Iso.len {l : List UInt8} {y m d : Int} (h : Iso l y m d) : l.length = 10 := by
  obtain ⟨p, q, r, hs, hp, hq, hr, _⟩ := h
  rw [(splitL_three.1 hs).1]
  simp only [List.length_append, List.length_cons]
  omega
theorem Iso.uniq {l : List UInt8} {y m d y' m' d' : Int} (h : Iso l y m d) (h' : Iso l y' m' d') : y = y' ∧ m = m' ∧ d = d' := by
  obtain ⟨p, q, r, hs, _, _, _, _, _, _, rfl, rfl, rfl⟩ := h
  obtain ⟨p', q', r', hs', _, _, _, _, _, _, rfl, rfl, rfl⟩ := h'
  rw [hs] at hs'
  simp only [List.cons.injEq, and_true] at hs'
  obtain ⟨rfl, rfl, rfl⟩ := hs'
  exact ⟨rfl, rfl, rfl⟩
open Classical in
/-- what 'Parse' returns -/
noncomputable def parseV (l : List UInt8) : Int × Int :=
  if h : ∃ t : Int × Int × Int, Iso l t.1 t.2.1 t.2.2 then (if (dayV h.choose.1 h.choose.2.1 h.choose.2.2).2 = 0 then dayV h.choose.1 h.choose.2.1 h.choose.2.2 else (0, 5)) else (0, 5)
theorem parseV_iso {l : List UInt8} {y m d : Int} (h : Iso l y m d) : parseV l = if (dayV y m d).2 = 0 then dayV y m d else (0, 5) := by
  have he : ∃ t : Int × Int × Int, Iso l t.1 t.2.1 t.2.2 := ⟨(y, m, d), h⟩
  obtain ⟨e1, e2, e3⟩ := he.choose_spec.uniq h
  unfold parseV
  rw [dif_pos he, e1, e2, e3]
theorem parseV_not {l : List UInt8} (h : ¬ ∃ y m d, Iso l y m d) : parseV l = (0, 5) := by
  unfold parseV
  rw [dif_neg]
  rintro ⟨t, ht⟩
  exact h ⟨_, _, _, ht⟩
end Cal
end Go.Proofs.YtpelnfolnlmhdaaDoor
