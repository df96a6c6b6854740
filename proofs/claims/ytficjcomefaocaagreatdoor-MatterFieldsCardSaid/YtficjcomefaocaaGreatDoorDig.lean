/- DIGITS in plain Lean: what Atoi makes of them. -/
import Derived.Lib.Atoi
import Derived.Test.YtficjcomefaocaaGreatDoorBaseA
namespace Go.Proofs.YtficjcomefaocaaGreatDoor
namespace Lexer

def digB (b : UInt8) : Bool := decide (48 ≤ b.toNat ∧ b.toNat ≤ 57)
theorem digB_iff {b : UInt8} : digB b = true ↔ (48 ≤ b.toNat ∧ b.toNat ≤ 57) := by simp [digB]
/-- all bytes are digits -/
def digL (l : List UInt8) : Bool := l.all digB
theorem digL_iff {l : List UInt8} : digL l = true ↔ ∀ b ∈ l, digB b = true := by simp [digL]
/-- the number of a list of digits -/
def numF (acc : Int) (l : List UInt8) : Int := l.foldl (fun a b => 10 * a + ((b.toNat : Int) - 48)) acc
def numL (l : List UInt8) : Int := numF 0 l
theorem decFrom_num (l : List UInt8) : ∀ acc : Nat, digL l = true → ∃ n : Nat, Lib.decFrom acc l = some n ∧ (n : Int) = numF acc l := by
  induction l with
  | nil => intro acc _; exact ⟨acc, rfl, rfl⟩
  | cons b l ih =>
    intro acc h
    simp only [digL, List.all_cons, Bool.and_eq_true] at h
    have hb := digB_iff.1 h.1
    obtain ⟨n, hn, he⟩ := ih (acc * 10 + (b.toNat - 48)) h.2
    refine ⟨n, ?_, ?_⟩
    · rw [Lib.decFrom, Lib.digitVal, if_pos hb]; exact hn
    · rw [he, numF, numF, List.foldl_cons]
      congr 1
      omega
theorem atoi_num (l : List UInt8) (hne : l ≠ []) (h : digL l = true) : Lib.atoi l = some (numL l) := by
  cases l with
  | nil => exact absurd rfl hne
  | cons b r =>
    have hb := digB_iff.1 (digL_iff.1 h b (by simp))
    have h45 : (b == 45) = false := by rw [beq_eq_false_iff_ne]; rintro rfl; revert hb; decide
    have h43 : (b == 43) = false := by rw [beq_eq_false_iff_ne]; rintro rfl; revert hb; decide
    obtain ⟨n, hn, he⟩ := decFrom_num (b :: r) 0 h
    rw [Lib.atoi, h45, h43]
    simp only [Bool.false_eq_true, if_false]
    rw [Lib.decNat, List.isEmpty_cons]
    simp only [Bool.false_eq_true, if_false]
    rw [hn, Option.map_some, he]
    rfl

theorem cls_digit {b : Nat} (h : cls b = 4) : 48 ≤ b ∧ b ≤ 57 := by
  unfold cls at h
  by_cases h2 : 48 ≤ b ∧ b ≤ 57
  · exact h2
  · (repeat' split at h) <;> omega
theorem at_bt {s : ByteArray} {m : Nat} {c : Nat} (h : at' s m = c) (hc : c ≠ 0) : m < s.size ∧ cls (bt s m) = c := by
  have hm : m < s.size := at_in (by rw [h]; exact hc)
  unfold at' at h
  rw [if_neg (by omega)] at h
  exact ⟨hm, h⟩
theorem bt_eq {s : ByteArray} {m : Nat} (h : m < s.size) : bt s m = (s[m]'h).toNat := by
  unfold bt
  rw [List.getD_eq_getElem?_getD, List.getElem?_eq_getElem (by simpa using h)]
  rfl
theorem atoi_part {s : ByteArray} {k j : Nat} (hkj : k < j) (hj : j ≤ s.size) (h : ∀ m, k ≤ m → m < j → at' s m = 4) : ∃ n, Lib.atoi (s.extract k j).data.toList = some n := by
  refine ⟨_, atoi_num _ ?_ (digL_iff.2 fun b hb => ?_)⟩
  · intro e
    have : (s.extract k j).size = 0 := by
      show (s.extract k j).data.size = 0
      rw [← Array.length_toList, e]; rfl
    rw [ByteArray.size_extract] at this
    omega
  · obtain ⟨i, hi, rfl⟩ := List.getElem_of_mem hb
    have hi2 : i < (s.extract k j).size := by
      show i < (s.extract k j).data.size
      rw [← Array.length_toList]; exact hi
    rw [ByteArray.size_extract] at hi2
    have hm : k + i < s.size := by omega
    have h4 := cls_digit (at_bt (h (k + i) (by omega) (by omega)) (by omega)).2
    rw [bt_eq hm] at h4
    have e : (s.extract k j).data.toList[i] = s[k + i] := by
      have h1 : (s.extract k j).data = s.data.extract k j := ByteArray.data_extract ..
      simp only [h1, Array.getElem_toList, Array.getElem_extract]
      rfl
    rw [e, digB_iff]
    exact h4
end Lexer
end Go.Proofs.YtficjcomefaocaaGreatDoor
