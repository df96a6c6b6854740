/- THE PLAIN LAW of CalendarMany. -/
import Derived.Test.YtpelnfolnlmhdaaDoorCalPlainC
namespace Go.Proofs.YtpelnfolnlmhdaaDoor
namespace Cal

theorem fromV_char {L : List Int} (k : Nat) : ∀ n : Int, 0 ≤ n → n + k ≤ 1000000 → opn L (n + k) = true → (∀ d, n ≤ d → d < n + k → opn L d = false) → fromV L n = n + k := by
  induction k with
  | zero => intro n _ _ h _; simpa using fromV_open (n := n) (by simpa using h)
  | succ k ih =>
    intro n h0 h1 h2 h3
    have e : n + ((k + 1 : Nat) : Int) = n + 1 + k := by omega
    rw [fromV_shut h0 (by omega) (h3 n (by omega) (by omega)), ih (n + 1) (by omega) (by omega) (by rw [← e]; exact h2) (fun d hd1 hd2 => h3 d (by omega) (by omega)), e]

/-- the closed days that the statement lays -/
def span (day : Int) (n : Nat) : List Int := (List.range n).map fun (i : Nat) => day + (i : Int)
theorem span_length (day : Int) (n : Nat) : (span day n).length = n := by simp [span]
theorem span_mem (day : Int) (n : Nat) (d : Int) : d ∈ span day n ↔ day ≤ d ∧ d < day + n := by
  simp only [span, List.mem_map, List.mem_range]
  constructor
  · rintro ⟨i, hi, rfl⟩; omega
  · intro h; exact ⟨(d - day).toNat, by omega, by omega⟩
theorem span_getD (day : Int) (n k : Nat) (hk : k < n) : (span day n).getD k 0 = day + k := by
  rw [List.getD_eq_getElem?_getD, span, List.getElem?_map, List.getElem?_range hk]; rfl

theorem many_few (day : Int) (n : Nat) (h0 : 0 ≤ day) (h1 : day ≤ 65535) (hn : n ≤ 1000) :
    ∃ r : Int, addV day 0 1 (span day n) = (r, 0) ∧ day + n ≤ r ∧ r ≤ day + n + 2 := by
  have key : ∃ j : Nat, j ≤ 2 ∧ fromV (span day n) day = day + n + j := by
    have hshut : ∀ d, day ≤ d → d < day + n → opn (span day n) d = false := fun d hd1 hd2 => opn_no (fun h => h.2.2.2 ((span_mem day n d).2 ⟨hd1, hd2⟩))
    have hwd : ∀ d, ¬ (d + 5) % 7 < 5 → opn (span day n) d = false := fun d hd => opn_no (fun h => hd h.2.2.1)
    have hop : ∀ d, day + n ≤ d → d ≤ 1000000 → (d + 5) % 7 < 5 → opn (span day n) d = true := fun d hd1 hd2 hd3 => opn_yes ⟨by omega, hd2, hd3, fun h => by have := (span_mem day n d).1 h; omega⟩
    by_cases c0 : (day + n + 5) % 7 < 5
    · exact ⟨0, by omega, by have := fromV_char (L := span day n) n day h0 (by omega) (hop _ (by omega) (by omega) c0) hshut; omega⟩
    · by_cases c1 : (day + n + 1 + 5) % 7 < 5
      · refine ⟨1, by omega, ?_⟩
        have := fromV_char (L := span day n) (n + 1) day h0 (by omega) (by rw [show day + ((n + 1 : Nat) : Int) = day + n + 1 by omega]; exact hop _ (by omega) (by omega) c1) (fun d hd1 hd2 => by
          by_cases hd : d < day + n
          · exact hshut d hd1 hd
          · exact hwd d (by rw [show d = day + n by omega]; exact c0))
        omega
      · refine ⟨2, by omega, ?_⟩
        have := fromV_char (L := span day n) (n + 2) day h0 (by omega) (by rw [show day + ((n + 2 : Nat) : Int) = day + n + 2 by omega]; exact hop _ (by omega) (by omega) (by omega)) (fun d hd1 hd2 => by
          by_cases hd : d < day + n
          · exact hshut d hd1 hd
          · by_cases hd' : d = day + n
            · exact hwd d (by rw [hd']; exact c0)
            · exact hwd d (by rw [show d = day + n + 1 by omega]; exact c1))
        omega
  obtain ⟨j, hj, hf⟩ := key
  refine ⟨day + n + j, ?_, by omega, by omega⟩
  rw [addV_ok ⟨h0, by omega, by decide, by decide, by decide, by decide⟩ (by rw [span_length]; exact hn), firstV_1, Int.add_zero, lastV_ok h0 (by omega) (by rw [hf]; omega), hf]
theorem many_limit (day : Int) (n : Nat) (h0 : 0 ≤ day) (h1 : day ≤ 65535) (hn : 1000 < n) : addV day 0 1 (span day n) = (0, 2) :=
  addV_limit ⟨h0, by omega, by decide, by decide, by decide, by decide⟩ (by rw [span_length]; exact hn)

theorem fill_step {α : Type} (A : List α) (z : α) (n k : Nat) (hA : A.length = n) (hk : k < n) : (A.take k ++ List.replicate (n - k) z).set k (A.getD k z) = A.take (k + 1) ++ List.replicate (n - (k + 1)) z := by
  have hl : (A.take k).length = k := by rw [List.length_take]; omega
  have hr : List.replicate (n - k) z = z :: List.replicate (n - (k + 1)) z := by rw [show n - k = (n - (k + 1)) + 1 by omega]; rfl
  rw [List.set_append_right _ _ (by omega), hl, Nat.sub_self, hr, List.set_cons_zero, List.getD_eq_getElem?_getD, List.getElem?_eq_getElem (by omega), List.take_succ_eq_append_getElem (by omega), List.append_assoc]
  rfl
end Cal
end Go.Proofs.YtpelnfolnlmhdaaDoor
