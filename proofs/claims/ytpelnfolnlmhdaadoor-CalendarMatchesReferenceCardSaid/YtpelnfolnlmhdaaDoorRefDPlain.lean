/- THE PLAIN LAW of the reference's Parse: byte by byte it reads what Parse reads. -/
import Derived.Test.YtpelnfolnlmhdaaDoorParsePlainB
namespace Go.Proofs.YtpelnfolnlmhdaaDoor
namespace Cal

/-- may this byte stand at this place of a date's text -/
def okAt (i : Nat) (b : UInt8) : Prop := ((i = 4 ∨ i = 7) → b = 45) ∧ (¬ (i = 4 ∨ i = 7) → digB b = true)
/-- the number of a byte -/
def nb (l : List UInt8) (i : Nat) : Int := ((l.getD i 0).toNat : Int) - 48
theorem nb_dig {l : List UInt8} {i : Nat} (h : digB (l.getD i 0) = true) : 0 ≤ nb l i ∧ nb l i ≤ 9 := by
  rw [digB_iff] at h
  unfold nb; omega
theorem iso_of_ok {l : List UInt8} (hl : l.length = 10) (h : ∀ j : Nat, j < 10 → okAt j (l.getD j 0)) :
    Iso l (1000 * nb l 0 + 100 * nb l 1 + 10 * nb l 2 + nb l 3) (10 * nb l 5 + nb l 6) (10 * nb l 8 + nb l 9) := by
  match l, hl with
  | [b0, b1, b2, b3, b4, b5, b6, b7, b8, b9], _ =>
    have h0 := (h 0 (by omega)).2 (by omega)
    have h1 := (h 1 (by omega)).2 (by omega)
    have h2 := (h 2 (by omega)).2 (by omega)
    have h3 := (h 3 (by omega)).2 (by omega)
    have h4 := (h 4 (by omega)).1 (by omega)
    have h5 := (h 5 (by omega)).2 (by omega)
    have h6 := (h 6 (by omega)).2 (by omega)
    have h7 := (h 7 (by omega)).1 (by omega)
    have h8 := (h 8 (by omega)).2 (by omega)
    have h9 := (h 9 (by omega)).2 (by omega)
    simp only [List.getD_cons_zero, List.getD_cons_succ] at h0 h1 h2 h3 h4 h5 h6 h7 h8 h9
    subst h4 h7
    have n45 : ∀ b : UInt8, digB b = true → (45 : UInt8) ≠ b := by
      rintro b hb rfl
      simp [digB] at hb
    refine ⟨[b0, b1, b2, b3], [b5, b6], [b8, b9], splitL_three.2 ⟨rfl, ?_, ?_, ?_⟩, rfl, rfl, rfl, ?_, ?_, ?_, ?_, ?_, ?_⟩
    · simp [n45 _ h0, n45 _ h1, n45 _ h2, n45 _ h3]
    · simp [n45 _ h5, n45 _ h6]
    · simp [n45 _ h8, n45 _ h9]
    · simp [digL, h0, h1, h2, h3]
    · simp [digL, h5, h6]
    · simp [digL, h8, h9]
    · simp only [nb, numL, numF, List.foldl_cons, List.foldl_nil, List.getD_cons_zero, List.getD_cons_succ]; omega
    · simp only [nb, numL, numF, List.foldl_cons, List.foldl_nil, List.getD_cons_zero, List.getD_cons_succ]; omega
    · simp only [nb, numL, numF, List.foldl_cons, List.foldl_nil, List.getD_cons_zero, List.getD_cons_succ]; omega
theorem ok_of_iso {l : List UInt8} {y m d : Int} (h : Iso l y m d) (j : Nat) (hj : j < 10) : okAt j (l.getD j 0) := by
  obtain ⟨p, q, r, hs, hp, hq, hr, dp, dq, dr, _⟩ := h
  have hl := (splitL_three.1 hs).1
  match p, q, r, hp, hq, hr with
  | [a0, a1, a2, a3], [b0, b1], [c0, c1], _, _, _ =>
    subst hl
    simp only [digL, List.all_cons, List.all_nil, Bool.and_eq_true] at dp dq dr
    have h10 : j = 0 ∨ j = 1 ∨ j = 2 ∨ j = 3 ∨ j = 4 ∨ j = 5 ∨ j = 6 ∨ j = 7 ∨ j = 8 ∨ j = 9 := by omega
    rcases h10 with rfl | rfl | rfl | rfl | rfl | rfl | rfl | rfl | rfl | rfl <;> simp [okAt, dp, dq, dr]
theorem parse_bad {l : List UInt8} {j : Nat} (hj : j < 10) (h : ¬ okAt j (l.getD j 0)) : parseV l = (0, 5) :=
  parseV_not (by rintro ⟨y, m, d, hi⟩; exact h (ok_of_iso hi j hj))
end Cal
end Go.Proofs.YtpelnfolnlmhdaaDoor
