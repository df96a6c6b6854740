/- WALKS of the reference's Light and of the statements' none. -/
import Derived.Test.YtpelnfolnlmhdaaDoorCalF
namespace Go.Proofs.YtpelnfolnlmhdaaDoor
open Go.RowKit Go.Maps
open Cal

theorem light_yes (N U most : Int) (v : Value) (L : List Int) (w : World) (h : RI w w.heap.size v L) (h1 : U ≠ 5 ∨ N ≤ 3000) (h2 : (L.length : Int) ≤ most) :
    Calls Tryd.prog 19 #[.agg #[.int .i64 N, .int .i64 U], v, .int .i64 most] w fun e w' => e = .returned (.bool true) ∧ Below w.heap.size w w' := by
  obtain ⟨A, cap, rfl, hl, hw, h⟩ := h
  by_cases hu : U = 5
  · have h3 : N ≤ 3000 := by omega
    subst hu
    clear h1 h
    go_enter Tryd.func19, Tryd.ntmps19
    go_wp2
    go_ret
    exact ⟨rfl, (Below.refl _ _).alloc (Nat.le_refl _) _⟩
  · have hub : (U != 5) = true := by simpa using hu
    clear h1 hu h
    go_enter Tryd.func19, Tryd.ntmps19
    go_wp2
    go_ret
    exact ⟨rfl, (Below.refl _ _).alloc (Nat.le_refl _) _⟩
theorem light_no (N U most : Int) (v : Value) (L : List Int) (w : World) (h : RI w w.heap.size v L) (h1 : (U = 5 ∧ 3000 < N) ∨ most < (L.length : Int)) :
    Calls Tryd.prog 19 #[.agg #[.int .i64 N, .int .i64 U], v, .int .i64 most] w fun e w' => e = .returned (.bool false) ∧ Below w.heap.size w w' := by
  obtain ⟨A, cap, rfl, hl, hw, h⟩ := h
  by_cases hu : U = 5
  · subst hu
    by_cases h3 : N ≤ 3000
    · have h4 : decide ((L.length : Int) ≤ most) = false := by simp; omega
      clear h1 h
      go_enter Tryd.func19, Tryd.ntmps19
      go_wp2
      go_ret
      exact ⟨rfl, (Below.refl _ _).alloc (Nat.le_refl _) _⟩
    · have h4 : decide (N ≤ 3000) = false := by simp; omega
      clear h1 h
      go_enter Tryd.func19, Tryd.ntmps19
      go_wp2
      go_ret
      exact ⟨rfl, (Below.refl _ _).alloc (Nat.le_refl _) _⟩
  · have hub : (U != 5) = true := by simpa using hu
    have h4 : decide ((L.length : Int) ≤ most) = false := by simp; omega
    clear h1 hu h
    go_enter Tryd.func19, Tryd.ntmps19
    go_wp2
    go_ret
    exact ⟨rfl, (Below.refl _ _).alloc (Nat.le_refl _) _⟩

theorem none_yes (a b : Int) (v : Value) (L : List Int) (w : World) (h : RI w w.heap.size v L) (hab : a ≤ b) (hb : b ≤ 1000001) (ha : -9223372036854775808 ≤ a) (hn : ∀ d, a ≤ d → d < b → opn L d = false) :
    Calls Tryd.prog 20 #[.int .i64 a, .int .i64 b, v] w fun e w' => e = .returned (.bool true) ∧ Below w.heap.size w w' := by
  have HN := Lib.hid hn
  have HV := Lib.hid h
  obtain ⟨A, cap, rfl, hl, hw, h⟩ := h
  clear hn h hw
  go_enter Tryd.func20, Tryd.ntmps20
  go_wp2
  go_loopw [7] (fun i wr => ∃ k : Int, a ≤ k ∧ k ≤ b ∧ i = .int .i64 k ∧ Below w.heap.size w wr) (fun i _ => (b - intOf i).toNat)
  case atStart => exact ⟨a, by omega, hab, rfl, Below.refl _ _⟩
  case round =>
    obtain ⟨k, hk0, hk1, rfl, hbw⟩ := hrel
    by_cases hlt : k < b
    · have ho := HN.out k hk0 hlt
      have HO := Lib.hid ho
      have hri := (HV.out.below hbw).more hbw.size
      have HRI := Lib.hid hri
      clear ho hri
      go_wp2_with fail
      refine (work_any _ L _ _ HRI.out).mono ?_
      rintro e w1 ⟨rfl, b1⟩
      rw [HO.out]
      have bx := hbw.trans (b1.mono hbw.size)
      clear b1
      go_wp2
      go_roundw
      case rel => exact ⟨k + 1, by omega, by omega, rfl, bx⟩
      case measure => simp [intOf]; omega
    · go_wp2
      go_ret
      exact ⟨rfl, hbw⟩
end Go.Proofs.YtpelnfolnlmhdaaDoor
