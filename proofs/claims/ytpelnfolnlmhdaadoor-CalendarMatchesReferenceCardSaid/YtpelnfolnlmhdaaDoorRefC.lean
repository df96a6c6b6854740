/- WALKS of the reference's digits and Text. -/
import Derived.Test.YtpelnfolnlmhdaaDoorRefB
import Derived.Test.YtpelnfolnlmhdaaDoorTextsPlain
namespace Go.Proofs.YtpelnfolnlmhdaaDoor
open Go.RowKit
open Cal

namespace Cal
/-- what is left of a number after some digits -/
def sh (N : Int) : Nat → Int
  | 0 => N
  | k + 1 => sh N k / 10
/-- the last digits of a number -/
def dg (N : Int) : Nat → List UInt8
  | 0 => []
  | k + 1 => UInt8.ofNat (48 + sh N k % 10).toNat :: dg N k
theorem sh_bd {N : Int} (h0 : 0 ≤ N) (k : Nat) : 0 ≤ sh N k ∧ sh N k ≤ N := by
  induction k with
  | zero => exact ⟨h0, Int.le_refl _⟩
  | succ k ih => rw [sh]; omega
theorem dg_len (N : Int) (k : Nat) : (dg N k).length = k := by
  induction k with
  | zero => rfl
  | succ k ih => rw [dg, List.length_cons, ih]
theorem dg_four {N : Int} (h0 : 0 ≤ N) (h1 : N ≤ 9999) : dg N 4 = fourL N := by
  have e1 : N / 10 / 10 / 10 % 10 = N / 1000 := by omega
  have e2 : N / 10 / 10 % 10 = N / 100 % 10 := by omega
  simp only [dg, sh, fourL]
  rw [e1, e2]
theorem dg_two {N : Int} (h0 : 0 ≤ N) (h1 : N ≤ 99) : dg N 2 = twoL N := by
  have e1 : N / 10 % 10 = N / 10 := by omega
  simp only [dg, sh, twoL]
  rw [e1]
end Cal

theorem dig_slice (k : Int) (h0 : 0 ≤ k) (h1 : k ≤ 9) (w : World) :
    (Instr.slice 9 (.string ⟨#[48, 49, 50, 51, 52, 53, 54, 55, 56, 57]⟩) (some (.int .i64 k)) (some (.int .i64 (k + 1))) none).run Tryd.prog w = .ok (.string ⟨#[UInt8.ofNat (48 + k).toNat]⟩) w := by
  have h : k = 0 ∨ k = 1 ∨ k = 2 ∨ k = 3 ∨ k = 4 ∨ k = 5 ∨ k = 6 ∨ k = 7 ∨ k = 8 ∨ k = 9 := by omega
  rcases h with rfl | rfl | rfl | rfl | rfl | rfl | rfl | rfl | rfl | rfl <;> (show _ = _; kernel_rfl)
theorem dig_sliceAt (k : Int) (h0 : 0 ≤ k) (h1 : k ≤ 9) (w : World) :
    (Instr.sliceAt 9 (.string ⟨#[48, 49, 50, 51, 52, 53, 54, 55, 56, 57]⟩) (some (.int .i64 k)) (some (.int .i64 (k + 1))) none).run Tryd.prog w = .ok (.string ⟨#[UInt8.ofNat (48 + k).toNat]⟩) w := by
  have h : k = 0 ∨ k = 1 ∨ k = 2 ∨ k = 3 ∨ k = 4 ∨ k = 5 ∨ k = 6 ∨ k = 7 ∨ k = 8 ∨ k = 9 := by omega
  rcases h with rfl | rfl | rfl | rfl | rfl | rfl | rfl | rfl | rfl | rfl <;> (show _ = _; kernel_rfl)

theorem dig_app (c : UInt8) (l : List UInt8) : (⟨#[c]⟩ : ByteArray) ++ ⟨l.toArray⟩ = ⟨(c :: l).toArray⟩ := by
  rw [ba_append]; congr 1; simp

set_option maxHeartbeats 1000000 in
theorem rdig_any (N : Int) (width : Nat) (w : World) (h0 : 0 ≤ N) (h1 : N ≤ 1000000) (hw : width ≤ 10) :
    Calls Tryd.prog 49 #[.int .i64 N, .int .i64 width] w fun e w' => e = .returned (.string ⟨(dg N width).toArray⟩) ∧ w = w' := by
  go_enter Tryd.func49, Tryd.ntmps49
  go_wp2
  go_loop [0, 5, 6] (fun n s i => ∃ k : Nat, k ≤ width ∧ i = .int .i64 k ∧ n = .int .i64 (sh N k) ∧ s = .string ⟨(dg N k).toArray⟩) (fun _ _ i => width - (intOf i).toNat)
  case atStart => exact ⟨0, by omega, rfl, rfl, rfl⟩
  case round =>
    obtain ⟨k, hk, rfl, rfl, rfl⟩ := hrel
    by_cases hlt : k < width
    · obtain ⟨x, hx⟩ : ∃ x, x = sh N k := ⟨_, rfl⟩
      have hb := sh_bd h0 k
      rw [← hx] at hb ⊢
      obtain ⟨x0, x1⟩ := hb
      obtain ⟨L, hL⟩ : ∃ L, L = dg N k := ⟨_, rfl⟩
      have hl := dg_len N k
      rw [← hL] at hl ⊢
      have hsl := dig_slice (x % 10) (by omega) (by omega)
      have hsl2 := dig_sliceAt (x % 10) (by omega) (by omega)
      have hap := dig_app (UInt8.ofNat (48 + x % 10).toNat) L
      have HX := Lib.hid hx
      have HL := Lib.hid hL
      clear hx hL
      go_wp2
      go_round
      case rel => exact ⟨k + 1, by omega, by go_num, by rw [sh, ← HX.out], by rw [dg, ← HX.out, ← HL.out]⟩
      case measure => simp [intOf]; omega
    · obtain rfl : k = width := by omega
      go_wp2
      go_ret
      exact ⟨rfl, rfl⟩

end Go.Proofs.YtpelnfolnlmhdaaDoor
