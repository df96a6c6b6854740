/- WALKS of the calendar: two digits. -/
import Derived.Test.YtpelnfolnlmhdaaDoorCalA
import Derived.Laws.IdiomStrings
namespace Go.Proofs.YtpelnfolnlmhdaaDoor
open Go.RowKit
open Cal

/-- two digits -/
def twoL (n : Int) : List UInt8 := [UInt8.ofNat (48 + n / 10).toNat, UInt8.ofNat (48 + n % 10).toNat]

theorem u8_nat (n : Int) (h0 : 0 ≤ n) (h1 : n ≤ 255) : ((UInt8.ofNat n.toNat).toNat : Int) = n := by
  rw [UInt8.toNat_ofNat']; omega

theorem conv_two (n : Int) (w : World) (h0 : 0 ≤ n) (h1 : n ≤ 99) :
    (convert 75 9 (.slice (some ⟨w.heap.size, 0, none⟩) 2 2)).run Tryd.prog (w.alloc (.cells #[.int .u8 (48 + n / 10), .int .u8 (48 + n % 10)] 5)) =
      .ok (.string ⟨(twoL n).toArray⟩) (w.alloc (.cells #[.int .u8 (48 + n / 10), .int .u8 (48 + n % 10)] 5)) := by
  refine run_convert_bytes_back _ _ _ _ ⟨w.heap.size, 0, none⟩ 2 (twoL n) Tryd.underlying75 Tryd.underlying5 Tryd.underlying9 ?_
  intro j hj
  have h2 : j = 0 ∨ j = 1 := by simp [twoL] at hj; omega
  rcases h2 with rfl | rfl
  · simp [go_sem, Addr.add, twoL]
    omega
  · simp [go_sem, Addr.add, twoL]
    omega

set_option maxRecDepth 100000 in
theorem two_any (n : Int) (w : World) (h0 : 0 ≤ n) (h1 : n ≤ 99) :
    Calls Tryd.prog 48 #[.int .i64 n] w fun e w' => e = .returned (.string ⟨(twoL n).toArray⟩) ∧ Below w.heap.size w w' := by
  have hcv := conv_two n w h0 h1
  obtain ⟨T, hT⟩ : ∃ T : Array UInt8, T = (twoL n).toArray := ⟨_, rfl⟩
  rw [← hT] at hcv ⊢
  clear hT
  go_enter Tryd.func48, Tryd.ntmps48
  go_wp2
  go_ret
  exact ⟨rfl, (Below.refl _ _).alloc (Nat.le_refl _) _⟩

end Go.Proofs.YtpelnfolnlmhdaaDoor
