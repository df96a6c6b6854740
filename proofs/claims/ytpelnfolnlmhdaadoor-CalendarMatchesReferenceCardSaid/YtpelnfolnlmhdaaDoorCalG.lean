/- WALKS of the calendar: from, the closure of Add. -/
import Derived.Test.YtpelnfolnlmhdaaDoorCalF
namespace Go.Proofs.YtpelnfolnlmhdaaDoor
open Go.RowKit Go.Maps
open Cal

set_option maxHeartbeats 400000 in
theorem from_any (b k : Nat) (L : List Int) (n : Int) (w : World) (h : Shut w b k L) :
    Calls Tryd.prog 35 #[.int .i64 n, .func (.func 32) #[.map (some b)] #[]] w fun e w' => e = .returned (.int .i64 (fromV L n)) ∧ w = w' := by
  obtain ⟨r, hr⟩ : ∃ r, r = fromV L n := ⟨_, rfl⟩
  rw [← hr]
  have HR := Lib.hid hr
  clear hr
  go_enter Tryd.func35, Tryd.ntmps35
  go_wp2
  go_loop [0] (fun x => ∃ d : Int, x = .int .i64 d ∧ fromV L d = r) (fun x => (1000001 - intOf x).toNat)
  case atStart => exact ⟨n, rfl, HR.out.symm⟩
  case round =>
    obtain ⟨d, rfl, hd⟩ := hrel
    by_cases hi : d < 0 ∨ 1000000 < d
    · rw [fromV_out hi] at hd
      have HD := Lib.hid hd
      clear hd
      go_wp2_with (go_at_call 30; refine (is_no _ _ hi).mono ?_; rintro e w' ⟨rfl, rfl⟩)
      go_ret
      exact ⟨ret_int HD.out, rfl⟩
    · have h0 : 0 ≤ d := by omega
      have h1 : d ≤ 1000000 := by omega
      clear hi
      cases ho : opn L d
      · rw [fromV_shut h0 h1 ho] at hd
        have HD := Lib.hid hd
        have HO := Lib.hid ho
        clear hd ho
        go_wp2_with (first | (go_at_call 30; refine (is_yes _ _ h0 h1).mono ?_; rintro e w' ⟨rfl, rfl⟩) | (go_at_call 32; refine (open_any _ _ _ _ _ h).mono ?_; rintro e w' ⟨rfl, rfl⟩; rw [HO.out]))
        go_round
        case rel => exact ⟨d + 1, rfl, HD.out⟩
        case measure => simp [intOf]; omega
      · rw [fromV_open ho] at hd
        have HD := Lib.hid hd
        have HO := Lib.hid ho
        clear hd ho
        go_wp2_with (first | (go_at_call 30; refine (is_yes _ _ h0 h1).mono ?_; rintro e w' ⟨rfl, rfl⟩) | (go_at_call 32; refine (open_any _ _ _ _ _ h).mono ?_; rintro e w' ⟨rfl, rfl⟩; rw [HO.out]))
        go_ret
        exact ⟨ret_int HD.out, rfl⟩

end Go.Proofs.YtpelnfolnlmhdaaDoor
