/- WALK of the reference's Add. -/
import Derived.Test.YtpelnfolnlmhdaaDoorRefF
import Derived.Test.YtpelnfolnlmhdaaDoorParse
namespace Go.Proofs.YtpelnfolnlmhdaaDoor
open Go.RowKit
open Cal

/-- the contract of the reference's Add, where it gives an error -/
def AddE (r : Int) (w : World) (e : Ending) (w' : World) : Prop := e = .returned (.tuple #[.int .i64 0, .int .i64 r]) ∧ Below w.heap.size w w'

set_option maxHeartbeats 1000000 in
theorem radd_bad (day N U : Int) (v : Value) (w : World) (h : ¬ argOk day N U) :
    Calls Tryd.prog 25 #[.int .i64 day, .agg #[.int .i64 N, .int .i64 U], v] w (AddE 1 w) := by
  by_cases h0 : day < 0 ∨ 1000000 < day
  · clear h
    go_enter Tryd.func25, Tryd.ntmps25
    go_wp2_with (go_at_call 41; refine (ris_no _ _ h0).mono ?_; rintro e w' ⟨rfl, rfl⟩)
    go_ret2
    exact ⟨rfl, box_below _ _⟩
  · have d0 : 0 ≤ day := by omega
    have d1 : day ≤ 1000000 := by omega
    clear h0
    by_cases hU : U < 1
    · clear h
      go_enter Tryd.func25, Tryd.ntmps25
      go_wp2_with (go_at_call 41; refine (ris_yes _ _ d0 d1).mono ?_; rintro e w' ⟨rfl, rfl⟩)
      go_ret2
      exact ⟨rfl, box_below _ _⟩
    · have hUb : decide (U < 1) = false := by simp; omega
      by_cases hU5 : 5 < U
      · clear h
        go_enter Tryd.func25, Tryd.ntmps25
        go_wp2_with (go_at_call 41; refine (ris_yes _ _ d0 d1).mono ?_; rintro e w' ⟨rfl, rfl⟩)
        go_ret2
        exact ⟨rfl, box_below _ _⟩
      · have hU5b : decide (5 < U) = false := by simp; omega
        by_cases hN : N < 0
        · clear h
          go_enter Tryd.func25, Tryd.ntmps25
          go_wp2_with (go_at_call 41; refine (ris_yes _ _ d0 d1).mono ?_; rintro e w' ⟨rfl, rfl⟩)
          go_ret2
          exact ⟨rfl, box_below _ _⟩
        · have hNb : decide (N < 0) = false := by simp; omega
          have hN2 : 1000000 < N := by
            rcases Int.lt_or_le 1000000 N with hl | hl
            · exact hl
            · exact absurd ⟨d0, d1, by omega, by omega, by omega, hl⟩ h
          clear h
          go_enter Tryd.func25, Tryd.ntmps25
          go_wp2_with (go_at_call 41; refine (ris_yes _ _ d0 d1).mono ?_; rintro e w' ⟨rfl, rfl⟩)
          go_ret2
          exact ⟨rfl, box_below _ _⟩

set_option maxHeartbeats 1000000 in
theorem radd_limit (day N U : Int) (v : Value) (L : List Int) (w : World) (h : argOk day N U) (hv : RI w w.heap.size v L) (hl : 1000 < L.length) :
    Calls Tryd.prog 25 #[.int .i64 day, .agg #[.int .i64 N, .int .i64 U], v] w (AddE 2 w) := by
  obtain ⟨d0, d1, u0, u1, n0, n1⟩ := h
  obtain ⟨A, cap, rfl, hlen, _, _⟩ := id hv
  have hUb : decide (U < 1) = false := by simp; omega
  have hU5b : decide (5 < U) = false := by simp; omega
  have hNb : decide (N < 0) = false := by simp; omega
  have hN2 : decide (1000000 < N) = false := by simp; omega
  go_enter Tryd.func25, Tryd.ntmps25
  go_wp2_with (go_at_call 41; refine (ris_yes _ _ d0 d1).mono ?_; rintro e w' ⟨rfl, rfl⟩)
  go_ret2
  exact ⟨rfl, box_below _ _⟩

set_option maxHeartbeats 2000000 in
theorem radd_ok (day N U : Int) (v : Value) (L : List Int) (w : World) (h : argOk day N U) (hv : RI w w.heap.size v L) (hl : L.length ≤ 1000) (V : Int × Int) (hV : V = lastV L (firstV day N U L)) :
    Calls Tryd.prog 25 #[.int .i64 day, .agg #[.int .i64 N, .int .i64 U], v] w fun e w' => e = .returned (.tuple #[.int .i64 V.1, .int .i64 V.2]) ∧ Below w.heap.size w w' := by
  have hv2 : RI (w.alloc (.cells #[.int .i64 N, .int .i64 U] 29)) (w.alloc (.cells #[.int .i64 N, .int .i64 U] 29)).heap.size v L := (hv.alloc _).more (by simp)
  have HV := Lib.hid hv2
  have HA := Lib.hid h
  obtain ⟨d0, d1, u0, u1, n0, n1⟩ := h
  obtain ⟨A, cap, rfl, hlen, _, _⟩ := id hv
  have hUb : decide (U < 1) = false := by simp; omega
  have hU5b : decide (5 < U) = false := by simp; omega
  have hNb : decide (N < 0) = false := by simp; omega
  have hN2 : decide (1000000 < N) = false := by simp; omega
  have hlb : decide (1000 < L.length) = false := by simp; omega
  have HVV := Lib.hid hV
  clear hv hv2 hV
  go_enter Tryd.func25, Tryd.ntmps25
  go_wp2_with (go_at_call 41; refine (ris_yes _ _ d0 d1).mono ?_; rintro e w' ⟨rfl, rfl⟩)
  refine (rfirst_any day N U _ L _ HA.out HV.out).mono ?_
  rintro e w1 ⟨⟨a, r, rfl, hfr⟩, b1⟩
  have bw1 := (box_below w (.cells #[.int .i64 N, .int .i64 U] 29)).trans (b1.mono (by simp))
  have hv1 := (HV.out.below b1).more b1.size
  have HV1 := Lib.hid hv1
  clear hv1 b1
  rcases hfr with ⟨rfl, a0, a1, hlast⟩ | ⟨rfl, rfl, hlast⟩
  · have hV2 := HVV.out.trans hlast
    have HV2 := Lib.hid hV2
    clear hV2 hlast
    go_wp2
    go_loop [8, 9] (fun d r => ∃ x y : Int, d = .int .i64 x ∧ r = .int .i64 y ∧ ((y = 0 ∧ 0 ≤ x ∧ x ≤ 1000000 ∧ fromV L x = fromV L a) ∨ (y = 10 ∧ x = 1000001 ∧ 1000000 < fromV L a))) (fun d _ => (2000000 - intOf d).toNat)
    case atStart => exact ⟨a, 0, rfl, rfl, .inl ⟨rfl, a0, a1, rfl⟩⟩
    case round =>
      obtain ⟨x, y, rfl, rfl, hx⟩ := hrel
      rcases hx with ⟨rfl, x0, x1, hf⟩ | ⟨rfl, rfl, hf⟩
      · cases ho : opn L x with
        | true =>
          have hr : V = (x, 0) := by
            rw [HV2.out, lastV_ok a0 a1 (by rw [← hf, fromV_open ho]; exact x1), ← hf, fromV_open ho]
          have HR := Lib.hid hr
          have HO := Lib.hid ho
          clear hr ho hf
          go_wp2_with fail
          refine (rwork_any _ L x _ HV1.out).mono ?_
          rintro _ w' ⟨rfl, rfl⟩
          rw [HO.out]
          go_wp2
          go_ret2
          exact ⟨ret_pair HR.out, bw1⟩
        | false =>
          have hs := fromV_shut x0 x1 ho
          by_cases hx2 : 1000000 < x + 1
          · have hlate : 1000000 < fromV L a := by rw [← hf, hs, fromV_out (.inr hx2)]; exact hx2
            have HL := Lib.hid hlate
            have HO := Lib.hid ho
            clear ho hf hs hlate
            go_wp2_with fail
            refine (rwork_any _ L x _ HV1.out).mono ?_
            rintro _ w' ⟨rfl, rfl⟩
            rw [HO.out]
            go_wp2
            go_round
            case rel => exact ⟨x + 1, 10, by go_num, rfl, .inr ⟨rfl, by omega, HL.out⟩⟩
            case measure => simp [intOf]; omega
          · have hx2b : decide (1000000 < x + 1) = false := by simp; omega
            have hn := hs.symm.trans hf
            have HN := Lib.hid hn
            have HO := Lib.hid ho
            clear ho hf hs hn
            go_wp2_with fail
            refine (rwork_any _ L x _ HV1.out).mono ?_
            rintro _ w' ⟨rfl, rfl⟩
            rw [HO.out]
            go_wp2
            go_round
            case rel => exact ⟨x + 1, 0, by go_num, rfl, .inl ⟨rfl, by omega, by omega, HN.out⟩⟩
            case measure => simp [intOf]; omega
      · have hr : V = (0, 10) := by rw [HV2.out]; exact lastV_late a0 a1 hf
        have HR := Lib.hid hr
        clear hr hf
        go_wp2
        go_ret2
        exact ⟨ret_pair HR.out, bw1⟩
  · have hV2 := HVV.out.trans hlast
    have HV2 := Lib.hid hV2
    clear hV2 hlast
    go_wp2
    refine wp_loop_rounds 1 ?_
    rw [rounds_succ]
    go_wp2
    go_ret2
    exact ⟨ret_pair HV2.out, bw1⟩

theorem radd_any (day N U : Int) (v : Value) (L : List Int) (w : World) (hv : RI w w.heap.size v L) :
    Calls Tryd.prog 25 #[.int .i64 day, .agg #[.int .i64 N, .int .i64 U], v] w fun e w' => e = .returned (.tuple #[.int .i64 (addV day N U L).1, .int .i64 (addV day N U L).2]) ∧ Below w.heap.size w w' := by
  by_cases h : argOk day N U
  · by_cases hl : 1000 < L.length
    · rw [addV_limit h hl]; exact radd_limit day N U v L w h hv hl
    · exact radd_ok day N U v L w h hv (by omega) _ (addV_ok h (by omega))
  · rw [addV_arg h]; exact radd_bad day N U v w h
end Go.Proofs.YtpelnfolnlmhdaaDoor
