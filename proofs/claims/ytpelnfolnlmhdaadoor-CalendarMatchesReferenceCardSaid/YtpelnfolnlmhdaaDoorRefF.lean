/- WALK of the reference's First. -/
import Derived.Test.YtpelnfolnlmhdaaDoorRefD
import Derived.Test.YtpelnfolnlmhdaaDoorCalI
namespace Go.Proofs.YtpelnfolnlmhdaaDoor
open Go.RowKit
open Cal

/-- what First returns, as Add goes on with it -/
def FR (day N U : Int) (L : List Int) (a r : Int) : Prop :=
  (r = 0 ∧ 0 ≤ a ∧ a ≤ 1000000 ∧ lastV L (firstV day N U L) = lastV L (a, 0)) ∨ (r = 10 ∧ a = 0 ∧ lastV L (firstV day N U L) = (0, 10))

/-- First's contract -/
def FirstC (day N U : Int) (L : List Int) (w : World) (e : Ending) (w' : World) : Prop :=
  (∃ a r, e = .returned (.tuple #[.int .i64 a, .int .i64 r]) ∧ FR day N U L a r) ∧ Below w.heap.size w w'

theorem box_below (w : World) (o : Obj) : Below w.heap.size w (w.alloc o) := (Below.refl _ _).alloc (Nat.le_refl _) _

theorem fr_plain {day N U a : Int} {L : List Int} (h : firstV day N U L = (a, 0)) (h0 : 0 ≤ a) :
    (a ≤ 1000000 → FR day N U L a 0) ∧ (1000000 < a → FR day N U L 0 10) := by
  refine ⟨fun h1 => .inl ⟨rfl, h0, h1, by rw [h]⟩, fun h1 => .inr ⟨rfl, rfl, ?_⟩⟩
  rw [h]; exact lastV_err (.inr (.inr h1))

set_option maxHeartbeats 1000000 in
set_option maxRecDepth 100000 in
theorem rfirst_1 (day N : Int) (v : Value) (L : List Int) (w : World) (h : argOk day N 1) :
    Calls Tryd.prog 46 #[.int .i64 day, .agg #[.int .i64 N, .int .i64 1], v] w (FirstC day N 1 L w) := by
  obtain ⟨h0, h0', u0, u1, n0, n1⟩ := h
  have hf := fr_plain (firstV_1 day N L) (by omega)
  have HF := Lib.hid hf
  clear hf
  by_cases hx : 1000000 < day + N
  · go_enter Tryd.func46, Tryd.ntmps46
    go_wp2
    go_ret2
    exact ⟨⟨_, _, rfl, HF.out.2 hx⟩, box_below _ _⟩
  · have hxb : decide (1000000 < day + N) = false := by simp; omega
    go_enter Tryd.func46, Tryd.ntmps46
    go_wp2
    go_ret2
    exact ⟨⟨_, _, rfl, HF.out.1 (by omega)⟩, box_below _ _⟩

set_option maxHeartbeats 1000000 in
set_option maxRecDepth 100000 in
theorem rfirst_2 (day N : Int) (v : Value) (L : List Int) (w : World) (h : argOk day N 2) :
    Calls Tryd.prog 46 #[.int .i64 day, .agg #[.int .i64 N, .int .i64 2], v] w (FirstC day N 2 L w) := by
  obtain ⟨h0, h0', u0, u1, n0, n1⟩ := h
  have hf := fr_plain (firstV_2 day N L) (by omega)
  have HF := Lib.hid hf
  clear hf
  by_cases hx : 1000000 < day + 7 * N
  · go_enter Tryd.func46, Tryd.ntmps46
    go_wp2
    go_ret2
    exact ⟨⟨_, _, rfl, HF.out.2 hx⟩, box_below _ _⟩
  · have hxb : decide (1000000 < day + 7 * N) = false := by simp; omega
    go_enter Tryd.func46, Tryd.ntmps46
    go_wp2
    go_ret2
    exact ⟨⟨_, _, rfl, HF.out.1 (by omega)⟩, box_below _ _⟩

/-- the last day of a month, of two -/
theorem fr_months {day N U T M : Int} {L : List Int} (hT : T = 12 * yr day + mo day - 1 + M) (hU : firstV day N U L = monthsV day M) (d0 : 0 ≤ day) (d1 : day ≤ 1000000) :
    (9999 < T / 12 → FR day N U L 0 10) ∧ (T / 12 ≤ 9999 → FR day N U L (dayV (T / 12) (T % 12 + 1) (min (da day) (mlen (T / 12) (T % 12 + 1)))).1 (dayV (T / 12) (T % 12 + 1) (min (da day) (mlen (T / 12) (T % 12 + 1)))).2) := by
  have hT2 : M + (12 * yr day + mo day - 1) = T := by omega
  constructor
  · intro h
    refine .inr ⟨rfl, rfl, ?_⟩
    rw [hU, monthsV, hT2, if_pos h]
    exact lastV_err (.inl (by decide))
  · intro h
    have hm : monthsV day M = dayV (T / 12) (T % 12 + 1) (min (da day) (mlen (T / 12) (T % 12 + 1))) := by rw [monthsV, hT2, if_neg (by omega)]
    by_cases he : (dayV (T / 12) (T % 12 + 1) (min (da day) (mlen (T / 12) (T % 12 + 1)))).2 = 0
    · obtain ⟨a, b, _⟩ := dayV_ok2 he
      refine .inl ⟨he, a, b, ?_⟩
      rw [hU, hm, ← he]
    · obtain ⟨a, b⟩ := dayV_bad he
      have hd := date_is d0 d1
      have hml := mlen_bd (T / 12) (T % 12 + 1)
      have hr : (dayV (T / 12) (T % 12 + 1) (min (da day) (mlen (T / 12) (T % 12 + 1)))).2 = 10 := by
        rcases b with b | b
        · exfalso
          have q := hd.d0
          unfold dayV at b
          rw [if_neg (by omega)] at b
          split at b
          · simp at b
          · split at b <;> simp at b
        · exact b
      refine .inr ⟨hr, a, ?_⟩
      rw [hU, hm]
      exact lastV_err (a := (dayV _ _ _).1) (b := (dayV _ _ _).2) (.inl he)

theorem date_at {n : Int} {x y z : Int} (hx : x = yr n) (hy : y = mo n) (hz : z = da n) (w : World) (h0 : 0 ≤ n) (h1 : n ≤ 1000000) :
    Calls Tryd.prog 22 #[.int .i64 n] w fun e w' => e = .returned (.tuple #[.int .i64 x, .int .i64 y, .int .i64 z, .int .i64 0]) ∧ Below w.heap.size w w' := by
  rw [hx, hy, hz]; exact rdate_yes n w h0 h1

set_option maxHeartbeats 2000000 in
set_option maxRecDepth 100000 in
theorem rfirst_3 (day N : Int) (v : Value) (L : List Int) (w : World) (h : argOk day N 3) :
    Calls Tryd.prog 46 #[.int .i64 day, .agg #[.int .i64 N, .int .i64 3], v] w (FirstC day N 3 L w) := by
  obtain ⟨h0, h0', u0, u1, n0, n1⟩ := h
  have hd := date_is h0 h0'
  have y1 := hd.year_hi h0'
  have y0 := hd.y0
  have m0 := hd.m0
  have m1 := hd.m1
  have q0 := hd.d0
  have q1 := hd.d1
  have ml := mlen_bd (yr day) (mo day)
  have hf := fun T hT => fr_months (T := T) hT (firstV_3 day N L) h0 h0'
  obtain ⟨x, hx⟩ : ∃ x, x = yr day := ⟨_, rfl⟩
  obtain ⟨y, hy⟩ : ∃ y, y = mo day := ⟨_, rfl⟩
  obtain ⟨z, hz⟩ : ∃ z, z = da day := ⟨_, rfl⟩
  rw [← hx] at y0 y1 ml q1
  rw [← hy] at m0 m1 ml q1
  rw [← hz] at q0 q1
  rw [← hx, ← hy, ← hz] at hf
  have HD := Lib.hid (fun w => date_at hx hy hz w h0 h0')
  have z31 : z ≤ 31 := by omega
  have hq : x + (y - 1 + N) / 12 = (12 * x + y - 1 + N) / 12 := by omega
  have hr : (y - 1 + N) % 12 = (12 * x + y - 1 + N) % 12 := by omega
  have hf2 := hf _ rfl
  rw [← hq, ← hr] at hf2
  have HF := Lib.hid hf2
  clear hf hf2 hd hx hy hz hq hr ml q1
  by_cases hy9 : 9999 < x + (y - 1 + N) / 12
  · go_enter Tryd.func46, Tryd.ntmps46
    go_wp2_with fail
    refine (HD.out _).mono ?_
    rintro e w1 ⟨rfl, b1⟩
    have bw1 := (box_below w (.cells #[.int .i64 N, .int .i64 3] 29)).trans (b1.mono (by simp))
    clear b1
    go_wp2
    go_ret2
    exact ⟨⟨_, _, rfl, HF.out.1 hy9⟩, bw1⟩
  · have hy9b : decide (9999 < x + (y - 1 + N) / 12) = false := by simp; omega
    have HM := Lib.hid (mlen_bd (x + (y - 1 + N) / 12) ((y - 1 + N) % 12 + 1))
    go_enter Tryd.func46, Tryd.ntmps46
    go_wp2_with fail
    refine (HD.out _).mono ?_
    rintro e w1 ⟨rfl, b1⟩
    have bw1 := (box_below w (.cells #[.int .i64 N, .int .i64 3] 29)).trans (b1.mono (by simp))
    clear b1
    go_wp2_with fail
    refine (rlen_any (x + (y - 1 + N) / 12) ((y - 1 + N) % 12 + 1) _ (by omega) (by omega)).mono ?_
    rintro e w2 ⟨rfl, b2⟩
    have bw2 := bw1.trans (b2.mono bw1.size)
    clear b2
    go_wp2_with fail
    refine (rday_any (x + (y - 1 + N) / 12) ((y - 1 + N) % 12 + 1) (min z (mlen (x + (y - 1 + N) / 12) ((y - 1 + N) % 12 + 1))) _).mono ?_
    rintro e w3 ⟨rfl, b3⟩
    have bw3 := bw2.trans (b3.mono bw2.size)
    clear b3
    go_wp2
    go_ret2
    exact ⟨⟨_, _, rfl, HF.out.2 (by omega)⟩, bw3⟩

set_option maxHeartbeats 2000000 in
set_option maxRecDepth 100000 in
theorem rfirst_4 (day N : Int) (v : Value) (L : List Int) (w : World) (h : argOk day N 4) :
    Calls Tryd.prog 46 #[.int .i64 day, .agg #[.int .i64 N, .int .i64 4], v] w (FirstC day N 4 L w) := by
  obtain ⟨h0, h0', u0, u1, n0, n1⟩ := h
  have hd := date_is h0 h0'
  have y1 := hd.year_hi h0'
  have y0 := hd.y0
  have m0 := hd.m0
  have m1 := hd.m1
  have q0 := hd.d0
  have q1 := hd.d1
  have ml := mlen_bd (yr day) (mo day)
  have hf := fun T hT => fr_months (T := T) hT (firstV_4 day N L) h0 h0'
  obtain ⟨x, hx⟩ : ∃ x, x = yr day := ⟨_, rfl⟩
  obtain ⟨y, hy⟩ : ∃ y, y = mo day := ⟨_, rfl⟩
  obtain ⟨z, hz⟩ : ∃ z, z = da day := ⟨_, rfl⟩
  rw [← hx] at y0 y1 ml q1
  rw [← hy] at m0 m1 ml q1
  rw [← hz] at q0 q1
  rw [← hx, ← hy, ← hz] at hf
  have HD := Lib.hid (fun w => date_at hx hy hz w h0 h0')
  have z31 : z ≤ 31 := by omega
  have hq : x + (y - 1 + 12 * N) / 12 = (12 * x + y - 1 + 12 * N) / 12 := by omega
  have hr : (y - 1) % 12 = (12 * x + y - 1 + 12 * N) % 12 := by omega
  have hf2 := hf _ rfl
  rw [← hq, ← hr] at hf2
  have HF := Lib.hid hf2
  clear hf hf2 hd hx hy hz hq hr ml q1
  by_cases hy9 : 9999 < x + (y - 1 + 12 * N) / 12
  · go_enter Tryd.func46, Tryd.ntmps46
    go_wp2_with fail
    refine (HD.out _).mono ?_
    rintro e w1 ⟨rfl, b1⟩
    have bw1 := (box_below w (.cells #[.int .i64 N, .int .i64 4] 29)).trans (b1.mono (by simp))
    clear b1
    go_wp2
    go_ret2
    exact ⟨⟨_, _, rfl, HF.out.1 hy9⟩, bw1⟩
  · have hy9b : decide (9999 < x + (y - 1 + 12 * N) / 12) = false := by simp; omega
    have HM := Lib.hid (mlen_bd (x + (y - 1 + 12 * N) / 12) ((y - 1) % 12 + 1))
    go_enter Tryd.func46, Tryd.ntmps46
    go_wp2_with fail
    refine (HD.out _).mono ?_
    rintro e w1 ⟨rfl, b1⟩
    have bw1 := (box_below w (.cells #[.int .i64 N, .int .i64 4] 29)).trans (b1.mono (by simp))
    clear b1
    go_wp2_with fail
    refine (rlen_any (x + (y - 1 + 12 * N) / 12) ((y - 1) % 12 + 1) _ (by omega) (by omega)).mono ?_
    rintro e w2 ⟨rfl, b2⟩
    have bw2 := bw1.trans (b2.mono bw1.size)
    clear b2
    go_wp2_with fail
    refine (rday_any (x + (y - 1 + 12 * N) / 12) ((y - 1) % 12 + 1) (min z (mlen (x + (y - 1 + 12 * N) / 12) ((y - 1) % 12 + 1))) _).mono ?_
    rintro e w3 ⟨rfl, b3⟩
    have bw3 := bw2.trans (b3.mono bw2.size)
    clear b3
    go_wp2
    go_ret2
    exact ⟨⟨_, _, rfl, HF.out.2 (by omega)⟩, bw3⟩


theorem workN_skip {L : List Int} {d : Int} (m : Nat) (h0 : 0 ≤ d) (h1 : d + 1 ≤ 1000000) (h : opn L (d + 1) = false) : workN L (m + 1) (d + 1) = workN L (m + 1) d := by
  rw [workN_in (by omega) h1, workN_in h0 (by omega), fromV_shut (by omega) h1 h]
theorem workN_hit {L : List Int} {d : Int} (m : Nat) (h0 : 0 ≤ d) (h1 : d + 1 ≤ 1000000) (h : opn L (d + 1) = true) : workN L m (d + 1) = workN L (m + 1) d := by
  rw [workN_in h0 (by omega), fromV_open h]
theorem workN_end {L : List Int} {d : Int} (m : Nat) (h0 : 0 ≤ d) (h1 : d ≤ 1000000) (h : 1000000 < d + 1) : workN L (m + 1) d = d + 1 := by
  rw [workN_in h0 h1, fromV_out (.inr h), workN_out (.inr h)]

set_option maxHeartbeats 2000000 in
set_option maxRecDepth 100000 in
theorem rfirst_5 (day N : Int) (v : Value) (L : List Int) (w : World) (h : argOk day N 5) (hv : RI w w.heap.size v L) :
    Calls Tryd.prog 46 #[.int .i64 day, .agg #[.int .i64 N, .int .i64 5], v] w (FirstC day N 5 L w) := by
  obtain ⟨h0, h0', u0, u1, n0, n1⟩ := h
  have hv2 : RI (w.alloc (.cells #[.int .i64 N, .int .i64 5] 29)) (w.alloc (.cells #[.int .i64 N, .int .i64 5] 29)).heap.size v L := (hv.alloc _).more (by simp)
  have HV := Lib.hid hv2
  have HF := Lib.hid (firstV_5 day N L)
  clear hv hv2
  go_enter Tryd.func46, Tryd.ntmps46
  go_wp2
  go_loop [0, 9] (fun d n => ∃ (k : Nat) (e : Int), (k : Int) ≤ N ∧ n = .int .i64 k ∧ d = .int .i64 e ∧ 0 ≤ e ∧ e ≤ 1000000 ∧ workN L (N.toNat - k) e = workN L N.toNat day) (fun d _ => (1000001 - intOf d).toNat)
  case atStart => exact ⟨0, day, by omega, rfl, rfl, h0, h0', rfl⟩
  case round =>
    obtain ⟨k, e, hk, rfl, rfl, e0, e1, hw⟩ := hrel
    by_cases hlt : (k : Int) < N
    · obtain ⟨m, hm⟩ : ∃ m : Nat, N.toNat - k = m + 1 := ⟨N.toNat - k - 1, by omega⟩
      have hm2 : N.toNat - (k + 1) = m := by omega
      rw [hm] at hw
      have HM := Lib.hid hm
      have HM2 := Lib.hid hm2
      have HW := Lib.hid hw
      clear hm hm2 hw
      by_cases hx : 1000000 < e + 1
      · have hfr : FR day N 5 L 0 10 := by
          refine (fr_plain (a := workN L N.toNat day) HF.out ?_).2 ?_
          · rw [← HW.out, workN_end m e0 e1 hx]; omega
          · rw [← HW.out, workN_end m e0 e1 hx]; exact hx
        have HFR := Lib.hid hfr
        clear hfr
        go_wp2
        go_ret2
        exact ⟨⟨_, _, rfl, HFR.out⟩, box_below _ _⟩
      · have hxb : decide (1000000 < e + 1) = false := by simp; omega
        cases ho : opn L (e + 1) with
        | true =>
          have hn := (workN_hit m e0 (by omega) ho).trans HW.out
          have HN := Lib.hid hn
          have HO := Lib.hid ho
          clear hn ho
          go_wp2_with fail
          refine (rwork_any v L (e + 1) _ HV.out).mono ?_
          rintro _ w' ⟨rfl, rfl⟩
          rw [HO.out]
          go_wp2
          go_round
          case rel => exact ⟨k + 1, e + 1, by omega, by go_num, by go_num, by omega, by omega, by rw [HM2.out]; exact HN.out⟩
          case measure => simp [intOf]; omega
        | false =>
          have hn := (workN_skip m e0 (by omega) ho).trans HW.out
          have HN := Lib.hid hn
          have HO := Lib.hid ho
          clear hn ho
          go_wp2_with fail
          refine (rwork_any v L (e + 1) _ HV.out).mono ?_
          rintro _ w' ⟨rfl, rfl⟩
          rw [HO.out]
          go_wp2
          go_round
          case rel => exact ⟨k, e + 1, by omega, by go_num, by go_num, by omega, by omega, by rw [HM.out]; exact HN.out⟩
          case measure => simp [intOf]; omega
    · have hkb : decide ((k : Int) < N) = false := by simp; omega
      rw [show N.toNat - k = 0 by omega] at hw
      have hw2 : e = workN L N.toNat day := hw
      have hfr : FR day N 5 L e 0 := by
        rw [hw2] at e0 e1 ⊢
        exact (fr_plain HF.out e0).1 e1
      have HFR := Lib.hid hfr
      have heb : decide (1000000 < e) = false := by simp; omega
      clear hfr hw hw2
      go_wp2
      go_ret2
      exact ⟨⟨_, _, rfl, HFR.out⟩, box_below _ _⟩

theorem rfirst_any (day N U : Int) (v : Value) (L : List Int) (w : World) (h : argOk day N U) (hv : RI w w.heap.size v L) :
    Calls Tryd.prog 46 #[.int .i64 day, .agg #[.int .i64 N, .int .i64 U], v] w (FirstC day N U L w) := by
  rcases argOk_unit h with rfl | rfl | rfl | rfl | rfl
  · exact rfirst_1 day N v L w h
  · exact rfirst_2 day N v L w h
  · exact rfirst_3 day N v L w h
  · exact rfirst_4 day N v L w h
  · exact rfirst_5 day N v L w h hv

end Go.Proofs.YtpelnfolnlmhdaaDoor
