/- WALKS of the calendar: Add, working days; Add for every argument. -/
import Derived.Test.YtpelnfolnlmhdaaDoorCalJ
namespace Go.Proofs.YtpelnfolnlmhdaaDoor
open Go.RowKit Go.Maps
open Cal

/-- what holds of the world in the loop over working days -/
structure WorkW (w1 w wr : World) (N e : Int) (b : Nat) (L : List Int) : Prop where
  p : wr.cell? ⟨w1.heap.size, 0, none⟩ = some (.int .i64 e)
  q : wr.cell? ⟨w1.heap.size + 1, 0, none⟩ = some (.int .i64 0)
  f : wr.frozen? ⟨w1.heap.size, 0, none⟩ = false
  t : wr.cell? ⟨w.heap.size + 1, 0, none⟩ = some (.int .i64 N)
  s : Shut wr b L.length L
  b : Below w.heap.size w wr

theorem WorkW.set_ {w1 w wr : World} {N e : Int} {b : Nat} {L : List Int} (h : WorkW w1 w wr N e b L) (hw : w.heap.size + 2 ≤ w1.heap.size) (hb : b < w1.heap.size) (e' : Int) :
    WorkW w1 w (wr.setCell ⟨w1.heap.size, 0, none⟩ (.int .i64 e')) N e' b L :=
  ⟨World.cell?_setCell_same _ _ _ h.p, (World.cell?_setCell_other _ _ _ _ (by simp)).trans h.q, (World.frozen?_setCell _ _ _ _).trans h.f, (World.cell?_setCell_other _ _ _ _ (by simp <;> omega)).trans h.t, h.s.setCell (by simp <;> omega) _, h.b.setCell (by show w.heap.size ≤ w1.heap.size; omega) _⟩

set_option maxHeartbeats 2000000 in
set_option maxRecDepth 100000 in
theorem add_work (day N : Int) (v : Value) (L : List Int) (w : World) (h : argOk day N 5) (hv : RI w w.heap.size v L) (hl : L.length ≤ 1000) :
    Calls Tryd.prog 12 #[.int .i64 day, .agg #[.int .i64 N, .int .i64 5], v] w fun e w' => e = .returned (.tuple #[.int .i64 (lastV L (workN L N.toNat day, 0)).1, .int .i64 (lastV L (workN L N.toNat day, 0)).2]) ∧ Below w.heap.size w w' := by
  obtain ⟨h0, h0', u0, u1, n0, n1⟩ := h
  have hv2 := ((hv.alloc (.cells #[.int .i64 day] 3)).more (Nat.le_succ _)).below (w' := (w.alloc (.cells #[.int .i64 day] 3)).alloc (.cells #[.int .i64 N, .int .i64 5] 29)) ((Below.refl _ _).alloc (by simp) _)
  obtain ⟨A, cap, rfl, hlen, _, _⟩ := id hv
  have h4' : decide (N < 0) = false := by simp; omega
  have h5' : decide (1000000 < N) = false := by simp; omega
  have h6' : decide (1000 < L.length) = false := by simp; omega
  go_enter Tryd.func12, Tryd.ntmps12
  go_wp2_with (go_at_call 30; refine (is_yes _ _ h0 h0').mono ?_; rintro e w' ⟨rfl, rfl⟩)
  refine (closedOn_any _ L _ (hv2.more (by simp))).mono ?_
  rintro e w1 ⟨b, rfl, hb, hsh, hbw⟩
  obtain ⟨c0, c1, c2, hs, hbw2⟩ := boxed_facts (by simpa using hbw)
  simp at hb
  have hbl := hsh.lt
  have d1 := fun x y => kept2 (p := ⟨w.heap.size + 1, 0, none⟩) c1 (by simp; omega) x y
  have d2 := fun x y => kept2 (p := ⟨w.heap.size + 1, 1, none⟩) c2 (by simp; omega) x y
  have hW : WorkW w1 w ((w1.alloc (.cells #[.int .i64 day] 3)).alloc (.cells #[.int .i64 0] 25)) N day b L :=
    ⟨by simp [go_sem], by simp [go_sem], by simp [go_sem], d1 _ _, (hsh.alloc _).alloc _, (hbw2.alloc hbw2.size _).alloc (by have := hbw2.size; simp; omega) _⟩
  have hwb : w.heap.size ≤ w1.heap.size := by omega
  clear hbw hv hv2 hbw2 hsh c1 c2
  go_wp2_with fail
  clear d1 d2 c0
  go_loopw [12] (fun n wr => ∃ (k : Nat) (e : Int), n = .int .i64 k ∧ (k : Int) ≤ N ∧ e ≤ 1000001 ∧ 0 ≤ e ∧ workN L (N.toNat - k) e = workN L N.toNat day ∧ WorkW w1 w wr N e b L) (fun n _ => N.toNat - (intOf n).toNat)
  case atStart => exact ⟨0, day, rfl, n0, by omega, h0, by simp, hW⟩
  case round =>
    obtain ⟨k, e, rfl, hk, he, he0, hwn, hW⟩ := hrel
    have HW := Lib.hid hW
    obtain ⟨p, q, f, t, s, bb⟩ := hW
    by_cases hlt : (k : Int) < N
    · by_cases hin : 1000000 < e
      · rw [workN_out (.inr hin)] at hwn
        have HV := Lib.hid (lastV_err (L := L) (a := workN L N.toNat day) (b := 0) (.inr (.inr (by omega))))
        clear hwn
        go_wp2_with (go_at_call 30; refine (is_no _ _ (.inr hin)).mono ?_; rintro e w' ⟨rfl, rfl⟩)
        go_ret2
        exact ⟨by rw [HV.out]; rfl, bb⟩
      · rw [show N.toNat - k = (N.toNat - (k + 1)) + 1 by omega, workN_in (by omega) (by omega)] at hwn
        have hfl := fromV_le L (n := e + 1) (by omega)
        have hfg := fromV_ge L (e + 1)
        have HN := Lib.hid hwn
        clear hwn
        go_wp2_with (first | (go_at_call 30; refine (is_yes _ _ (by omega) (by omega)).mono ?_; rintro e w' ⟨rfl, rfl⟩) | (go_at_call 35; refine (from_any b _ L _ _ s).mono ?_; rintro e w' ⟨rfl, rfl⟩))
        go_roundw
        case rel => exact ⟨k + 1, _, by go_num, by omega, hfl, by omega, HN.out, HW.out.set_ hs hbl _⟩
        case measure => simp [intOf]; omega
    · rw [show N.toNat - k = 0 by omega] at hwn
      have hwn2 : workN L N.toNat day = e := hwn.symm
      clear hwn
      by_cases hin : 1000000 < e
      · have HV := Lib.hid (show lastV L (workN L N.toNat day, 0) = (0, 10) by rw [hwn2]; exact lastV_err (.inr (.inr hin)))
        clear hwn2
        go_wp2_with (go_at_call 30; refine (is_no _ _ (.inr hin)).mono ?_; rintro e w' ⟨rfl, rfl⟩)
        go_ret2
        exact ⟨by rw [HV.out]; rfl, bb⟩
      · have hin2 : e ≤ 1000000 := by omega
        have hfg := fromV_ge L e
        obtain ⟨F, hF⟩ : ∃ F, F = fromV L e := ⟨_, rfl⟩
        by_cases hf : 1000000 < F
        · have HV := Lib.hid (show lastV L (workN L N.toNat day, 0) = (0, 10) by rw [hwn2]; exact lastV_late he0 hin2 (by rw [← hF]; exact hf))
          have HF := Lib.hid hF
          clear hfg hF hwn2
          go_wp2_with fail
          refine (is_yes _ _ he0 hin2).mono ?_
          rintro e w' ⟨rfl, rfl⟩
          go_wp2_with fail
          refine (from_any b _ L _ _ s).mono ?_
          rintro e w' ⟨rfl, rfl⟩
          rw [← HF.out]
          go_wp2_with (go_at_call 30; refine (is_no _ _ (.inr hf)).mono ?_; rintro e w' ⟨rfl, rfl⟩)
          go_ret2
          exact ⟨by rw [HV.out]; rfl, bb.setCell (by simpa using hwb) _⟩
        · have HV := Lib.hid (show lastV L (workN L N.toNat day, 0) = (F, 0) by rw [hwn2, hF]; exact lastV_ok he0 hin2 (by rw [← hF]; omega))
          have hf0 : 0 ≤ F := by omega
          have HF := Lib.hid hF
          clear hfg hF hwn2
          go_wp2_with fail
          refine (is_yes _ _ he0 hin2).mono ?_
          rintro e w' ⟨rfl, rfl⟩
          go_wp2_with fail
          refine (from_any b _ L _ _ s).mono ?_
          rintro e w' ⟨rfl, rfl⟩
          rw [← HF.out]
          go_wp2_with (go_at_call 30; refine (is_yes _ _ hf0 (by omega)).mono ?_; rintro e w' ⟨rfl, rfl⟩)
          go_ret2
          exact ⟨by rw [HV.out]; rfl, bb.setCell (by simpa using hwb) _⟩

theorem add_any (day N U : Int) (v : Value) (L : List Int) (w : World) (hv : RI w w.heap.size v L) :
    Calls Tryd.prog 12 #[.int .i64 day, .agg #[.int .i64 N, .int .i64 U], v] w fun e w' => e = .returned (.tuple #[.int .i64 (addV day N U L).1, .int .i64 (addV day N U L).2]) ∧ Below w.heap.size w w' := by
  by_cases h : argOk day N U
  · by_cases hl : 1000 < L.length
    · rw [addV_limit h hl]; exact add_limit day N U v L w h hv hl
    · have hl2 : L.length ≤ 1000 := by omega
      rw [addV_ok h hl2]
      rcases argOk_unit h with rfl | rfl | rfl | rfl | rfl
      · rw [firstV_1]; exact add_day day N v L w h hv hl2
      · rw [firstV_2]; exact add_week day N v L w h hv hl2
      · rw [firstV_3]; exact add_month day N v L w h hv hl2
      · rw [firstV_4]; exact add_year day N v L w h hv hl2
      · rw [firstV_5]; exact add_work day N v L w h hv hl2
  · rw [addV_arg h]; exact add_arg day N U v w h

end Go.Proofs.YtpelnfolnlmhdaaDoor
