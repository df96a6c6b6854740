/- WALKS of the calendar: Add, where its arguments are allowed. -/
import Derived.Test.YtpelnfolnlmhdaaDoorCalH
namespace Go.Proofs.YtpelnfolnlmhdaaDoor
open Go.RowKit Go.Maps
open Cal

/-- the world when the closed days' map is made -/
def Boxed (w : World) (day N U : Int) : World := (w.alloc (.cells #[.int .i64 day] 3)).alloc (.cells #[.int .i64 N, .int .i64 U] 29)

theorem boxed_facts {w w1 : World} {day N U : Int} (h : Below (w.heap.size + 2) ((w.alloc (.cells #[.int .i64 day] 3)).alloc (.cells #[.int .i64 N, .int .i64 U] 29)) w1) :
    w1.cell? ⟨w.heap.size, 0, none⟩ = some (.int .i64 day) ∧ w1.cell? ⟨w.heap.size + 1, 0, none⟩ = some (.int .i64 N) ∧ w1.cell? ⟨w.heap.size + 1, 1, none⟩ = some (.int .i64 U) ∧
      w.heap.size + 2 ≤ w1.heap.size ∧ Below w.heap.size w w1 := by
  refine ⟨?_, ?_, ?_, ?_, ?_⟩
  · rw [h.cell (p := ⟨w.heap.size, 0, none⟩) (by simp)]; simp [go_sem]
  · rw [h.cell (p := ⟨w.heap.size + 1, 0, none⟩) (by simp)]; simp [go_sem]
  · rw [h.cell (p := ⟨w.heap.size + 1, 1, none⟩) (by simp)]; simp [go_sem]
  · have := h.size; simpa using this
  · exact (((Below.refl _ _).alloc (Nat.le_refl _) _).alloc (by simp) _).trans (h.mono (by omega))

theorem kept2 {w1 : World} {p : Addr} {u : Value} (hc : w1.cell? p = some u) (hp : p.block < w1.heap.size) (x y : Int) :
    ((w1.alloc (.cells #[.int .i64 x] 3)).alloc (.cells #[.int .i64 y] 25)).cell? p = some u := by
  rw [World.cell?_alloc_lt _ _ _ (by simp; omega), World.cell?_alloc_lt _ _ _ hp, hc]

set_option maxHeartbeats 2000000 in
set_option maxRecDepth 100000 in
theorem add_day (day N : Int) (v : Value) (L : List Int) (w : World) (h : argOk day N 1) (hv : RI w w.heap.size v L) (hl : L.length ≤ 1000) :
    Calls Tryd.prog 12 #[.int .i64 day, .agg #[.int .i64 N, .int .i64 1], v] w fun e w' => e = .returned (.tuple #[.int .i64 (lastV L (day + N, 0)).1, .int .i64 (lastV L (day + N, 0)).2]) ∧ Below w.heap.size w w' := by
  obtain ⟨h0, h0', u0, u1, n0, n1⟩ := h
  have hv2 := ((hv.alloc (.cells #[.int .i64 day] 3)).more (Nat.le_succ _)).below (w' := (w.alloc (.cells #[.int .i64 day] 3)).alloc (.cells #[.int .i64 N, .int .i64 1] 29)) ((Below.refl _ _).alloc (by simp) _)
  obtain ⟨A, cap, rfl, hlen, _, _⟩ := id hv
  have h4' : decide (N < 0) = false := by simp; omega
  have h5' : decide (1000000 < N) = false := by simp; omega
  have h6' : decide (1000 < L.length) = false := by simp; omega
  go_enter Tryd.func12, Tryd.ntmps12
  go_wp2_with (go_at_call 30; refine (is_yes _ _ h0 h0').mono ?_; rintro e w' ⟨rfl, rfl⟩)
  refine (closedOn_any _ L _ (hv2.more (by simp))).mono ?_
  rintro e w1 ⟨b, rfl, hb, hsh, hbw⟩
  obtain ⟨c0, c1, c2, hs, hbw2⟩ := boxed_facts (by simpa using hbw)
  simp at hb
  have hbl := hsh.lt
  have d1 := fun x y => kept2 (p := ⟨w.heap.size + 1, 0, none⟩) c1 (by simp; omega) x y
  have d2 := fun x y => kept2 (p := ⟨w.heap.size + 1, 1, none⟩) c2 (by simp; omega) x y
  clear hbw hv hv2
  have hbe : ∀ o1 o2 : Obj, Below w.heap.size w ((w1.alloc o1).alloc o2) := fun o1 o2 => (hbw2.alloc hbw2.size _).alloc (by have := hbw2.size; simp; omega) _
  have hfg := fromV_ge L (day + N)
  obtain ⟨F, hF⟩ : ∃ F, F = fromV L (day + N) := ⟨_, rfl⟩
  by_cases hx : 1000000 < day + N
  · have HV := Lib.hid (lastV_err (L := L) (a := day + N) (b := 0) (.inr (.inr hx)))
    clear hfg hF
    go_wp2_with (go_at_call 30; refine (is_no _ _ (.inr hx)).mono ?_; rintro e w' ⟨rfl, rfl⟩)
    go_ret2
    exact ⟨by rw [HV.out]; rfl, hbe _ _⟩
  · have hx0 : 0 ≤ day + N := by omega
    have hx1 : day + N ≤ 1000000 := by omega
    have hsh2 := fun o1 o2 => (hsh.alloc o1).alloc o2
    by_cases hf : 1000000 < F
    · have HV := Lib.hid (lastV_late hx0 hx1 (by rw [← hF]; exact hf))
      have HF := Lib.hid hF
      clear hfg hF
      go_wp2_with fail
      refine (is_yes _ _ hx0 hx1).mono ?_
      rintro e w' ⟨rfl, rfl⟩
      go_wp2_with fail
      refine (from_any b _ L _ _ (hsh2 _ _)).mono ?_
      rintro e w' ⟨rfl, rfl⟩
      rw [← HF.out]
      go_wp2_with (go_at_call 30; refine (is_no _ _ (.inr hf)).mono ?_; rintro e w' ⟨rfl, rfl⟩)
      go_ret2
      exact ⟨by rw [HV.out]; rfl, hbe _ _⟩
    · have HV := Lib.hid (lastV_ok hx0 hx1 (by rw [← hF]; omega))
      have hf0 : 0 ≤ F := by omega
      have HF := Lib.hid hF
      clear hfg hF
      go_wp2_with fail
      refine (is_yes _ _ hx0 hx1).mono ?_
      rintro e w' ⟨rfl, rfl⟩
      go_wp2_with fail
      refine (from_any b _ L _ _ (hsh2 _ _)).mono ?_
      rintro e w' ⟨rfl, rfl⟩
      rw [← HF.out]
      go_wp2_with (go_at_call 30; refine (is_yes _ _ hf0 (by omega)).mono ?_; rintro e w' ⟨rfl, rfl⟩)
      go_ret2
      exact ⟨by rw [HV.out]; exact ret2_int HF.out rfl, hbe _ _⟩

set_option maxHeartbeats 2000000 in
set_option maxRecDepth 100000 in
theorem add_week (day N : Int) (v : Value) (L : List Int) (w : World) (h : argOk day N 2) (hv : RI w w.heap.size v L) (hl : L.length ≤ 1000) :
    Calls Tryd.prog 12 #[.int .i64 day, .agg #[.int .i64 N, .int .i64 2], v] w fun e w' => e = .returned (.tuple #[.int .i64 (lastV L (day + 7 * N, 0)).1, .int .i64 (lastV L (day + 7 * N, 0)).2]) ∧ Below w.heap.size w w' := by
  obtain ⟨h0, h0', u0, u1, n0, n1⟩ := h
  have hv2 := ((hv.alloc (.cells #[.int .i64 day] 3)).more (Nat.le_succ _)).below (w' := (w.alloc (.cells #[.int .i64 day] 3)).alloc (.cells #[.int .i64 N, .int .i64 2] 29)) ((Below.refl _ _).alloc (by simp) _)
  obtain ⟨A, cap, rfl, hlen, _, _⟩ := id hv
  have h4' : decide (N < 0) = false := by simp; omega
  have h5' : decide (1000000 < N) = false := by simp; omega
  have h6' : decide (1000 < L.length) = false := by simp; omega
  go_enter Tryd.func12, Tryd.ntmps12
  go_wp2_with (go_at_call 30; refine (is_yes _ _ h0 h0').mono ?_; rintro e w' ⟨rfl, rfl⟩)
  refine (closedOn_any _ L _ (hv2.more (by simp))).mono ?_
  rintro e w1 ⟨b, rfl, hb, hsh, hbw⟩
  obtain ⟨c0, c1, c2, hs, hbw2⟩ := boxed_facts (by simpa using hbw)
  simp at hb
  have hbl := hsh.lt
  have d1 := fun x y => kept2 (p := ⟨w.heap.size + 1, 0, none⟩) c1 (by simp; omega) x y
  have d2 := fun x y => kept2 (p := ⟨w.heap.size + 1, 1, none⟩) c2 (by simp; omega) x y
  clear hbw hv hv2
  have hbe : ∀ o1 o2 : Obj, Below w.heap.size w ((w1.alloc o1).alloc o2) := fun o1 o2 => (hbw2.alloc hbw2.size _).alloc (by have := hbw2.size; simp; omega) _
  have hfg := fromV_ge L (day + 7 * N)
  obtain ⟨F, hF⟩ : ∃ F, F = fromV L (day + 7 * N) := ⟨_, rfl⟩
  by_cases hx : 1000000 < day + 7 * N
  · have HV := Lib.hid (lastV_err (L := L) (a := day + 7 * N) (b := 0) (.inr (.inr hx)))
    clear hfg hF
    go_wp2_with (go_at_call 30; refine (is_no _ _ (.inr hx)).mono ?_; rintro e w' ⟨rfl, rfl⟩)
    go_ret2
    exact ⟨by rw [HV.out]; rfl, hbe _ _⟩
  · have hx0 : 0 ≤ day + 7 * N := by omega
    have hx1 : day + 7 * N ≤ 1000000 := by omega
    have hsh2 := fun o1 o2 => (hsh.alloc o1).alloc o2
    by_cases hf : 1000000 < F
    · have HV := Lib.hid (lastV_late hx0 hx1 (by rw [← hF]; exact hf))
      have HF := Lib.hid hF
      clear hfg hF
      go_wp2_with fail
      refine (is_yes _ _ hx0 hx1).mono ?_
      rintro e w' ⟨rfl, rfl⟩
      go_wp2_with fail
      refine (from_any b _ L _ _ (hsh2 _ _)).mono ?_
      rintro e w' ⟨rfl, rfl⟩
      rw [← HF.out]
      go_wp2_with (go_at_call 30; refine (is_no _ _ (.inr hf)).mono ?_; rintro e w' ⟨rfl, rfl⟩)
      go_ret2
      exact ⟨by rw [HV.out]; rfl, hbe _ _⟩
    · have HV := Lib.hid (lastV_ok hx0 hx1 (by rw [← hF]; omega))
      have hf0 : 0 ≤ F := by omega
      have HF := Lib.hid hF
      clear hfg hF
      go_wp2_with fail
      refine (is_yes _ _ hx0 hx1).mono ?_
      rintro e w' ⟨rfl, rfl⟩
      go_wp2_with fail
      refine (from_any b _ L _ _ (hsh2 _ _)).mono ?_
      rintro e w' ⟨rfl, rfl⟩
      rw [← HF.out]
      go_wp2_with (go_at_call 30; refine (is_yes _ _ hf0 (by omega)).mono ?_; rintro e w' ⟨rfl, rfl⟩)
      go_ret2
      exact ⟨by rw [HV.out]; exact ret2_int HF.out rfl, hbe _ _⟩

end Go.Proofs.YtpelnfolnlmhdaaDoor
