/- WALKS of the calendar: Add, months and years. -/
import Derived.Test.YtpelnfolnlmhdaaDoorCalI
namespace Go.Proofs.YtpelnfolnlmhdaaDoor
open Go.RowKit Go.Maps
open Cal

theorem Shut.setCell {w : World} {b n : Nat} {L : List Int} (h : Shut w b n L) {p : Addr} (hp : b ≠ p.block) (u : Value) : Shut (w.setCell p u) b n L := by
  obtain ⟨D, ⟨es, clock, hh, F, hs, hD⟩, h2⟩ := h
  exact ⟨D, ⟨es, clock, (Below.heap_setCell w p u b hp).trans hh, F, hs, hD⟩, h2⟩

theorem new2_facts {w1 w3 : World} {x y : Int} (h : Below (w1.heap.size + 2) ((w1.alloc (.cells #[.int .i64 x] 3)).alloc (.cells #[.int .i64 y] 25)) w3) :
    w3.cell? ⟨w1.heap.size, 0, none⟩ = some (.int .i64 x) ∧ w3.cell? ⟨w1.heap.size + 1, 0, none⟩ = some (.int .i64 y) ∧ w3.frozen? ⟨w1.heap.size, 0, none⟩ = false ∧ w3.frozen? ⟨w1.heap.size + 1, 0, none⟩ = false ∧ w1.heap.size + 2 ≤ w3.heap.size := by
  refine ⟨?_, ?_, ?_, ?_, ?_⟩
  · rw [h.cell (p := ⟨w1.heap.size, 0, none⟩) (by simp)]; simp [go_sem]
  · rw [h.cell (p := ⟨w1.heap.size + 1, 0, none⟩) (by simp)]; simp [go_sem]
  · rw [h.frozen (p := ⟨w1.heap.size, 0, none⟩) (by simp)]; simp [go_sem]
  · rw [h.frozen (p := ⟨w1.heap.size + 1, 0, none⟩) (by simp)]; simp [go_sem]
  · have := h.size; simpa using this

/-- what the closure leaves -/
def Later (day n : Int) (a : Nat) (w : World) (e : Ending) (w' : World) : Prop :=
  e = .returned (.tuple #[]) ∧ ∃ w3, Below w.heap.size w w3 ∧ w' = (w3.setCell ⟨a, 0, none⟩ (.int .i64 (monthsV day n).1)).setCell ⟨a + 1, 0, none⟩ (.int .i64 (monthsV day n).2)

theorem later_any (day n x y : Int) (c a : Nat) (w : World) (h0 : 0 ≤ day) (h1 : day ≤ 1000000) (n0 : 0 ≤ n) (n1 : n ≤ 100000000)
    (hc : w.cell? ⟨c, 0, none⟩ = some (.int .i64 day)) (hp : w.cell? ⟨a, 0, none⟩ = some (.int .i64 x)) (hq : w.cell? ⟨a + 1, 0, none⟩ = some (.int .i64 y))
    (fp : w.frozen? ⟨a, 0, none⟩ = false) (fq : w.frozen? ⟨a + 1, 0, none⟩ = false) (ha : a + 1 < w.heap.size) :
    Calls Tryd.prog 33 #[.int .i64 n, .pointer (some ⟨c, 0, none⟩), .pointer (some ⟨a, 0, none⟩), .pointer (some ⟨a + 1, 0, none⟩)] w (Later day n a w) := by
  obtain ⟨r, hr⟩ : ∃ r, r = monthsV day n := ⟨_, rfl⟩
  go_enter Tryd.func33, Tryd.ntmps33
  go_wp2_with fail
  refine (monthsF_any _ _ _ h0 h1 n0 n1).mono ?_
  rintro e w3 ⟨rfl, hb⟩
  have kp : w3.cell? ⟨a, 0, none⟩ = some (.int .i64 x) := (hb.cell (p := ⟨a, 0, none⟩) (by simp; omega)).trans hp
  have kq : w3.cell? ⟨a + 1, 0, none⟩ = some (.int .i64 y) := (hb.cell (p := ⟨a + 1, 0, none⟩) (by simpa using ha)).trans hq
  have gp : w3.frozen? ⟨a, 0, none⟩ = false := (hb.frozen (p := ⟨a, 0, none⟩) (by simp; omega)).trans fp
  have gq : w3.frozen? ⟨a + 1, 0, none⟩ = false := (hb.frozen (p := ⟨a + 1, 0, none⟩) (by simpa using ha)).trans fq
  rw [← hr]
  clear hp hq fp fq hc
  have HR := Lib.hid hr
  clear hr
  go_wp2
  go_end0
  exact ⟨rfl, w3, hb, by rw [← HR.out]⟩

set_option maxHeartbeats 2000000 in
set_option maxRecDepth 100000 in
theorem add_month (day N : Int) (v : Value) (L : List Int) (w : World) (h : argOk day N 3) (hv : RI w w.heap.size v L) (hl : L.length ≤ 1000) :
    Calls Tryd.prog 12 #[.int .i64 day, .agg #[.int .i64 N, .int .i64 3], v] w fun e w' => e = .returned (.tuple #[.int .i64 (lastV L (monthsV day (N))).1, .int .i64 (lastV L (monthsV day (N))).2]) ∧ Below w.heap.size w w' := by
  obtain ⟨h0, h0', u0, u1, n0, n1⟩ := h
  have hv2 := ((hv.alloc (.cells #[.int .i64 day] 3)).more (Nat.le_succ _)).below (w' := (w.alloc (.cells #[.int .i64 day] 3)).alloc (.cells #[.int .i64 N, .int .i64 3] 29)) ((Below.refl _ _).alloc (by simp) _)
  obtain ⟨A, cap, rfl, hlen, _, _⟩ := id hv
  have h4' : decide (N < 0) = false := by simp; omega
  have h5' : decide (1000000 < N) = false := by simp; omega
  have h6' : decide (1000 < L.length) = false := by simp; omega
  have hlat := fun w c a x y => later_any day (N) x y c a w h0 h0' (by omega) (by omega)
  have hrr : (monthsV day (N)).2 = 0 → 0 ≤ (monthsV day (N)).1 ∧ (monthsV day (N)).1 ≤ 1000000 := monthsV_ok2
  unfold Later at hlat
  generalize monthsV day (N) = r at hlat hrr ⊢
  obtain ⟨r1, r2⟩ := r
  simp only at hlat hrr
  have HL := Lib.hid hlat
  have HRR := Lib.hid hrr
  clear hlat hrr
  go_enter Tryd.func12, Tryd.ntmps12
  go_wp2_with (go_at_call 30; refine (is_yes _ _ h0 h0').mono ?_; rintro e w' ⟨rfl, rfl⟩)
  refine (closedOn_any _ L _ (hv2.more (by simp))).mono ?_
  rintro e w1 ⟨b, rfl, hb, hsh, hbw⟩
  obtain ⟨c0, c1, c2, hs, hbw2⟩ := boxed_facts (by simpa using hbw)
  simp at hb
  have hbl := hsh.lt
  have d0 := fun x y => kept2 (p := ⟨w.heap.size, 0, none⟩) c0 (by simp; omega) x y
  have d1 := fun x y => kept2 (p := ⟨w.heap.size + 1, 0, none⟩) c1 (by simp; omega) x y
  have d2 := fun x y => kept2 (p := ⟨w.heap.size + 1, 1, none⟩) c2 (by simp; omega) x y
  clear hbw hv hv2
  go_wp2_with fail
  refine (HL.out _ w.heap.size w1.heap.size day 0 (d0 _ _) (by simp [go_sem]) (by simp [go_sem]) (by simp [go_sem]) (by simp [go_sem]) (by simp)).mono ?_
  rintro e w2 ⟨rfl, w3, hb3, rfl⟩
  obtain ⟨e0, e1, f0, f1, hs3⟩ := new2_facts (by simpa using hb3)
  have hsh3 : Shut w3 b L.length L := ((hsh.alloc _).alloc _).below hb3 (by simp; omega)
  have hbw3 : Below w.heap.size w w3 := (((hbw2.alloc hbw2.size _).alloc (by have := hbw2.size; simp; omega) _)).trans (hb3.mono (by simp; omega))
  have hbe : ∀ (u1 u2 : Value), Below w.heap.size w ((w3.setCell ⟨w1.heap.size, 0, none⟩ u1).setCell ⟨w1.heap.size + 1, 0, none⟩ u2) := fun u1 u2 => (hbw3.setCell (by simp; omega) _).setCell (by simp; omega) _
  have hse : ∀ (u1 u2 : Value), Shut ((w3.setCell ⟨w1.heap.size, 0, none⟩ u1).setCell ⟨w1.heap.size + 1, 0, none⟩ u2) b L.length L := fun u1 u2 => (hsh3.setCell (by simp; omega) _).setCell (by simp; omega) _
  have hwb : w.heap.size ≤ w1.heap.size := by omega
  clear d0 d1 d2 c0 c1 c2 hb3 HL hsh3
  by_cases hz : r2 = 0
  · subst hz
    obtain ⟨q0, q1⟩ := HRR.out rfl
    clear HRR
    have hfg := fromV_ge L r1
    obtain ⟨F, hF⟩ : ∃ F, F = fromV L r1 := ⟨_, rfl⟩
    by_cases hf : 1000000 < F
    · have HV := Lib.hid (lastV_late q0 q1 (by rw [← hF]; exact hf))
      have HF := Lib.hid hF
      clear hfg hF
      go_wp2_with fail
      refine (is_yes _ _ q0 q1).mono ?_
      rintro e w' ⟨rfl, rfl⟩
      go_wp2_with fail
      refine (from_any b _ L _ _ (hse _ _)).mono ?_
      rintro e w' ⟨rfl, rfl⟩
      rw [← HF.out]
      go_wp2_with (go_at_call 30; refine (is_no _ _ (.inr hf)).mono ?_; rintro e w' ⟨rfl, rfl⟩)
      go_ret2
      exact ⟨by rw [HV.out]; rfl, (hbe _ _).setCell (by simpa using hwb) _⟩
    · have HV := Lib.hid (lastV_ok q0 q1 (by rw [← hF]; omega))
      have hf0 : 0 ≤ F := by omega
      have HF := Lib.hid hF
      clear hfg hF
      go_wp2_with fail
      refine (is_yes _ _ q0 q1).mono ?_
      rintro e w' ⟨rfl, rfl⟩
      go_wp2_with fail
      refine (from_any b _ L _ _ (hse _ _)).mono ?_
      rintro e w' ⟨rfl, rfl⟩
      rw [← HF.out]
      go_wp2_with (go_at_call 30; refine (is_yes _ _ hf0 (by omega)).mono ?_; rintro e w' ⟨rfl, rfl⟩)
      go_ret2
      exact ⟨by rw [HV.out]; exact ret2_int HF.out rfl, (hbe _ _).setCell (by simpa using hwb) _⟩
  · have HV := Lib.hid (lastV_err (L := L) (a := r1) (b := r2) (.inl hz))
    clear HRR hse
    go_wp2
    go_ret2
    exact ⟨by rw [HV.out]; rfl, hbe _ _⟩

set_option maxHeartbeats 2000000 in
set_option maxRecDepth 100000 in
theorem add_year (day N : Int) (v : Value) (L : List Int) (w : World) (h : argOk day N 4) (hv : RI w w.heap.size v L) (hl : L.length ≤ 1000) :
    Calls Tryd.prog 12 #[.int .i64 day, .agg #[.int .i64 N, .int .i64 4], v] w fun e w' => e = .returned (.tuple #[.int .i64 (lastV L (monthsV day (12 * N))).1, .int .i64 (lastV L (monthsV day (12 * N))).2]) ∧ Below w.heap.size w w' := by
  obtain ⟨h0, h0', u0, u1, n0, n1⟩ := h
  have hv2 := ((hv.alloc (.cells #[.int .i64 day] 3)).more (Nat.le_succ _)).below (w' := (w.alloc (.cells #[.int .i64 day] 3)).alloc (.cells #[.int .i64 N, .int .i64 4] 29)) ((Below.refl _ _).alloc (by simp) _)
  obtain ⟨A, cap, rfl, hlen, _, _⟩ := id hv
  have h4' : decide (N < 0) = false := by simp; omega
  have h5' : decide (1000000 < N) = false := by simp; omega
  have h6' : decide (1000 < L.length) = false := by simp; omega
  have hlat := fun w c a x y => later_any day (12 * N) x y c a w h0 h0' (by omega) (by omega)
  have hrr : (monthsV day (12 * N)).2 = 0 → 0 ≤ (monthsV day (12 * N)).1 ∧ (monthsV day (12 * N)).1 ≤ 1000000 := monthsV_ok2
  unfold Later at hlat
  generalize monthsV day (12 * N) = r at hlat hrr ⊢
  obtain ⟨r1, r2⟩ := r
  simp only at hlat hrr
  have HL := Lib.hid hlat
  have HRR := Lib.hid hrr
  clear hlat hrr
  go_enter Tryd.func12, Tryd.ntmps12
  go_wp2_with (go_at_call 30; refine (is_yes _ _ h0 h0').mono ?_; rintro e w' ⟨rfl, rfl⟩)
  refine (closedOn_any _ L _ (hv2.more (by simp))).mono ?_
  rintro e w1 ⟨b, rfl, hb, hsh, hbw⟩
  obtain ⟨c0, c1, c2, hs, hbw2⟩ := boxed_facts (by simpa using hbw)
  simp at hb
  have hbl := hsh.lt
  have d0 := fun x y => kept2 (p := ⟨w.heap.size, 0, none⟩) c0 (by simp; omega) x y
  have d1 := fun x y => kept2 (p := ⟨w.heap.size + 1, 0, none⟩) c1 (by simp; omega) x y
  have d2 := fun x y => kept2 (p := ⟨w.heap.size + 1, 1, none⟩) c2 (by simp; omega) x y
  clear hbw hv hv2
  go_wp2_with fail
  refine (HL.out _ w.heap.size w1.heap.size day 0 (d0 _ _) (by simp [go_sem]) (by simp [go_sem]) (by simp [go_sem]) (by simp [go_sem]) (by simp)).mono ?_
  rintro e w2 ⟨rfl, w3, hb3, rfl⟩
  obtain ⟨e0, e1, f0, f1, hs3⟩ := new2_facts (by simpa using hb3)
  have hsh3 : Shut w3 b L.length L := ((hsh.alloc _).alloc _).below hb3 (by simp; omega)
  have hbw3 : Below w.heap.size w w3 := (((hbw2.alloc hbw2.size _).alloc (by have := hbw2.size; simp; omega) _)).trans (hb3.mono (by simp; omega))
  have hbe : ∀ (u1 u2 : Value), Below w.heap.size w ((w3.setCell ⟨w1.heap.size, 0, none⟩ u1).setCell ⟨w1.heap.size + 1, 0, none⟩ u2) := fun u1 u2 => (hbw3.setCell (by simp; omega) _).setCell (by simp; omega) _
  have hse : ∀ (u1 u2 : Value), Shut ((w3.setCell ⟨w1.heap.size, 0, none⟩ u1).setCell ⟨w1.heap.size + 1, 0, none⟩ u2) b L.length L := fun u1 u2 => (hsh3.setCell (by simp; omega) _).setCell (by simp; omega) _
  have hwb : w.heap.size ≤ w1.heap.size := by omega
  clear d0 d1 d2 c0 c1 c2 hb3 HL hsh3
  by_cases hz : r2 = 0
  · subst hz
    obtain ⟨q0, q1⟩ := HRR.out rfl
    clear HRR
    have hfg := fromV_ge L r1
    obtain ⟨F, hF⟩ : ∃ F, F = fromV L r1 := ⟨_, rfl⟩
    by_cases hf : 1000000 < F
    · have HV := Lib.hid (lastV_late q0 q1 (by rw [← hF]; exact hf))
      have HF := Lib.hid hF
      clear hfg hF
      go_wp2_with fail
      refine (is_yes _ _ q0 q1).mono ?_
      rintro e w' ⟨rfl, rfl⟩
      go_wp2_with fail
      refine (from_any b _ L _ _ (hse _ _)).mono ?_
      rintro e w' ⟨rfl, rfl⟩
      rw [← HF.out]
      go_wp2_with (go_at_call 30; refine (is_no _ _ (.inr hf)).mono ?_; rintro e w' ⟨rfl, rfl⟩)
      go_ret2
      exact ⟨by rw [HV.out]; rfl, (hbe _ _).setCell (by simpa using hwb) _⟩
    · have HV := Lib.hid (lastV_ok q0 q1 (by rw [← hF]; omega))
      have hf0 : 0 ≤ F := by omega
      have HF := Lib.hid hF
      clear hfg hF
      go_wp2_with fail
      refine (is_yes _ _ q0 q1).mono ?_
      rintro e w' ⟨rfl, rfl⟩
      go_wp2_with fail
      refine (from_any b _ L _ _ (hse _ _)).mono ?_
      rintro e w' ⟨rfl, rfl⟩
      rw [← HF.out]
      go_wp2_with (go_at_call 30; refine (is_yes _ _ hf0 (by omega)).mono ?_; rintro e w' ⟨rfl, rfl⟩)
      go_ret2
      exact ⟨by rw [HV.out]; exact ret2_int HF.out rfl, (hbe _ _).setCell (by simpa using hwb) _⟩
  · have HV := Lib.hid (lastV_err (L := L) (a := r1) (b := r2) (.inl hz))
    clear HRR hse
    go_wp2
    go_ret2
    exact ⟨by rw [HV.out]; rfl, hbe _ _⟩

end Go.Proofs.YtpelnfolnlmhdaaDoor
