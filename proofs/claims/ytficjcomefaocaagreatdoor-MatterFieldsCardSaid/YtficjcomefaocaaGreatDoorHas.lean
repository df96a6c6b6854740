/- WALKS of matter.Has and matter.Proper. -/
import Derived.Test.YtficjcomefaocaaGreatDoorForm
namespace Go.Proofs.YtficjcomefaocaaGreatDoor
open Go.RowKit Go.Maps
open Lexer

theorem str_ne {a b : ByteArray} (h : a ≠ b) : (a.toList == b.toList) = false := by
  rw [beq_eq_false_iff_ne]
  intro e
  apply h
  rw [Lib.toList_data, Lib.toList_data] at e
  exact ByteArray.ext (Array.toList_inj.1 e)

/-- is a right's entry one of this name, since this day at the latest -/
noncomputable def oneB (name : ByteArray) (day : Int) (x : ByteArray × Int) : Bool := by classical exact decide (x.1 = name) && decide (x.2 ≤ day)
theorem oneB_iff {name : ByteArray} {day : Int} {x : ByteArray × Int} : oneB name day x = true ↔ x.1 = name ∧ x.2 ≤ day := by unfold oneB; simp
theorem oneB_no {name : ByteArray} {day : Int} {x : ByteArray × Int} (h : ¬ (x.1 = name ∧ x.2 ≤ day)) : oneB name day x = false := by rw [Bool.eq_false_iff, ne_eq, oneB_iff]; exact h

set_option maxHeartbeats 1000000 in
theorem hasC_any (x : ByteArray × Int) (name : ByteArray) (day : Int) (q1 q2 : Nat) (w : World) (h1 : w.cell? ⟨q1, 0, none⟩ = some (.string name)) (h2 : w.cell? ⟨q2, 0, none⟩ = some (.int .i64 day)) (l1 : q1 < w.heap.size) (l2 : q2 < w.heap.size) :
    Calls Tryz.prog 51 #[.agg #[.string x.1, .int .i64 x.2], .pointer (some ⟨q1, 0, none⟩), .pointer (some ⟨q2, 0, none⟩)] w fun e w' => e = .returned (.bool (oneB name day x)) ∧ Below w.heap.size w w' := by
  have b0 := (Below.refl w.heap.size w).alloc (Nat.le_refl _) (.cells #[.string x.1, .int .i64 x.2] 41)
  have k1 := (b0.cell (p := ⟨q1, 0, none⟩) l1).trans h1
  have k2 := (b0.cell (p := ⟨q2, 0, none⟩) l2).trans h2
  by_cases hn : x.1 = name
  · by_cases hd : x.2 ≤ day
    · have HO := Lib.hid (oneB_iff.2 ⟨hn, hd⟩)
      subst hn
      go_enter Tryz.func51, Tryz.ntmps51
      go_wp2
      go_ret
      exact ⟨lret_bool HO.out.symm, b0⟩
    · have HO := Lib.hid (oneB_no (x := x) (name := name) (day := day) (fun h => hd h.2))
      have hdb : decide (x.2 ≤ day) = false := by simpa using hd
      subst hn
      clear hd
      go_enter Tryz.func51, Tryz.ntmps51
      go_wp2
      go_ret
      exact ⟨lret_bool HO.out.symm, b0⟩
  · have HO := Lib.hid (oneB_no (x := x) (name := name) (day := day) (fun h => hn h.1))
    have hne := str_ne hn
    clear hn
    go_enter Tryz.func51, Tryz.ntmps51
    go_wp2
    go_ret
    exact ⟨lret_bool HO.out.symm, b0⟩

def rightAt (p : ByteArray × Int → Bool) (L : List (ByteArray × Int)) (i : Int) : Prop := (i = -1 ∧ ∀ x ∈ L, p x = false) ∨ (0 ≤ i ∧ ∃ x ∈ L, p x = true)
set_option maxHeartbeats 2000000 in
set_option maxRecDepth 100000 in
theorem rightIdx_any (v : Value) (L : List (ByteArray × Int)) (name : ByteArray) (day : Int) (q1 q2 : Nat) (w : World) (h : RR w w.heap.size v L) (h1 : w.cell? ⟨q1, 0, none⟩ = some (.string name)) (h2 : w.cell? ⟨q2, 0, none⟩ = some (.int .i64 day)) (l1 : q1 < w.heap.size) (l2 : q2 < w.heap.size) :
    Calls Tryz.prog 86 #[v, .func (.func 51) #[] #[.pointer (some ⟨q1, 0, none⟩), .pointer (some ⟨q2, 0, none⟩)]] w fun e w' => (∃ i, e = .returned (.int .i64 i) ∧ rightAt (oneB name day) L i) ∧ Below w.heap.size w w' := by
  obtain ⟨⟨A, cap, rfl, hl, h⟩, _⟩ := h
  rcases h with h0 | ⟨b, off, rfl, hB, hc⟩
  · obtain rfl : L = [] := List.eq_nil_of_length_eq_zero h0
    go_enter Tryz.func86, Tryz.ntmps86
    go_wp2
    refine wp_loop_rounds 1 ?_
    rw [rounds_succ]
    go_wp2
    go_ret
    exact ⟨⟨_, rfl, .inl ⟨rfl, by simp⟩⟩, Below.refl _ _⟩
  · go_enter Tryz.func86, Tryz.ntmps86
    go_wp2
    go_loopw [8] (fun i wr => ∃ k : Nat, k ≤ L.length ∧ i = .int .i64 k ∧ (∀ j, j < k → oneB name day (L.getD j (ByteArray.empty, 0)) = false) ∧ Below w.heap.size w wr) (fun i _ => L.length - (intOf i).toNat)
    case atStart => exact ⟨0, Nat.zero_le _, rfl, fun j hj => absurd hj (by omega), Below.refl _ _⟩
    case round =>
      obtain ⟨k, hk, rfl, hok, hbw⟩ := hrel
      by_cases hlt : k < L.length
      · have c0 : wr.cell? ⟨b, off + k * 2, none⟩ = some (.string (L.getD k (ByteArray.empty, 0)).1) := (hbw.cell (p := ⟨b, off + k * 2, none⟩) hB).trans (by simpa using hc k hlt 0 _ rfl)
        have c1 : wr.cell? ⟨b, off + k * 2 + 1, none⟩ = some (.int .i64 (L.getD k (ByteArray.empty, 0)).2) := (hbw.cell (p := ⟨b, off + k * 2 + 1, none⟩) hB).trans (by simpa using hc k hlt 1 _ rfl)
        obtain ⟨x, hx⟩ : ∃ x, x = L.getD k (ByteArray.empty, 0) := ⟨_, rfl⟩
        have hxm : x ∈ L := by rw [hx]; exact getD_mem L _ hlt
        rw [← hx] at c0 c1
        have m1 := (hbw.cell (p := ⟨q1, 0, none⟩) l1).trans h1
        have m2 := (hbw.cell (p := ⟨q2, 0, none⟩) l2).trans h2
        have hcl := hasC_any x name day q1 q2 wr m1 m2 (Nat.lt_of_lt_of_le l1 hbw.size) (Nat.lt_of_lt_of_le l2 hbw.size)
        have HX := Lib.hid hx
        have HXM := Lib.hid hxm
        have HC := Lib.hid hc
        have HOK := Lib.hid hok
        have HCL := Lib.hid hcl
        clear hx hxm hc hok hcl m1 m2
        go_wp2_with fail
        refine HCL.out.mono ?_
        rintro e w2 ⟨rfl, b2⟩
        have bw2 := hbw.trans (b2.mono hbw.size)
        clear b2 HCL
        cases hs : oneB name day x with
        | true =>
          have HS := Lib.hid hs
          clear hs
          go_wp2
          go_ret
          exact ⟨⟨_, rfl, .inr ⟨by omega, x, HXM.out, HS.out⟩⟩, bw2⟩
        | false =>
          have HS := Lib.hid hs
          clear hs
          go_wp2
          go_roundw
          case rel =>
            refine ⟨k + 1, by omega, by go_num, fun j hj => ?_, bw2⟩
            by_cases e : j = k
            · rw [e, ← HX.out]; exact HS.out
            · exact HOK.out j (by omega)
          case measure => simp [intOf]; omega
      · obtain rfl : k = L.length := by omega
        have hall : ∀ x ∈ L, oneB name day x = false := fun x hx => by
          obtain ⟨j, hj, rfl⟩ := List.getElem_of_mem hx
          have := hok j hj
          rwa [getD_eq L _ hj] at this
        have HALL := Lib.hid hall
        clear hall hok hc
        go_wp2
        go_ret
        exact ⟨⟨_, rfl, .inl ⟨rfl, HALL.out⟩⟩, hbw⟩

/-- has a matter a right -/
noncomputable def hasB (m : Mat) (name : ByteArray) (day : Int) : Bool := m.rights.any (oneB name day)
theorem rightsAny (v : Value) (L : List (ByteArray × Int)) (name : ByteArray) (day : Int) (q1 q2 : Nat) (w : World) (h : RR w w.heap.size v L) (h1 : w.cell? ⟨q1, 0, none⟩ = some (.string name)) (h2 : w.cell? ⟨q2, 0, none⟩ = some (.int .i64 day)) (l1 : q1 < w.heap.size) (l2 : q2 < w.heap.size) :
    Calls Tryz.prog 50 #[v, .func (.func 51) #[] #[.pointer (some ⟨q1, 0, none⟩), .pointer (some ⟨q2, 0, none⟩)]] w fun e w' => e = .returned (.bool (L.any (oneB name day))) ∧ Below w.heap.size w w' := by
  have hi := rightIdx_any v L name day q1 q2 w h h1 h2 l1 l2
  obtain ⟨⟨A, cap, rfl, hl, _⟩, _⟩ := h
  clear h1 h2
  go_enter Tryz.func50, Tryz.ntmps50
  go_wp2_with fail
  refine hi.mono ?_
  rintro e w1 ⟨⟨i, rfl, hb⟩, b1⟩
  have hr : decide (0 ≤ i) = L.any (oneB name day) := by
    rcases hb with ⟨rfl, ha⟩ | ⟨h0, x, hx, hs⟩
    · have : L.any (oneB name day) = false := by rw [List.any_eq_false]; exact fun x hx => by rw [ha x hx]; decide
      rw [this]; rfl
    · have : L.any (oneB name day) = true := by rw [List.any_eq_true]; exact ⟨x, hx, hs⟩
      rw [this]; simpa using h0
  have HR := Lib.hid hr
  clear hr hb hi
  go_wp2
  go_ret
  exact ⟨lret_bool HR.out, b1⟩

set_option maxHeartbeats 1000000 in
set_option maxRecDepth 100000 in
theorem has_any (m : Mat) (name : ByteArray) (day : Int) (w : World) (h : MR w w.heap.size m) :
    Calls Tryz.prog 16 #[.agg m.cells, .string name, .int .i64 day] w fun e w' => e = .returned (.bool (hasB m name day)) ∧ Below w.heap.size w w' := by
  obtain ⟨A1, p1, e1, l1, _⟩ := id h.cs
  obtain ⟨A2, p2, e2, l2, w2', h2'⟩ := id h.mo
  obtain ⟨⟨A3, p3, e3, l3, _⟩, _⟩ := id h.ri
  obtain ⟨⟨A4, p4, e4, l4, _⟩, _⟩ := id h.li
  have hri : ∀ w', Below w.heap.size w w' → RR w' w'.heap.size m.rv m.rights := fun w' hb => (h.go hb).ri
  obtain ⟨mid, opened, cv, case_, proc, stage, mv, moved, rv, rights, lv, limits⟩ := m
  simp only at e1 e2 e3 e4 hri
  subst e1 e2 e3 e4
  have b0 : Below w.heap.size w (((w.alloc (.cells #[.string mid, .int .i64 opened, .slice A1 case_.length p1, .string proc, .int .i64 stage, .slice A2 moved.length p2, .slice A3 rights.length p3, .slice A4 limits.length p4] 27)).alloc (.cells #[.string name] 9)).alloc (.cells #[.int .i64 day] 3)) :=
    (((Below.refl _ _).alloc (Nat.le_refl _) _).alloc (by simp) _).alloc (by simp; omega) _
  have hc := rightsAny _ rights name day (w.heap.size + 1) (w.heap.size + 1 + 1) _ (hri _ b0) (by simp [go_sem]) (by simp [go_sem]) (by simp <;> omega) (by simp)
  have HC := Lib.hid hc
  unfold hasB
  simp only [Mat.cells]
  clear hc h hri h2'
  go_enter Tryz.func16, Tryz.ntmps16
  go_wp2_with fail
  refine HC.out.mono ?_
  rintro e w1 ⟨rfl, b1⟩
  have bw := b0.trans (b1.mono b0.size)
  go_wp2
  go_ret
  exact ⟨rfl, bw⟩
end Go.Proofs.YtficjcomefaocaaGreatDoor
