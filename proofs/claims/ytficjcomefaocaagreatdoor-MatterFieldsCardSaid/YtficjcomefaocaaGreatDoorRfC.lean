/- WALKS of the references' Few and Short: each answers some Bool. -/
import Derived.Test.YtficjcomefaocaaGreatDoorRfB
namespace Go.Proofs.YtficjcomefaocaaGreatDoor
open Go.RowKit Go.Maps
open Lexer

/-- some Bool is returned -/
def SomeB (e : Ending) : Prop := ∃ b, e = .returned (.bool b)
theorem someB {e : Ending} {b : Bool} (h : e = .returned (.bool b)) : SomeB e := ⟨b, h⟩

set_option maxHeartbeats 4000000 in
set_option maxRecDepth 100000 in
theorem few_any (m : Mat) (w : World) (h : MR w w.heap.size m) :
    Calls Tryz.prog 10 #[.agg m.cells] w fun e w' => SomeB e ∧ Below w.heap.size w w' := by
  obtain ⟨A1, p1, e1, z1, _⟩ := id h.cs
  obtain ⟨A2, p2, e2, z2, _⟩ := id h.mo
  obtain ⟨⟨A3, p3, e3, z3, hr3⟩, _⟩ := id h.ri
  obtain ⟨⟨A4, p4, e4, z4, hr4⟩, _, hst⟩ := id h.li
  have hm1 := MBox.new w m
  have b0 : Below w.heap.size w (w.alloc (.cells m.cells 27)) := (Below.refl _ _).alloc (Nat.le_refl _) _
  have si := h.si
  have sp := h.sp
  obtain ⟨i1, o1, cv1, c1, pr1, s1, mv1, m1, rv1, r1, lv1, l1⟩ := m
  simp only at e1 e2 e3 e4 z1 z2 z3 z4 hr3 hr4 hst si sp
  subst e1 e2 e3 e4
  simp only [Mat.cells] at b0 ⊢
  obtain ⟨a0, a1, a2, a3, a4, a5, a6, a7⟩ := hm1
  simp only at a0 a1 a2 a3 a4 a5 a6 a7
  have B0 := Lib.hid b0
  have H3 := Lib.hid hr3
  have H4 := Lib.hid hr4
  have HST := Lib.hid hst
  clear h b0 hr3 hr4 hst
  by_cases hc : 200 < i1.size + pr1.size
  · have hd : decide ((200 : Int) < (i1.size : Int) + (pr1.size : Int)) = true := decide_eq_true (by omega)
    clear hc
    go_enter Tryz.func10, Tryz.ntmps10
    go_wp2
    go_ret
    exact ⟨someB rfl, B0.out⟩
  · have hd2 : decide ((200 : Int) < (i1.size : Int) + (pr1.size : Int)) = false := decide_eq_false (by omega)
    clear hc
    by_cases hc : 70 < c1.length
    · have hd : decide ((70 : Int) < (c1.length : Int)) = true := decide_eq_true (by omega)
      clear hc
      go_enter Tryz.func10, Tryz.ntmps10
      go_wp2
      go_ret
      exact ⟨someB rfl, B0.out⟩
    · have hd4 : decide ((70 : Int) < (c1.length : Int)) = false := decide_eq_false (by omega)
      clear hc
      by_cases hc : 70 < m1.length
      · have hd : decide ((70 : Int) < (m1.length : Int)) = true := decide_eq_true (by omega)
        clear hc
        go_enter Tryz.func10, Tryz.ntmps10
        go_wp2
        go_ret
        exact ⟨someB rfl, B0.out⟩
      · have hd6 : decide ((70 : Int) < (m1.length : Int)) = false := decide_eq_false (by omega)
        clear hc
        by_cases hc : 70 < r1.length
        · have hd : decide ((70 : Int) < (r1.length : Int)) = true := decide_eq_true (by omega)
          clear hc
          go_enter Tryz.func10, Tryz.ntmps10
          go_wp2
          go_ret
          exact ⟨someB rfl, B0.out⟩
        · have hd8 : decide ((70 : Int) < (r1.length : Int)) = false := decide_eq_false (by omega)
          clear hc
          by_cases hc : 70 < l1.length
          · have hd : decide ((70 : Int) < (l1.length : Int)) = true := decide_eq_true (by omega)
            clear hc
            go_enter Tryz.func10, Tryz.ntmps10
            go_wp2
            go_ret
            exact ⟨someB rfl, B0.out⟩
          · have hd10 : decide ((70 : Int) < (l1.length : Int)) = false := decide_eq_false (by omega)
            clear hc
            go_enter Tryz.func10, Tryz.ntmps10
            go_wp2
            go_loopw [3] (fun i wr => ∃ k : Nat, k ≤ r1.length ∧ i = .int .i64 k ∧ wr = w.alloc (.cells #[.string i1, .int .i64 o1, .slice A1 c1.length p1, .string pr1, .int .i64 s1, .slice A2 m1.length p2, .slice A3 r1.length p3, .slice A4 l1.length p4] 27)) (fun i _ => r1.length - (intOf i).toNat)
            case atStart => exact ⟨0, Nat.zero_le _, rfl, rfl⟩
            case round =>
              obtain ⟨k, hk, rfl, rfl⟩ := hrel
              by_cases hlt : k < r1.length
              · rcases H3.out with hc | ⟨q1, o1', rfl, hq1, hc1⟩
                · omega
                have k0 : w.cell? ⟨q1, o1' + k * 2, none⟩ = some (.string (r1.getD k (ByteArray.empty, 0)).1) := by simpa using hc1 k hlt 0 _ rfl
                obtain ⟨x, hx⟩ : ∃ x, x = (r1.getD k (ByteArray.empty, 0)).1 := ⟨_, rfl⟩
                rw [← hx] at k0
                have k1 := (B0.out.cell (p := ⟨q1, o1' + k * 2, none⟩) hq1).trans k0
                have g1 : (0 : Int) ≤ (k : Int) := by omega
                have g2 : (k : Int) < (r1.length : Int) := by omega
                clear hx hc1
                by_cases he : 60 < x.size
                · have hd : decide ((60 : Int) < (x.size : Int)) = true := decide_eq_true (by omega)
                  clear he
                  go_wp2
                  go_ret
                  exact ⟨someB rfl, B0.out⟩
                · have hd : decide ((60 : Int) < (x.size : Int)) = false := decide_eq_false (by omega)
                  clear he
                  go_wp2
                  go_roundw
                  case rel => exact ⟨k + 1, by omega, by go_num, by trivial⟩
                  case measure => simp [intOf]; omega
              · obtain rfl : k = r1.length := by omega
                go_wp2
                go_loopw [4] (fun i wr => ∃ k : Nat, k ≤ l1.length ∧ i = .int .i64 k ∧ wr = w.alloc (.cells #[.string i1, .int .i64 o1, .slice A1 c1.length p1, .string pr1, .int .i64 s1, .slice A2 m1.length p2, .slice A3 r1.length p3, .slice A4 l1.length p4] 27)) (fun i _ => l1.length - (intOf i).toNat)
                case atStart => exact ⟨0, Nat.zero_le _, rfl, rfl⟩
                case round =>
                  obtain ⟨k, hk, rfl, rfl⟩ := hrel
                  by_cases hlt : k < l1.length
                  · rcases H4.out with hc | ⟨q1, o1', rfl, hq1, hc1⟩
                    · omega
                    have k0 : w.cell? ⟨q1, o1' + k * 5, none⟩ = some (.string (l1.getD k lim0).id) := by simpa using hc1 k hlt 0 _ rfl
                    have k4 : w.cell? ⟨q1, o1' + k * 5 + 4, none⟩ = some (l1.getD k lim0).sv := by simpa using hc1 k hlt 4 _ rfl
                    obtain ⟨E1, t1, hev1, _⟩ := HST.out _ (getD_mem l1 lim0 hlt)
                    rw [hev1] at k4
                    obtain ⟨x, hx⟩ : ∃ x, x = (l1.getD k lim0).id := ⟨_, rfl⟩
                    obtain ⟨n, hn⟩ : ∃ n, n = (l1.getD k lim0).stops.length := ⟨_, rfl⟩
                    rw [← hx] at k0
                    rw [← hn] at k4
                    have k1 := (B0.out.cell (p := ⟨q1, o1' + k * 5, none⟩) hq1).trans k0
                    have k5 := (B0.out.cell (p := ⟨q1, o1' + k * 5 + 4, none⟩) hq1).trans k4
                    have g1 : (0 : Int) ≤ (k : Int) := by omega
                    have g2 : (k : Int) < (l1.length : Int) := by omega
                    clear hx hn hc1 hev1
                    by_cases he : 60 < x.size
                    · have hd : decide ((60 : Int) < (x.size : Int)) = true := decide_eq_true (by omega)
                      clear he
                      go_wp2
                      go_ret
                      exact ⟨someB rfl, B0.out⟩
                    · have hd : decide ((60 : Int) < (x.size : Int)) = false := decide_eq_false (by omega)
                      clear he
                      by_cases he : 70 < n
                      · have hd2 : decide ((70 : Int) < (n : Int)) = true := decide_eq_true (by omega)
                        clear he
                        go_wp2
                        go_ret
                        exact ⟨someB rfl, B0.out⟩
                      · have hd2 : decide ((70 : Int) < (n : Int)) = false := decide_eq_false (by omega)
                        clear he
                        go_wp2
                        go_roundw
                        case rel => exact ⟨k + 1, by omega, by go_num, by trivial⟩
                        case measure => simp [intOf]; omega
                  · obtain rfl : k = l1.length := by omega
                    go_wp2
                    go_ret
                    exact ⟨someB rfl, B0.out⟩
set_option maxHeartbeats 4000000 in
set_option maxRecDepth 100000 in
theorem short_any (p : Prc) (w : World) (h : PR w w.heap.size p) :
    Calls Tryz.prog 18 #[.agg p.cells] w fun e w' => SomeB e ∧ Below w.heap.size w w' := by
  obtain ⟨⟨A1, p1, e1, z1, hr1⟩, _⟩ := id h.st
  obtain ⟨A2, p2, e2, z2, _⟩ := id h.mo
  have b0 : Below w.heap.size w (w.alloc (.cells p.cells 46)) := (Below.refl _ _).alloc (Nat.le_refl _) _
  obtain ⟨name, sv, st, mv, mo⟩ := p
  simp only at e1 e2 z1 z2 hr1
  subst e1 e2
  simp only [Prc.cells] at b0 ⊢
  have B0 := Lib.hid b0
  have H1 := Lib.hid hr1
  clear h b0 hr1
  go_enter Tryz.func18, Tryz.ntmps18
  go_wp2
  go_loopw [3] (fun i wr => ∃ k : Nat, k ≤ st.length ∧ i = .int .i64 k ∧ wr = w.alloc (.cells #[.string name, .slice A1 st.length p1, .slice A2 mo.length p2] 46)) (fun i _ => st.length - (intOf i).toNat)
  case atStart => exact ⟨0, Nat.zero_le _, rfl, rfl⟩
  case round =>
    obtain ⟨k, hk, rfl, rfl⟩ := hrel
    by_cases hlt : k < st.length
    · rcases H1.out with hc | ⟨q1, o1', rfl, hq1, hc1⟩
      · omega
      have k0 : w.cell? ⟨q1, o1' + k, none⟩ = some (.string (st.getD k ByteArray.empty)) := by simpa using hc1 k hlt 0 _ rfl
      obtain ⟨x, hx⟩ : ∃ x, x = st.getD k ByteArray.empty := ⟨_, rfl⟩
      rw [← hx] at k0
      have k1 := (B0.out.cell (p := ⟨q1, o1' + k, none⟩) hq1).trans k0
      have g1 : (0 : Int) ≤ (k : Int) := by omega
      have g2 : (k : Int) < (st.length : Int) := by omega
      clear hx hc1
      by_cases he : 60 < x.size
      · have hd : decide ((60 : Int) < (x.size : Int)) = true := decide_eq_true (by omega)
        clear he
        go_wp2
        go_ret
        exact ⟨someB rfl, B0.out⟩
      · have hd : decide ((60 : Int) < (x.size : Int)) = false := decide_eq_false (by omega)
        clear he
        go_wp2
        go_roundw
        case rel => exact ⟨k + 1, by omega, by go_num, by trivial⟩
        case measure => simp [intOf]; omega
    · obtain rfl : k = st.length := by omega
      by_cases h1 : name.size ≤ 60
      · have d1 : decide ((name.size : Int) ≤ 60) = true := decide_eq_true (by omega)
        clear h1
        by_cases h2 : st.length ≤ 70
        · have d2 : decide ((st.length : Int) ≤ 70) = true := decide_eq_true (by omega)
          clear h2
          go_wp2
          go_ret
          exact ⟨someB rfl, B0.out⟩
        · have d2 : decide ((st.length : Int) ≤ 70) = false := decide_eq_false (by omega)
          clear h2
          go_wp2
          go_ret
          exact ⟨someB rfl, B0.out⟩
      · have d1 : decide ((name.size : Int) ≤ 60) = false := decide_eq_false (by omega)
        clear h1
        go_wp2
        go_ret
        exact ⟨someB rfl, B0.out⟩
end Go.Proofs.YtficjcomefaocaaGreatDoor
