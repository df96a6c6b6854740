/- WALK of matter.Proper. -/
import Derived.Test.YtficjcomefaocaaGreatDoorHas
namespace Go.Proofs.YtficjcomefaocaaGreatDoor
open Go.RowKit Go.Maps
open Lexer

/-- a procedure; the lists' slices as they lie there -/
structure Prc where
  name : ByteArray
  sv : Value
  stages : List ByteArray
  mv : Value
  moves : List (Int × Int)
abbrev Prc.cells (p : Prc) : Array Value := #[.string p.name, p.sv, p.mv]
structure PR (w : World) (B : Nat) (p : Prc) : Prop where
  st : RS w B p.sv p.stages
  mo : RP w B p.mv p.moves
  wf : ∀ x ∈ p.moves, (Lit.int .i64 x.1).wf = true ∧ (Lit.int .i64 x.2).wf = true
  sn : p.name.size ≤ 140737488355328
theorem PR.go {w w' : World} {p : Prc} (h : PR w w.heap.size p) (hb : Below w.heap.size w w') : PR w' w'.heap.size p := ⟨(h.st.below hb).more hb.size, (h.mo.below hb).more hb.size, h.wf, h.sn⟩
/-- is a procedure proper -/
noncomputable def properB (p : Prc) : Bool := nameB p.name && (decide (0 < p.stages.length) && (diffB nameB (fun s => s) p.stages && diffB (moveB p.stages.length) (fun x => x) p.moves))

set_option maxHeartbeats 2000000 in
set_option maxRecDepth 100000 in
theorem proper_any (p : Prc) (w : World) (h : PR w w.heap.size p) :
    Calls Tryz.prog 23 #[.agg p.cells] w fun e w' => e = .returned (.bool (properB p)) ∧ Below w.heap.size w w' := by
  obtain ⟨⟨A1, p1, e1, l1, _⟩, _⟩ := id h.st
  obtain ⟨A2, p2, e2, l2, _⟩ := id h.mo
  have hgo : ∀ w', Below w.heap.size w w' → PR w' w'.heap.size p := fun w' hb => h.go hb
  have sn := h.sn
  obtain ⟨name, sv, stages, mv, moves⟩ := p
  simp only at e1 e2 sn
  subst e1 e2
  have n1 := fun w => nameOK name w sn
  obtain ⟨B1, h1⟩ : ∃ B, B = nameB name := ⟨_, rfl⟩
  obtain ⟨B3, h3⟩ : ∃ B, B = diffB nameB (fun s => s) stages := ⟨_, rfl⟩
  obtain ⟨B4, h4⟩ : ∃ B, B = diffB (moveB stages.length) (fun x => x) moves := ⟨_, rfl⟩
  have n3 : ∀ w', Below w.heap.size w w' → Calls Tryz.prog 60 #[.slice A1 stages.length p1, .func (.func 61) #[] #[], .func (.func 52) #[] #[]] w' fun e w'' => e = .returned (.bool B3) ∧ Below w'.heap.size w' w'' := fun w' hb => by
    rw [h3]
    exact diffS_any nameB _ stages w' (hgo w' hb).st (fun _ => True) (fun _ _ => trivial) (fun s w'' hs _ => nameOK s w'' ((hgo w' hb).st.2 s hs))
  have n4 : ∀ w', Below w.heap.size w w' → w'.cell? ⟨w.heap.size + 1, 0, none⟩ = some (.int .i64 stages.length) → w.heap.size + 1 < w'.heap.size →
      Calls Tryz.prog 62 #[.slice A2 moves.length p2, .func (.func 63) #[] #[], .func (.func 64) #[] #[.pointer (some ⟨w.heap.size + 1, 0, none⟩)]] w' fun e w'' => e = .returned (.bool B4) ∧ Below w'.heap.size w' w'' := fun w' hb hm hlt => by
    rw [h4]
    exact diffP_any (moveB stages.length) _ moves w' (hgo w' hb).mo h.wf (w.heap.size + 1) (fun w'' => w''.cell? ⟨w.heap.size + 1, 0, none⟩ = some (.int .i64 stages.length) ∧ w.heap.size + 1 < w''.heap.size)
      (fun w'' b => ⟨(b.cell (p := ⟨w.heap.size + 1, 0, none⟩) hlt).trans hm, Nat.lt_of_lt_of_le hlt b.size⟩)
      (fun x w'' hx hp => moveG_any stages.length (w.heap.size + 1) x.1 x.2 w'' hp.1 hp.2)
  have hres : properB ⟨name, .slice A1 stages.length p1, stages, .slice A2 moves.length p2, moves⟩ = (B1 && (decide (0 < stages.length) && (B3 && B4))) := by rw [h1, h3, h4]; rfl
  rw [hres]
  rw [← h1] at n1
  have N1 := Lib.hid n1
  have N3 := Lib.hid n3
  have N4 := Lib.hid n4
  have b0 : Below w.heap.size w ((w.alloc (.cells #[.string name, .slice A1 stages.length p1, .slice A2 moves.length p2] 46)).alloc (.cells #[.int .i64 stages.length] 3)) := ((Below.refl _ _).alloc (Nat.le_refl _) _).alloc (by simp) _
  simp only [Prc.cells]
  clear h1 h3 h4 n1 n3 n4 hres h hgo
  go_enter Tryz.func23, Tryz.ntmps23
  go_wp2_with fail
  refine (N1.out _).mono ?_
  rintro e w1 ⟨rfl, b1⟩
  have bw := b0.trans (b1.mono b0.size)
  have hlt : w.heap.size + 1 < w1.heap.size := by have := b1.size; simp at this; omega
  have c1 := (b1.cell (p := ⟨w.heap.size, 1, none⟩) (by simp <;> omega)).trans (show ((w.alloc (.cells #[.string name, .slice A1 stages.length p1, .slice A2 moves.length p2] 46)).alloc (.cells #[.int .i64 stages.length] 3)).cell? ⟨w.heap.size, 1, none⟩ = some (.slice A1 stages.length p1) by simp [go_sem])
  have c2 := (b1.cell (p := ⟨w.heap.size, 2, none⟩) (by simp <;> omega)).trans (show ((w.alloc (.cells #[.string name, .slice A1 stages.length p1, .slice A2 moves.length p2] 46)).alloc (.cells #[.int .i64 stages.length] 3)).cell? ⟨w.heap.size, 2, none⟩ = some (.slice A2 moves.length p2) by simp [go_sem])
  have cn := (b1.cell (p := ⟨w.heap.size + 1, 0, none⟩) (by simp)).trans (show ((w.alloc (.cells #[.string name, .slice A1 stages.length p1, .slice A2 moves.length p2] 46)).alloc (.cells #[.int .i64 stages.length] 3)).cell? ⟨w.heap.size + 1, 0, none⟩ = some (.int .i64 stages.length) by simp [go_sem])
  clear b1 b0
  cases B1 with
  | false =>
    go_wp2
    go_ret
    exact ⟨rfl, bw⟩
  | true =>
    by_cases h0 : 0 < stages.length
    · have d0 : decide ((0 : Int) < (stages.length : Int)) = true := by rw [decide_eq_true_iff]; omega
      go_wp2_with fail
      refine (N3.out _ bw).mono ?_
      rintro e w2 ⟨rfl, b2⟩
      have bw2 := bw.trans (b2.mono bw.size)
      have cn2 := (b2.cell (p := ⟨w.heap.size + 1, 0, none⟩) hlt).trans cn
      have c22 := (b2.cell (p := ⟨w.heap.size, 2, none⟩) (Nat.lt_of_succ_lt hlt)).trans c2
      have hlt2 := Nat.lt_of_lt_of_le hlt b2.size
      clear b2 c1 c2 cn hlt
      cases B3 with
      | false =>
        go_wp2
        go_ret
        exact ⟨lret_bool (by simp), bw2⟩
      | true =>
        go_wp2_with fail
        refine (N4.out _ bw2 cn2 hlt2).mono ?_
        rintro e w3 ⟨rfl, b3⟩
        have bw3 := bw2.trans (b3.mono bw2.size)
        go_wp2
        go_ret
        exact ⟨lret_bool (by rw [show decide (0 < stages.length) = true from decide_eq_true h0]; simp), bw3⟩
    · have d0 : decide ((0 : Int) < (stages.length : Int)) = false := by rw [decide_eq_false_iff_not]; omega
      go_wp2
      go_ret
      exact ⟨lret_bool (by rw [show decide (0 < stages.length) = false from decide_eq_false h0]; simp), bw⟩
end Go.Proofs.YtficjcomefaocaaGreatDoor
