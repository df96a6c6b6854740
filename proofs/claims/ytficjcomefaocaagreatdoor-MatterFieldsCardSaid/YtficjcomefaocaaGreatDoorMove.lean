/- WALK of matter.Move. -/
import Derived.Test.YtficjcomefaocaaGreatDoorGrant
namespace Go.Proofs.YtficjcomefaocaaGreatDoor
open Go.RowKit Go.Maps
open Lexer

/-- is a day before the matter was opened, or before its last move -/
def earlyB (m : Mat) (day : Int) : Bool := decide (day < m.opened) || (decide (0 < m.moved.length) && decide (day < m.moved.getD (m.moved.length - 1) 0))
/-- what Move says -/
noncomputable def moveE (m : Mat) (p : Prc) (stage day : Int) : Int := by
  classical
  exact if (formedB m && (properB p && (decide (m.proc = p.name) && (decide (m.stage < p.stages.length) && dayB day)))) = false then 1
    else if (decide (0 ≤ stage) && decide (stage < p.stages.length)) = false then 11 else if decide ((m.stage, stage) ∈ p.moves) = false then 12 else if earlyB m day = true then 24 else if 60 ≤ m.moved.length then 2 else 0
noncomputable def moveM (m : Mat) (p : Prc) (stage day : Int) (v : Value) : Mat :=
  if moveE m p stage day = 0 then { m with stage := stage, mv := v, moved := m.moved ++ [day] } else zeroM
theorem csI_one (L : List Int) : ∀ k, ∀ u ∈ csI L k, u.oneCell' = true := fun k u hu => by
  simp [csI] at hu
  subst hu; rfl
theorem newsI_app (L : List Int) (d : Int) : news L.length (csI L) ++ [.int .i64 d] = news (L ++ [d]).length (csI (L ++ [d])) := by
  rw [List.length_append, List.length_singleton, news_succ]
  congr 1
  · exact news_congr (fun k hk => by simp only [csI]; rw [getD_app L _ _ k hk])
  · simp [csI]
theorem ri_of {w : World} {base : Nat} {v : Value} {L : List Int} {d : Int} (h : w.ownsRow base 3 1 v (L.length + 1) (news L.length (csI L) ++ [.int .i64 d])) (hs : ∀ x ∈ L, (Lit.int .i64 x).wf = true) (hd : (Lit.int .i64 d).wf = true) (hn : L.length ≤ 1000) : RI w w.heap.size v (L ++ [d]) := by
  rw [newsI_app] at h
  have e : (L ++ [d]).length = L.length + 1 := by simp
  refine RI.of_rg ?_ (by omega) (fun x hx => ?_)
  · rw [e] at h ⊢
    exact RG.of_own (fun _ => rfl) h (by omega)
  · rcases List.mem_append.1 hx with h1 | h1
    · exact hs x h1
    · rw [List.mem_singleton.1 h1]; exact hd
/-- the world when a result has been stored -/
abbrev mokW (w : World) (a b : Nat) (s v0 v1 v2 v3 v4 v5 v6 v7 v8 : Value) : World :=
  (((((((((w.setCell ⟨a, 4, none⟩ s).setCell ⟨a, 5, none⟩ v0).setCell ⟨b, 0, none⟩ v1).setCell ⟨b, 1, none⟩ v2).setCell ⟨b, 2, none⟩ v3).setCell ⟨b, 3, none⟩ v4).setCell ⟨b, 4, none⟩ v5).setCell ⟨b, 5, none⟩ v6).setCell ⟨b, 6, none⟩ v7).setCell ⟨b, 7, none⟩ v8
/-- eight stores into the result -/
abbrev eightW (w : World) (b : Nat) (v1 v2 v3 v4 v5 v6 v7 v8 : Value) : World :=
  (((((((w.setCell ⟨b, 0, none⟩ v1).setCell ⟨b, 1, none⟩ v2).setCell ⟨b, 2, none⟩ v3).setCell ⟨b, 3, none⟩ v4).setCell ⟨b, 4, none⟩ v5).setCell ⟨b, 5, none⟩ v6).setCell ⟨b, 6, none⟩ v7).setCell ⟨b, 7, none⟩ v8
theorem eight_below {n : Nat} {w w5 : World} (h : Below n w w5) (b : Nat) (hb : n ≤ b) (v1 v2 v3 v4 v5 v6 v7 v8 : Value) : Below n w (eightW w5 b v1 v2 v3 v4 v5 v6 v7 v8) :=
  (((((((h.setCell (p := ⟨b, 0, none⟩) hb v1).setCell (p := ⟨b, 1, none⟩) hb v2).setCell (p := ⟨b, 2, none⟩) hb v3).setCell (p := ⟨b, 3, none⟩) hb v4).setCell (p := ⟨b, 4, none⟩) hb v5).setCell (p := ⟨b, 5, none⟩) hb v6).setCell (p := ⟨b, 6, none⟩) hb v7).setCell (p := ⟨b, 7, none⟩) hb v8
theorem eight_own {w5 : World} {base e size n : Nat} {v : Value} {xs : List Value} (h : w5.ownsRow base e size v n xs) {b : Nat} (hb : b < base) (v1 v2 v3 v4 v5 v6 v7 v8 : Value) : (eightW w5 b v1 v2 v3 v4 v5 v6 v7 v8).ownsRow base e size v n xs :=
  own_set (own_set (own_set (own_set (own_set (own_set (own_set (own_set h hb 0 v1) hb 1 v2) hb 2 v3) hb 3 v4) hb 4 v5) hb 5 v6) hb 6 v7) hb 7 v8
theorem ZBox.other {b : Nat} {w : World} (h : ZBox b w) (a : Addr) (v : Value) (hne : a.block ≠ b) : ZBox b (w.setCell a v) := by
  obtain ⟨⟨v0, k0⟩, ⟨v1, k1⟩, ⟨v2, k2⟩, ⟨v3, k3⟩, ⟨v4, k4⟩, ⟨v5, k5⟩, ⟨v6, k6⟩, ⟨v7, k7⟩, fz⟩ := h
  have o : ∀ i, (w.setCell a v).cell? ⟨b, i, none⟩ = w.cell? ⟨b, i, none⟩ := fun i => World.cell?_setCell_other _ _ _ _ (fun e => hne (by rw [e]))
  exact ⟨⟨v0, (o 0).trans k0⟩, ⟨v1, (o 1).trans k1⟩, ⟨v2, (o 2).trans k2⟩, ⟨v3, (o 3).trans k3⟩, ⟨v4, (o 4).trans k4⟩, ⟨v5, (o 5).trans k5⟩, ⟨v6, (o 6).trans k6⟩, ⟨v7, (o 7).trans k7⟩, fun i => (World.frozen?_setCell _ _ _ _).trans (fz i)⟩
theorem MBox.stage {b : Nat} {m : Mat} {w : World} (h : MBox b m w) (s : Int) : MBox b { m with stage := s } (w.setCell ⟨b, 4, none⟩ (.int .i64 s)) := by
  have o : ∀ i, i ≠ 4 → (w.setCell ⟨b, 4, none⟩ (.int .i64 s)).cell? ⟨b, i, none⟩ = w.cell? ⟨b, i, none⟩ := fun i hi => World.cell?_setCell_other _ _ _ _ (fun e => hi (by cases e; rfl))
  exact ⟨(o 0 (by decide)).trans h.c0, (o 1 (by decide)).trans h.c1, (o 2 (by decide)).trans h.c2, (o 3 (by decide)).trans h.c3, World.cell?_setCell_same _ _ _ h.c4, (o 5 (by decide)).trans h.c5, (o 6 (by decide)).trans h.c6, (o 7 (by decide)).trans h.c7⟩
/-- a procedure's variable -/
structure PBox (b : Nat) (p : Prc) (w : World) : Prop where
  d0 : w.cell? ⟨b, 0, none⟩ = some (.string p.name)
  d1 : w.cell? ⟨b, 1, none⟩ = some p.sv
  d2 : w.cell? ⟨b, 2, none⟩ = some p.mv
theorem PBox.below {b B : Nat} {p : Prc} {w w' : World} (h : PBox b p w) (hb : Below B w w') (hB : b < B) : PBox b p w' :=
  ⟨(hb.cell (p := ⟨b, 0, none⟩) hB).trans h.d0, (hb.cell (p := ⟨b, 1, none⟩) hB).trans h.d1, (hb.cell (p := ⟨b, 2, none⟩) hB).trans h.d2⟩
theorem mex {m : Mat} {p : Prc} {stage day : Int} {w w' : World} (c : Int) (hE : moveE m p stage day = c) (hc : c ≠ 0) (hb : Below w.heap.size w w') :
    ∃ v, Ending.returned (.tuple #[.agg zeroM.cells, .int .i64 c]) = .returned (.tuple #[.agg (moveM m p stage day v).cells, .int .i64 (moveE m p stage day)]) ∧ MR w' w'.heap.size (moveM m p stage day v) ∧ Below w.heap.size w w' ∧ Fresh w.heap.size v := by
  have hm : ∀ v, moveM m p stage day v = zeroM := fun v => by unfold moveM; rw [if_neg (by rw [hE]; exact hc)]
  exact ⟨.nilFunc, by rw [hm, hE], by rw [hm]; exact zeroMR _ _, hb, fun k hk => by cases hk⟩
theorem mok {m : Mat} {p : Prc} {stage day : Int} {w w' : World} (v : Value) (hE : moveE m p stage day = 0) (hb : Below w.heap.size w w') (hgo : MR w' w'.heap.size m) (hr : RI w' w'.heap.size v (m.moved ++ [day])) (hf : Fresh w.heap.size v) :
    ∃ v', Ending.returned (.tuple #[.agg #[.string m.id, .int .i64 m.opened, m.cv, .string m.proc, .int .i64 stage, v, m.rv, m.lv], .int .i64 0]) = .returned (.tuple #[.agg (moveM m p stage day v').cells, .int .i64 (moveE m p stage day)]) ∧ MR w' w'.heap.size (moveM m p stage day v') ∧ Below w.heap.size w w' ∧ Fresh w.heap.size v' := by
  have hm : moveM m p stage day v = { m with stage := stage, mv := v, moved := m.moved ++ [day] } := by unfold moveM; rw [if_pos hE]
  exact ⟨v, by rw [hm, hE], by rw [hm]; exact ⟨hgo.cs, hr, hgo.ri, hgo.li, hgo.si, hgo.sp⟩, hb, hf⟩
theorem dayB_wf {d : Int} (h : dayB d = true) : (Lit.int .i64 d).wf = true := by
  unfold dayB at h
  have := of_decide_eq_true h
  exact WalkArith.wf_i64 (by omega)

set_option maxHeartbeats 8000000 in
set_option maxRecDepth 100000 in
theorem move_any (m : Mat) (p : Prc) (stage day : Int) (w : World) (h : MR w w.heap.size m) (hp : PR w w.heap.size p) :
    Calls Tryz.prog 19 #[.agg m.cells, .agg p.cells, .int .i64 stage, .int .i64 day] w fun e w' => ∃ v, e = .returned (.tuple #[.agg (moveM m p stage day v).cells, .int .i64 (moveE m p stage day)]) ∧ MR w' w'.heap.size (moveM m p stage day v) ∧ Below w.heap.size w w' ∧ Fresh w.heap.size v := by
  have hgo : ∀ w', Below w.heap.size w w' → MR w' w'.heap.size m := fun w' hb => h.go hb
  have hpo : ∀ w', Below w.heap.size w w' → PR w' w'.heap.size p := fun w' hb => hp.go hb
  obtain ⟨A1, p1, e1, l1, _⟩ := id h.cs
  obtain ⟨A2, p2, e2, l2, hw2, h2'⟩ := id h.mo
  obtain ⟨⟨A3, p3, e3, l3, _⟩, _⟩ := id h.ri
  obtain ⟨⟨A4, p4, e4, l4, _⟩, _⟩ := id h.li
  obtain ⟨⟨A5, p5, e5, l5, _⟩, _⟩ := id hp.st
  obtain ⟨A6, p6, e6, l6, _⟩ := id hp.mo
  obtain ⟨F, hF⟩ : ∃ F, F = formedB m := ⟨_, rfl⟩
  obtain ⟨P, hP⟩ : ∃ F, F = properB p := ⟨_, rfl⟩
  obtain ⟨D, hD⟩ : ∃ F, F = dayB day := ⟨_, rfl⟩
  obtain ⟨X, hX⟩ : ∃ F, F = decide ((m.stage, stage) ∈ p.moves) := ⟨_, rfl⟩
  have nF : ∀ w', Below w.heap.size w w' → Calls Tryz.prog 30 #[.agg m.cells] w' fun e w'' => e = .returned (.bool F) ∧ Below w'.heap.size w' w'' := fun w' hb => by rw [hF]; exact formed_any m w' (hgo w' hb)
  have nP : ∀ w', Below w.heap.size w w' → Calls Tryz.prog 23 #[.agg p.cells] w' fun e w'' => e = .returned (.bool P) ∧ Below w'.heap.size w' w'' := fun w' hb => by rw [hP]; exact proper_any p w' (hpo w' hb)
  have nD : ∀ w', Calls Tryz.prog 53 #[.int .i64 day] w' fun e w'' => e = .returned (.bool D) ∧ w' = w'' := fun w' => by rw [hD]; exact mis_any day w'
  have nX : ∀ w', Below w.heap.size w w' → Calls Tryz.prog 55 #[p.mv, .agg #[.int .i64 m.stage, .int .i64 stage]] w' fun e w'' => e = .returned (.bool X) ∧ Below w'.heap.size w' w'' := fun w' hb => by
    rw [hX]; exact hasMove_any _ p.moves m.stage stage w' (hpo w' hb).mo
  have hE : moveE m p stage day = if (F && (P && (decide (m.proc = p.name) && (decide (m.stage < p.stages.length) && D)))) = false then 1
    else if (decide (0 ≤ stage) && decide (stage < p.stages.length)) = false then 11 else if X = false then 12 else if earlyB m day = true then 24 else if 60 ≤ m.moved.length then 2 else 0 := by
    rw [hF, hP, hD, hX]; unfold moveE; congr
  have hDw : D = true → (Lit.int .i64 day).wf = true := fun hd => dayB_wf (by rw [← hD]; exact hd)
  obtain ⟨mid, opened, cv, case_, proc, stage0, mv, moved, rv, rights, lv, limits⟩ := m
  obtain ⟨pname, psv, stages, pmv, moves⟩ := p
  simp only at e1 e2 e3 e4 e5 e6 hw2 h2'
  subst e1 e2 e3 e4 e5 e6
  have b0 : Below w.heap.size w (((w.alloc (.cells #[.string mid, .int .i64 opened, .slice A1 case_.length p1, .string proc, .int .i64 stage0, .slice A2 moved.length p2, .slice A3 rights.length p3, .slice A4 limits.length p4] 27)).alloc (.cells #[.string pname, .slice A5 stages.length p5, .slice A6 moves.length p6] 46)).alloc (.cells #[.string ⟨#[]⟩, .int .i64 0, .slice none 0 0, .string ⟨#[]⟩, .int .i64 0, .slice none 0 0, .slice none 0 0, .slice none 0 0] 27)) := (((Below.refl _ _).alloc (Nat.le_refl _) _).alloc (by simp) _).alloc (by simp; omega) _
  have hm0 : MBox w.heap.size ⟨mid, opened, .slice A1 case_.length p1, case_, proc, stage0, .slice A2 moved.length p2, moved, .slice A3 rights.length p3, rights, .slice A4 limits.length p4, limits⟩ (((w.alloc (.cells #[.string mid, .int .i64 opened, .slice A1 case_.length p1, .string proc, .int .i64 stage0, .slice A2 moved.length p2, .slice A3 rights.length p3, .slice A4 limits.length p4] 27)).alloc (.cells #[.string pname, .slice A5 stages.length p5, .slice A6 moves.length p6] 46)).alloc (.cells #[.string ⟨#[]⟩, .int .i64 0, .slice none 0 0, .string ⟨#[]⟩, .int .i64 0, .slice none 0 0, .slice none 0 0, .slice none 0 0] 27)) := by constructor <;> simp [go_sem]
  have hp0 : PBox (w.heap.size + 1) ⟨pname, .slice A5 stages.length p5, stages, .slice A6 moves.length p6, moves⟩ (((w.alloc (.cells #[.string mid, .int .i64 opened, .slice A1 case_.length p1, .string proc, .int .i64 stage0, .slice A2 moved.length p2, .slice A3 rights.length p3, .slice A4 limits.length p4] 27)).alloc (.cells #[.string pname, .slice A5 stages.length p5, .slice A6 moves.length p6] 46)).alloc (.cells #[.string ⟨#[]⟩, .int .i64 0, .slice none 0 0, .string ⟨#[]⟩, .int .i64 0, .slice none 0 0, .slice none 0 0, .slice none 0 0] 27)) := by constructor <;> simp [go_sem]
  have hz0 : ZBox (w.heap.size + 1 + 1) (((w.alloc (.cells #[.string mid, .int .i64 opened, .slice A1 case_.length p1, .string proc, .int .i64 stage0, .slice A2 moved.length p2, .slice A3 rights.length p3, .slice A4 limits.length p4] 27)).alloc (.cells #[.string pname, .slice A5 stages.length p5, .slice A6 moves.length p6] 46)).alloc (.cells #[.string ⟨#[]⟩, .int .i64 0, .slice none 0 0, .string ⟨#[]⟩, .int .i64 0, .slice none 0 0, .slice none 0 0, .slice none 0 0] 27)) := ⟨⟨_, by simp [go_sem]; rfl⟩, ⟨_, by simp [go_sem]; rfl⟩, ⟨_, by simp [go_sem]; rfl⟩, ⟨_, by simp [go_sem]; rfl⟩, ⟨_, by simp [go_sem]; rfl⟩, ⟨_, by simp [go_sem]; rfl⟩, ⟨_, by simp [go_sem]; rfl⟩, ⟨_, by simp [go_sem]; rfl⟩, fun i => by simp [go_sem]⟩
  have fm0 : ∀ i, (((w.alloc (.cells #[.string mid, .int .i64 opened, .slice A1 case_.length p1, .string proc, .int .i64 stage0, .slice A2 moved.length p2, .slice A3 rights.length p3, .slice A4 limits.length p4] 27)).alloc (.cells #[.string pname, .slice A5 stages.length p5, .slice A6 moves.length p6] 46)).alloc (.cells #[.string ⟨#[]⟩, .int .i64 0, .slice none 0 0, .string ⟨#[]⟩, .int .i64 0, .slice none 0 0, .slice none 0 0, .slice none 0 0] 27)).frozen? ⟨w.heap.size, i, none⟩ = false := fun i => by simp [go_sem]
  have HE := Lib.hid hE
  have NF := Lib.hid nF
  have NP := Lib.hid nP
  have ND := Lib.hid nD
  have NX := Lib.hid nX
  have HGO := Lib.hid hgo
  have HM0 := Lib.hid hm0
  have HP0 := Lib.hid hp0
  have HZ0 := Lib.hid hz0
  have FM0 := Lib.hid fm0
  have HDW := Lib.hid hDw
  have HW2 := Lib.hid hw2
  have H2 := Lib.hid h2'
  clear hF hP hD hX nF nP nD nX hE hgo hpo hm0 hp0 hz0 fm0 hDw hw2 h2' h hp
  simp only [Mat.cells, Prc.cells] at NF NP NX ⊢
  go_enter Tryz.func19, Tryz.ntmps19
  go_wp2_with fail
  refine (NF.out _ b0).mono ?_
  rintro e w1 ⟨rfl, b1⟩
  have bw1 := b0.trans (b1.mono b0.size)
  have hl1 : w.heap.size + 1 + 1 < w1.heap.size := by have := b1.size; simp at this; omega
  have hm1 := HM0.out.below b1 (by simp; omega)
  have hp1 := HP0.out.below b1 (by simp <;> omega)
  have hz1 := HZ0.out.below b1 (by simp <;> omega)
  have FM1 := Lib.hid (fun i => (b1.frozen (p := ⟨w.heap.size, i, none⟩) (by simp <;> omega)).trans (FM0.out i))
  have HM1 := Lib.hid hm1
  have HP1 := Lib.hid hp1
  have HZ1 := Lib.hid hz1
  clear b1 b0 HM0 HP0 HZ0 FM0
  obtain ⟨⟨_, k0⟩, ⟨_, k1⟩, ⟨_, k2⟩, ⟨_, k3⟩, ⟨_, k4⟩, ⟨_, k5⟩, ⟨_, k6⟩, ⟨_, k7⟩, fz⟩ := hz1
  have f0 := fz 0
  have f1 := fz 1
  have f2 := fz 2
  have f3 := fz 3
  have f4 := fz 4
  have f5 := fz 5
  have f6 := fz 6
  have f7 := fz 7
  obtain ⟨c0, c1, c2, c3, c4, c5, c6, c7⟩ := hm1
  simp only at c0 c1 c2 c3 c4 c5 c6 c7
  obtain ⟨d0, d1, d2⟩ := hp1
  simp only at d0 d1 d2
  cases F with
  | false =>
    go_wp2
    refine bodyPost_ret (v := .tuple #[.agg #[.string ⟨#[]⟩, .int .i64 0, .slice none 0 0, .string ⟨#[]⟩, .int .i64 0, .slice none 0 0, .slice none 0 0, .slice none 0 0], .int .i64 1]) (by simp [results, Tryz.results19, go_sem, k0, k1, k2, k3, k4, k5, k6, k7]) rfl ?_
    exact mex 1 (by rw [HE.out]; simp) (by decide) (eight_below bw1 (w.heap.size + 1 + 1) (by omega) _ _ _ _ _ _ _ _)
  | true =>
    go_wp2_with fail
    refine (NP.out _ bw1).mono ?_
    rintro e w2 ⟨rfl, b2⟩
    have bw2 := bw1.trans (b2.mono bw1.size)
    have hl2 := Nat.lt_of_lt_of_le hl1 b2.size
    have hm2 := HM1.out.below b2 (by omega)
    have hp2 := HP1.out.below b2 (by omega)
    have hz2 := HZ1.out.below b2 hl1
    have FM2 := Lib.hid (fun i => (b2.frozen (p := ⟨w.heap.size, i, none⟩) (by show w.heap.size < w1.heap.size; omega)).trans (FM1.out i))
    have HM2 := Lib.hid hm2
    have HP2 := Lib.hid hp2
    have HZ2 := Lib.hid hz2
    clear b2 bw1 HM1 HP1 HZ1 FM1 hl1 c0 c1 c2 c3 c4 c5 c6 c7 d0 d1 d2 k0 k1 k2 k3 k4 k5 k6 k7 fz f0 f1 f2 f3 f4 f5 f6 f7
    obtain ⟨⟨_, k0⟩, ⟨_, k1⟩, ⟨_, k2⟩, ⟨_, k3⟩, ⟨_, k4⟩, ⟨_, k5⟩, ⟨_, k6⟩, ⟨_, k7⟩, fz⟩ := hz2
    have f0 := fz 0
    have f1 := fz 1
    have f2 := fz 2
    have f3 := fz 3
    have f4 := fz 4
    have f5 := fz 5
    have f6 := fz 6
    have f7 := fz 7
    obtain ⟨c0, c1, c2, c3, c4, c5, c6, c7⟩ := hm2
    simp only at c0 c1 c2 c3 c4 c5 c6 c7
    obtain ⟨d0, d1, d2⟩ := hp2
    simp only at d0 d1 d2
    cases P with
    | false =>
      go_wp2
      refine bodyPost_ret (v := .tuple #[.agg #[.string ⟨#[]⟩, .int .i64 0, .slice none 0 0, .string ⟨#[]⟩, .int .i64 0, .slice none 0 0, .slice none 0 0, .slice none 0 0], .int .i64 1]) (by simp [results, Tryz.results19, go_sem, k0, k1, k2, k3, k4, k5, k6, k7]) rfl ?_
      exact mex 1 (by rw [HE.out]; simp) (by decide) (eight_below bw2 (w.heap.size + 1 + 1) (by omega) _ _ _ _ _ _ _ _)
    | true =>
      by_cases hn : proc = pname
      · subst hn
        by_cases hs : stage0 < stages.length
        · have hsb : decide ((stages.length : Int) ≤ stage0) = false := by rw [decide_eq_false_iff_not]; omega
          go_wp2_with fail
          refine (ND.out _).mono ?_
          rintro e w3 ⟨rfl, rfl⟩
          cases D with
          | false =>
            go_wp2
            refine bodyPost_ret (v := .tuple #[.agg #[.string ⟨#[]⟩, .int .i64 0, .slice none 0 0, .string ⟨#[]⟩, .int .i64 0, .slice none 0 0, .slice none 0 0, .slice none 0 0], .int .i64 1]) (by simp [results, Tryz.results19, go_sem, k0, k1, k2, k3, k4, k5, k6, k7]) rfl ?_
            exact mex 1 (by rw [HE.out]; simp) (by decide) (eight_below bw2 (w.heap.size + 1 + 1) (by omega) _ _ _ _ _ _ _ _)
          | true =>
            by_cases g0 : 0 ≤ stage
            · have g0b : decide (stage < 0) = false := by rw [decide_eq_false_iff_not]; omega
              by_cases g1 : stage < stages.length
              · have g1b : decide ((stages.length : Int) ≤ stage) = false := by rw [decide_eq_false_iff_not]; omega
                go_wp2_with fail
                refine (NX.out _ bw2).mono ?_
                rintro e w3 ⟨rfl, b3⟩
                have bw3 := bw2.trans (b3.mono bw2.size)
                have hl3 := Nat.lt_of_lt_of_le hl2 b3.size
                have hm3 := HM2.out.below b3 (by omega)
                have hp3 := HP2.out.below b3 (by omega)
                have hz3 := HZ2.out.below b3 hl2
                have FM3 := Lib.hid (fun i => (b3.frozen (p := ⟨w.heap.size, i, none⟩) (by show w.heap.size < w2.heap.size; omega)).trans (FM2.out i))
                have HM3 := Lib.hid hm3
                have HP3 := Lib.hid hp3
                have HZ3 := Lib.hid hz3
                clear b3 bw2 HM2 HP2 HZ2 FM2 hl2 c0 c1 c2 c3 c4 c5 c6 c7 d0 d1 d2 k0 k1 k2 k3 k4 k5 k6 k7 fz f0 f1 f2 f3 f4 f5 f6 f7
                obtain ⟨⟨_, k0⟩, ⟨_, k1⟩, ⟨_, k2⟩, ⟨_, k3⟩, ⟨_, k4⟩, ⟨_, k5⟩, ⟨_, k6⟩, ⟨_, k7⟩, fz⟩ := hz3
                have f0 := fz 0
                have f1 := fz 1
                have f2 := fz 2
                have f3 := fz 3
                have f4 := fz 4
                have f5 := fz 5
                have f6 := fz 6
                have f7 := fz 7
                obtain ⟨c0, c1, c2, c3, c4, c5, c6, c7⟩ := hm3
                simp only at c0 c1 c2 c3 c4 c5 c6 c7
                obtain ⟨d0, d1, d2⟩ := hp3
                simp only at d0 d1 d2
                cases X with
                | false =>
                  go_wp2
                  refine bodyPost_ret (v := .tuple #[.agg #[.string ⟨#[]⟩, .int .i64 0, .slice none 0 0, .string ⟨#[]⟩, .int .i64 0, .slice none 0 0, .slice none 0 0, .slice none 0 0], .int .i64 12]) (by simp [results, Tryz.results19, go_sem, k0, k1, k2, k3, k4, k5, k6, k7]) rfl ?_
                  exact mex 12 (by rw [HE.out]; rw [if_neg (by simp [hs]), if_neg (by simp [g0, g1])]; simp) (by decide) (eight_below bw3 (w.heap.size + 1 + 1) (by omega) _ _ _ _ _ _ _ _)
                | true =>
                  by_cases q0 : day < opened
                  · have q0b : decide (day < opened) = true := by simpa using q0
                    have hearly : earlyB ⟨mid, opened, .slice A1 case_.length p1, case_, proc, stage0, .slice A2 moved.length p2, moved, .slice A3 rights.length p3, rights, .slice A4 limits.length p4, limits⟩ day = true := by simp [earlyB, q0]
                    go_wp2
                    refine bodyPost_ret (v := .tuple #[.agg #[.string ⟨#[]⟩, .int .i64 0, .slice none 0 0, .string ⟨#[]⟩, .int .i64 0, .slice none 0 0, .slice none 0 0, .slice none 0 0], .int .i64 24]) (by simp [results, Tryz.results19, go_sem, k0, k1, k2, k3, k4, k5, k6, k7]) rfl ?_
                    exact mex 24 (by rw [HE.out]; rw [if_neg (by simp [hs]), if_neg (by simp [g0, g1]), if_neg (by simp), if_pos hearly]) (by decide) (eight_below bw3 (w.heap.size + 1 + 1) (by omega) _ _ _ _ _ _ _ _)
                  · have q0b : decide (day < opened) = false := by simpa using q0
                    by_cases hne : moved.length = 0
                    · have hneb : decide ((0 : Int) < (moved.length : Int)) = false := by rw [decide_eq_false_iff_not]; omega
                      have hneb2 : decide (0 < moved.length) = false := by rw [decide_eq_false_iff_not]; omega
                      have hneb3 : ¬ 0 < moved.length := by omega
                      have hearly : earlyB ⟨mid, opened, .slice A1 case_.length p1, case_, proc, stage0, .slice A2 moved.length p2, moved, .slice A3 rights.length p3, rights, .slice A4 limits.length p4, limits⟩ day = false := by simp [earlyB, q0, hne]
                      have h60b : decide ((60 : Int) ≤ (moved.length : Int)) = false := by rw [decide_eq_false_iff_not]; omega
                      have he0 : moveE _ _ stage day = 0 := HE.out.trans (by rw [if_neg (by simp [hs]), if_neg (by simp [g0, g1]), if_neg (by simp), if_neg (by rw [hearly]; decide), if_neg (by show ¬ 60 ≤ moved.length; omega)])
                      have HE0 := Lib.hid he0
                      have hn60 : moved.length ≤ 60 := by omega
                      clear hearly he0 hne q0
                      obtain ⟨i0, hi, hz0', hz1', hz2'⟩ := info_parts infoI
                      have ff4 := FM3.out 4
                      have bs3 := bw3.setCell (p := ⟨w.heap.size, 4, none⟩) (Nat.le_refl _) (.int .i64 stage)
                      have hs3 : (w3.setCell ⟨w.heap.size, 4, none⟩ (.int .i64 stage)).heap.size = w3.heap.size := by simp
                      have hcl := cloneI_any _ moved.length (csI moved) _ (HGO.out _ bs3).mo.rg (fun _ => rfl) (csI_one moved) (by show moved.length ≤ 100000; omega)
                      have HCL := Lib.hid hcl
                      have HS3 := Lib.hid hs3
                      clear hcl hs3
                      go_wp2_with fail
                      refine HCL.out.mono ?_
                      rintro e w4 ⟨v4, rfl, hown, b4⟩
                      have hsz := HS3.out
                      have bw4 := bs3.trans (b4.mono bs3.size)
                      rw [hsz] at hown
                      have hl4 : w.heap.size + 1 + 1 < w4.heap.size := by have := b4.size; omega
                      have hm4 := (HM3.out.stage stage).below b4 (by omega)
                      have hz4 := (HZ3.out.other ⟨w.heap.size, 4, none⟩ (.int .i64 stage) (by show w.heap.size ≠ _; omega)).below b4 (by omega)
                      have fm4 : w4.frozen? ⟨w.heap.size, 5, none⟩ = false := (b4.frozen (p := ⟨w.heap.size, 5, none⟩) (by show w.heap.size < (w3.setCell ⟨w.heap.size, 4, none⟩ (.int .i64 stage)).heap.size; omega)).trans ((World.frozen?_setCell _ _ _ _).trans (FM3.out 5))
                      have hw34 : w3.heap.size ≤ w4.heap.size := by have := b4.size; omega
                      have a4 := (Below.refl w4.heap.size w4).alloc (Nat.le_refl _) (.cells #[.int .i64 day] 3)
                      have HM4 := Lib.hid (hm4.below a4 (by omega))
                      have HZ4 := Lib.hid (hz4.below a4 hl4)
                      have FM4 := Lib.hid ((a4.frozen (p := ⟨w.heap.size, 5, none⟩) (by show w.heap.size < w4.heap.size; omega)).trans fm4)
                      have A4' := Lib.hid a4
                      have HOWN := Lib.hid hown
                      clear hown b4 fm4 hm4 hz4 a4 hsz c0 c1 c2 c3 c4 c5 c6 c7 d0 d1 d2 k0 k1 k2 k3 k4 k5 k6 k7 fz f0 f1 f2 f3 f4 f5 f6 f7 ff4
                      go_wp2_with (at_builtin; refine wpList_app _ rfl (.tmp 93) (.tmp 95) 22 rfl w3.heap.size 3 i0 (.int .i64 0) 1 8 Tryz.underlying22 hi hz0' hz1' hz2' rfl (by decide) v4 moved.length (news moved.length (csI moved)) rfl (HOWN.out.alloc _) w4.heap.size rfl #[.int .i64 day] 3 (0, 0) rfl (Go.heap_alloc_new _ _) (fun u hu => by simp at hu; subst hu; rfl) (by omega) (by decide) (Nat.le_trans hw34 (le_alloc _ _)) ?_; intro g cap w5 hown5 b5; have hm5 := HM4.out.below b5 (by omega); have hz5 := HZ4.out.below b5 hl3; have fm5 := (b5.frozen (p := ⟨w.heap.size, 5, none⟩) (by show w.heap.size < w3.heap.size; omega)).trans FM4.out; have HOWN5 := Lib.hid hown5; have B5 := Lib.hid b5; clear hown5 b5; obtain ⟨c0, c1, c2, c3, c4, c5, c6, c7⟩ := hm5; simp only at c0 c1 c2 c3 c4 c5 c6 c7; obtain ⟨⟨_, k0⟩, ⟨_, k1⟩, ⟨_, k2⟩, ⟨_, k3⟩, ⟨_, k4⟩, ⟨_, k5⟩, ⟨_, k6⟩, ⟨_, k7⟩, fz⟩ := hz5; have f0 := fz 0; have f1 := fz 1; have f2 := fz 2; have f3 := fz 3; have f4 := fz 4; have f5 := fz 5; have f6 := fz 6; have f7 := fz 7)
                      have bw5 : Below w.heap.size w w5 := (bw4.trans (A4'.out.mono bw4.size)).trans (B5.out.mono bw3.size)
                      refine bodyPost_ret (v := .tuple #[.agg #[.string mid, .int .i64 opened, .slice A1 case_.length p1, .string proc, .int .i64 stage, .slice (some ⟨g, 0, none⟩) (moved.length + 1) cap, .slice A3 rights.length p3, .slice A4 limits.length p4], .int .i64 0]) (by simp [results, Tryz.results19, go_sem, k0, k1, k2, k3, k4, k5, k6, k7]) rfl ?_
                      have hbf := fun v0 v1 v2 v3 v4 v5 v6 v7 v8 : Value => eight_below (bw5.setCell (p := ⟨w.heap.size, 5, none⟩) (Nat.le_refl _) v0) (w.heap.size + 1 + 1) (by omega) v1 v2 v3 v4 v5 v6 v7 v8
                      have hof := fun v0 v1 v2 v3 v4 v5 v6 v7 v8 : Value => eight_own (own_set HOWN5.out (b := w.heap.size) (by omega) 5 v0) (b := w.heap.size + 1 + 1) hl3 v1 v2 v3 v4 v5 v6 v7 v8
                      exact mok (m := ⟨mid, opened, .slice A1 case_.length p1, case_, proc, stage0, .slice A2 moved.length p2, moved, .slice A3 rights.length p3, rights, .slice A4 limits.length p4, limits⟩) _ HE0.out (hbf _ _ _ _ _ _ _ _ _) (HGO.out _ (hbf _ _ _ _ _ _ _ _ _)) (ri_of (hof _ _ _ _ _ _ _ _ _) HW2.out (HDW.out (by trivial)) (by show moved.length ≤ 1000; omega)) (fun k hk => Nat.le_trans bw3.size (own_block_ge (hof (.nilFunc) .nilFunc .nilFunc .nilFunc .nilFunc .nilFunc .nilFunc .nilFunc .nilFunc) k hk))
                    · obtain ⟨q, hq⟩ : ∃ q, moved.length = q + 1 := ⟨moved.length - 1, by omega⟩
                      have hneb : decide ((0 : Int) < (moved.length : Int)) = true := by rw [decide_eq_true_iff]; omega
                      rcases H2.out with hnil | ⟨b, off, hA, hB, hcells⟩
                      · rw [hnil] at hne; exact absurd rfl hne
                      · subst hA
                        have xlc := (bw3.cell (p := ⟨b, off + q, none⟩) hB).trans (hcells q (by omega))
                        obtain ⟨xl, hxl⟩ : ∃ x, x = moved.getD q 0 := ⟨_, rfl⟩
                        rw [← hxl] at xlc
                        have i1 : (moved.length : Int) - 1 = (q : Int) := by omega
                        have i2 : (0 : Int) ≤ (q : Int) := by omega
                        have i3 : (q : Int) < (moved.length : Int) := by omega
                        have iw : IntKind.i64.wrap (q : Int) = (q : Int) := by simp [IntKind.wrap, IntKind.bits, IntKind.signed]; omega
                        have hearly : earlyB ⟨mid, opened, .slice A1 case_.length p1, case_, proc, stage0, .slice (some ⟨b, off, none⟩) moved.length p2, moved, .slice A3 rights.length p3, rights, .slice A4 limits.length p4, limits⟩ day = decide (day < xl) := by
                          simp only [earlyB]
                          rw [show moved.length - 1 = q by omega, ← hxl]
                          have : 0 < moved.length := by omega
                          simp [q0, this]
                        have HQ := Lib.hid hq
                        have HC := Lib.hid hcells
                        clear hcells hxl hne hq
                        by_cases ql : day < xl
                        · have qlb : decide (day < xl) = true := by simpa using ql
                          go_wp2
                          refine bodyPost_ret (v := .tuple #[.agg #[.string ⟨#[]⟩, .int .i64 0, .slice none 0 0, .string ⟨#[]⟩, .int .i64 0, .slice none 0 0, .slice none 0 0, .slice none 0 0], .int .i64 24]) (by simp [results, Tryz.results19, go_sem, k0, k1, k2, k3, k4, k5, k6, k7]) rfl ?_
                          exact mex 24 (by rw [HE.out]; rw [if_neg (by simp [hs]), if_neg (by simp [g0, g1]), if_neg (by simp), if_pos (hearly.trans qlb)]) (by decide) (eight_below bw3 (w.heap.size + 1 + 1) (by omega) _ _ _ _ _ _ _ _)
                        · have qlb : decide (day < xl) = false := by simpa using ql
                          by_cases h60 : 60 ≤ moved.length
                          · have h60b : decide ((60 : Int) ≤ (moved.length : Int)) = true := by rw [decide_eq_true_iff]; omega
                            go_wp2
                            refine bodyPost_ret (v := .tuple #[.agg #[.string ⟨#[]⟩, .int .i64 0, .slice none 0 0, .string ⟨#[]⟩, .int .i64 0, .slice none 0 0, .slice none 0 0, .slice none 0 0], .int .i64 2]) (by simp [results, Tryz.results19, go_sem, k0, k1, k2, k3, k4, k5, k6, k7]) rfl ?_
                            exact mex 2 (by rw [HE.out]; rw [if_neg (by simp [hs]), if_neg (by simp [g0, g1]), if_neg (by simp), if_neg (by rw [hearly, qlb]; decide), if_pos h60]) (by decide) (eight_below bw3 (w.heap.size + 1 + 1) (by omega) _ _ _ _ _ _ _ _)
                          · have h60b : decide ((60 : Int) ≤ (moved.length : Int)) = false := by rw [decide_eq_false_iff_not]; omega
                            have he0 : moveE _ _ stage day = 0 := HE.out.trans (by rw [if_neg (by simp [hs]), if_neg (by simp [g0, g1]), if_neg (by simp), if_neg (by rw [hearly, qlb]; decide), if_neg h60])
                            have HE0 := Lib.hid he0
                            have hn60 : moved.length ≤ 60 := by omega
                            clear hearly he0 q0 ql h60
                            obtain ⟨i0, hi, hz0', hz1', hz2'⟩ := info_parts infoI
                            have ff4 := FM3.out 4
                            have bs3 := bw3.setCell (p := ⟨w.heap.size, 4, none⟩) (Nat.le_refl _) (.int .i64 stage)
                            have hs3 : (w3.setCell ⟨w.heap.size, 4, none⟩ (.int .i64 stage)).heap.size = w3.heap.size := by simp
                            have hcl := cloneI_any _ moved.length (csI moved) _ (HGO.out _ bs3).mo.rg (fun _ => rfl) (csI_one moved) (by show moved.length ≤ 100000; omega)
                            have HCL := Lib.hid hcl
                            have HS3 := Lib.hid hs3
                            clear hcl hs3
                            go_wp2_with fail
                            refine HCL.out.mono ?_
                            rintro e w4 ⟨v4, rfl, hown, b4⟩
                            have hsz := HS3.out
                            have bw4 := bs3.trans (b4.mono bs3.size)
                            rw [hsz] at hown
                            have hl4 : w.heap.size + 1 + 1 < w4.heap.size := by have := b4.size; omega
                            have hm4 := (HM3.out.stage stage).below b4 (by omega)
                            have hz4 := (HZ3.out.other ⟨w.heap.size, 4, none⟩ (.int .i64 stage) (by show w.heap.size ≠ _; omega)).below b4 (by omega)
                            have fm4 : w4.frozen? ⟨w.heap.size, 5, none⟩ = false := (b4.frozen (p := ⟨w.heap.size, 5, none⟩) (by show w.heap.size < (w3.setCell ⟨w.heap.size, 4, none⟩ (.int .i64 stage)).heap.size; omega)).trans ((World.frozen?_setCell _ _ _ _).trans (FM3.out 5))
                            have hw34 : w3.heap.size ≤ w4.heap.size := by have := b4.size; omega
                            have a4 := (Below.refl w4.heap.size w4).alloc (Nat.le_refl _) (.cells #[.int .i64 day] 3)
                            have HM4 := Lib.hid (hm4.below a4 (by omega))
                            have HZ4 := Lib.hid (hz4.below a4 hl4)
                            have FM4 := Lib.hid ((a4.frozen (p := ⟨w.heap.size, 5, none⟩) (by show w.heap.size < w4.heap.size; omega)).trans fm4)
                            have A4' := Lib.hid a4
                            have HOWN := Lib.hid hown
                            clear hown b4 fm4 hm4 hz4 a4 hsz c0 c1 c2 c3 c4 c5 c6 c7 d0 d1 d2 k0 k1 k2 k3 k4 k5 k6 k7 fz f0 f1 f2 f3 f4 f5 f6 f7 ff4
                            go_wp2_with (at_builtin; refine wpList_app _ rfl (.tmp 93) (.tmp 95) 22 rfl w3.heap.size 3 i0 (.int .i64 0) 1 8 Tryz.underlying22 hi hz0' hz1' hz2' rfl (by decide) v4 moved.length (news moved.length (csI moved)) rfl (HOWN.out.alloc _) w4.heap.size rfl #[.int .i64 day] 3 (0, 0) rfl (Go.heap_alloc_new _ _) (fun u hu => by simp at hu; subst hu; rfl) (by omega) (by decide) (Nat.le_trans hw34 (le_alloc _ _)) ?_; intro g cap w5 hown5 b5; have hm5 := HM4.out.below b5 (by omega); have hz5 := HZ4.out.below b5 hl3; have fm5 := (b5.frozen (p := ⟨w.heap.size, 5, none⟩) (by show w.heap.size < w3.heap.size; omega)).trans FM4.out; have HOWN5 := Lib.hid hown5; have B5 := Lib.hid b5; clear hown5 b5; obtain ⟨c0, c1, c2, c3, c4, c5, c6, c7⟩ := hm5; simp only at c0 c1 c2 c3 c4 c5 c6 c7; obtain ⟨⟨_, k0⟩, ⟨_, k1⟩, ⟨_, k2⟩, ⟨_, k3⟩, ⟨_, k4⟩, ⟨_, k5⟩, ⟨_, k6⟩, ⟨_, k7⟩, fz⟩ := hz5; have f0 := fz 0; have f1 := fz 1; have f2 := fz 2; have f3 := fz 3; have f4 := fz 4; have f5 := fz 5; have f6 := fz 6; have f7 := fz 7)
                            have bw5 : Below w.heap.size w w5 := (bw4.trans (A4'.out.mono bw4.size)).trans (B5.out.mono bw3.size)
                            refine bodyPost_ret (v := .tuple #[.agg #[.string mid, .int .i64 opened, .slice A1 case_.length p1, .string proc, .int .i64 stage, .slice (some ⟨g, 0, none⟩) (moved.length + 1) cap, .slice A3 rights.length p3, .slice A4 limits.length p4], .int .i64 0]) (by simp [results, Tryz.results19, go_sem, k0, k1, k2, k3, k4, k5, k6, k7]) rfl ?_
                            have hbf := fun v0 v1 v2 v3 v4 v5 v6 v7 v8 : Value => eight_below (bw5.setCell (p := ⟨w.heap.size, 5, none⟩) (Nat.le_refl _) v0) (w.heap.size + 1 + 1) (by omega) v1 v2 v3 v4 v5 v6 v7 v8
                            have hof := fun v0 v1 v2 v3 v4 v5 v6 v7 v8 : Value => eight_own (own_set HOWN5.out (b := w.heap.size) (by omega) 5 v0) (b := w.heap.size + 1 + 1) hl3 v1 v2 v3 v4 v5 v6 v7 v8
                            exact mok (m := ⟨mid, opened, .slice A1 case_.length p1, case_, proc, stage0, .slice (some ⟨b, off, none⟩) moved.length p2, moved, .slice A3 rights.length p3, rights, .slice A4 limits.length p4, limits⟩) _ HE0.out (hbf _ _ _ _ _ _ _ _ _) (HGO.out _ (hbf _ _ _ _ _ _ _ _ _)) (ri_of (hof _ _ _ _ _ _ _ _ _) HW2.out (HDW.out (by trivial)) (by show moved.length ≤ 1000; omega)) (fun k hk => Nat.le_trans bw3.size (own_block_ge (hof (.nilFunc) .nilFunc .nilFunc .nilFunc .nilFunc .nilFunc .nilFunc .nilFunc .nilFunc) k hk))
              · have g1b : decide ((stages.length : Int) ≤ stage) = true := by rw [decide_eq_true_iff]; omega
                go_wp2
                refine bodyPost_ret (v := .tuple #[.agg #[.string ⟨#[]⟩, .int .i64 0, .slice none 0 0, .string ⟨#[]⟩, .int .i64 0, .slice none 0 0, .slice none 0 0, .slice none 0 0], .int .i64 11]) (by simp [results, Tryz.results19, go_sem, k0, k1, k2, k3, k4, k5, k6, k7]) rfl ?_
                exact mex 11 (by rw [HE.out]; rw [if_neg (by simp [hs]), if_pos (by simp; omega)]) (by decide) (eight_below bw2 (w.heap.size + 1 + 1) (by omega) _ _ _ _ _ _ _ _)
            · have g0b : decide (stage < 0) = true := by rw [decide_eq_true_iff]; omega
              go_wp2
              refine bodyPost_ret (v := .tuple #[.agg #[.string ⟨#[]⟩, .int .i64 0, .slice none 0 0, .string ⟨#[]⟩, .int .i64 0, .slice none 0 0, .slice none 0 0, .slice none 0 0], .int .i64 11]) (by simp [results, Tryz.results19, go_sem, k0, k1, k2, k3, k4, k5, k6, k7]) rfl ?_
              exact mex 11 (by rw [HE.out]; rw [if_neg (by simp [hs]), if_pos (by simp; omega)]) (by decide) (eight_below bw2 (w.heap.size + 1 + 1) (by omega) _ _ _ _ _ _ _ _)
        · have hsb : decide ((stages.length : Int) ≤ stage0) = true := by rw [decide_eq_true_iff]; omega
          go_wp2
          refine bodyPost_ret (v := .tuple #[.agg #[.string ⟨#[]⟩, .int .i64 0, .slice none 0 0, .string ⟨#[]⟩, .int .i64 0, .slice none 0 0, .slice none 0 0, .slice none 0 0], .int .i64 1]) (by simp [results, Tryz.results19, go_sem, k0, k1, k2, k3, k4, k5, k6, k7]) rfl ?_
          exact mex 1 (by rw [HE.out]; rw [if_pos (by simp; omega)]) (by decide) (eight_below bw2 (w.heap.size + 1 + 1) (by omega) _ _ _ _ _ _ _ _)
      · have hne := str_ne hn
        have hne2 : (proc.toList != pname.toList) = true := by simp only [bne, hne]; rfl
        go_wp2
        refine bodyPost_ret (v := .tuple #[.agg #[.string ⟨#[]⟩, .int .i64 0, .slice none 0 0, .string ⟨#[]⟩, .int .i64 0, .slice none 0 0, .slice none 0 0, .slice none 0 0], .int .i64 1]) (by simp [results, Tryz.results19, go_sem, k0, k1, k2, k3, k4, k5, k6, k7]) rfl ?_
        exact mex 1 (by rw [HE.out]; rw [if_pos (by simp [hn])]) (by decide) (eight_below bw2 (w.heap.size + 1 + 1) (by omega) _ _ _ _ _ _ _ _)
end Go.Proofs.YtficjcomefaocaaGreatDoor
