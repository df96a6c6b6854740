/- LAW MatterFields: its walk. -/
import Derived.Test.YtficjcomefaocaaGreatDoorHeadM
namespace Go.Proofs.YtficjcomefaocaaGreatDoor
open Go.RowKit Go.Maps
open Lexer

/-- without Case, rights and limits -/
def bareA (m : Mat) : Mat := { m with cv := nilV, case_ := [], rv := nilV, rights := [], lv := nilV, limits := [] }
/-- without Case, moves, limits and stage -/
def bareB (m : Mat) : Mat := { m with cv := nilV, case_ := [], stage := 0, mv := nilV, moved := [], lv := nilV, limits := [] }
theorem bareA_formed {m : Mat} (h : formedB m = true) : formedB (bareA m) = true := by
  have h := formed_fm h
  exact fm_formed ⟨h.id, h.proc, h.op, h.s0, h.s1, by simp [bareA], by simp [bareA], h.days, h.mo, h.ml, by simp [bareA], by simp [bareA], by simp [bareA], by simp [bareA], by simp [bareA], by simp [bareA]⟩
theorem bareB_formed {m : Mat} (h : formedB m = true) : formedB (bareB m) = true := by
  have h := formed_fm h
  exact fm_formed ⟨h.id, h.proc, h.op, by show (0 : Int) ≤ 0; decide, by show (0 : Int) < 60; decide, by simp [bareB], by simp [bareB], rfl, by simp [bareB], by simp [bareB], h.ri, h.rk, h.rl, by simp [bareB], by simp [bareB], by simp [bareB]⟩
theorem bareA_move {m : Mat} (h : formedB m = true) (p : Prc) (stage day : Int) : moveE (bareA m) p stage day = moveE m p stage day := by
  unfold moveE
  rw [h, bareA_formed h]
  rfl
theorem bareB_grant {m : Mat} (h : formedB m = true) (r : ByteArray) (day : Int) : grantE (bareB m) r day = grantE m r day := by
  unfold grantE
  rw [h, bareB_formed h]
  rfl
theorem move_no {m : Mat} (h : formedB m = false) (p : Prc) (stage day : Int) : moveE m p stage day = 1 := by
  unfold moveE
  rw [h]
  rfl
theorem grant_no {m : Mat} (h : formedB m = false) (r : ByteArray) (day : Int) : grantE m r day = 1 := by
  unfold grantE
  rw [h]
  rfl
theorem bareA_mr {w : World} {B : Nat} {m : Mat} (h : MR w B m) : MR w B (bareA m) :=
  ⟨⟨none, 0, rfl, by simp [bareA], by simp [bareA], .inl rfl⟩, h.mo, ⟨rg_nil _ _ _ _ _ _, by simp [bareA]⟩, ⟨rg_nil _ _ _ _ _ _, by simp [bareA], by simp [bareA]⟩, h.si, h.sp⟩
theorem bareB_mr {w : World} {B : Nat} {m : Mat} (h : MR w B m) : MR w B (bareB m) :=
  ⟨⟨none, 0, rfl, by simp [bareB], by simp [bareB], .inl rfl⟩, ⟨none, 0, rfl, by simp [bareB], by simp [bareB], .inl rfl⟩, h.ri, ⟨rg_nil _ _ _ _ _ _, by simp [bareB], by simp [bareB]⟩, h.si, h.sp⟩
/-- a procedure in the variable q -/
structure HeldP (w : World) (q : Nat) (p : Prc) : Prop where
  box : PBox q p w
  lt : q < w.heap.size
  pr : PR w w.heap.size p
theorem HeldP.go {w w' : World} {q : Nat} {p : Prc} (h : HeldP w q p) (hb : Below w.heap.size w w') : HeldP w' q p := ⟨h.box.below hb h.lt, Nat.lt_of_lt_of_le h.lt hb.size, h.pr.go hb⟩
theorem HeldP.new {w : World} {p : Prc} (h : PR w w.heap.size p) : HeldP (w.alloc (.cells p.cells 46)) w.heap.size p :=
  ⟨⟨by simp [go_sem], by simp [go_sem], by simp [go_sem]⟩, by simp, h.go ((Below.refl _ _).alloc (Nat.le_refl _) _)⟩
theorem prc_form {w : World} {p : Prc} (h : PR w w.heap.size p) : ∃ A1 c1 A2 c2, p.sv = .slice A1 p.stages.length c1 ∧ p.mv = .slice A2 p.moves.length c2 := by
  obtain ⟨⟨A1, c1, e1, _⟩, _⟩ := h.st
  obtain ⟨A2, c2, e2, _⟩ := h.mo
  exact ⟨A1, c1, A2, c2, e1, e2⟩

set_option maxHeartbeats 16000000 in
set_option maxRecDepth 100000 in
theorem fields_law (m : Mat) (p : Prc) (stage day : Int) (name : ByteArray) (w : World) (hE : Env w.heap.size w) (hm : MR w w.heap.size m) (hp : PR w w.heap.size p) (hn : name.size ≤ 140737488355328) :
    Calls Tryz.prog 6 #[.agg m.cells, .agg p.cells, .int .i64 stage, .int .i64 day, .string name] w fun e w' => e = .returned (.bool true) ∧ Below w.heap.size w w' := by
  have b0 := (Below.refl w.heap.size w).alloc (Nat.le_refl _) (.cells m.cells 27)
  have b0' := (Below.refl (w.alloc (.cells m.cells 27)).heap.size (w.alloc (.cells m.cells 27))).alloc (Nat.le_refl _) (.cells p.cells 46)
  have hh := (Held.new hm).go b0'
  have hhp := HeldP.new (hp.go b0)
  have b1 := b0.trans (b0'.mono b0.size)
  have hh1 := head_any _ ((hE.on b1).more b1.size)
  rw [World.size_alloc] at hhp
  obtain ⟨A1, c1, A2, c2, A3, c3, A4, c4, g1, g2, g3, g4⟩ := mat_form hm
  obtain ⟨P1, d1, P2, d2, f1, f2⟩ := prc_form hp
  have HE := Lib.hid hE
  have HH := Lib.hid hh
  have HHP := Lib.hid hhp
  have H1 := Lib.hid hh1
  have B0 := Lib.hid b1
  clear hE hm hp hh hhp hh1 b0 b0' b1
  obtain ⟨i, o, cv, cs, pr, st, mv, mo, rv, ri, lv, li⟩ := m
  obtain ⟨pn, sv, ss, qv, qs⟩ := p
  simp only at g1 g2 g3 g4 f1 f2
  subst g1 g2 g3 g4 f1 f2
  simp only [Mat.cells, Prc.cells] at HH HHP H1 B0 ⊢
  go_enter Tryz.func6, Tryz.ntmps6
  go_wp2_with fail
  refine H1.out.mono ?_
  rintro e w1 ⟨rfl, b1⟩
  have hq := HH.out.go b1
  have hqp := HHP.out.go b1
  have bw1 := B0.out.trans (b1.mono B0.out.size)
  obtain ⟨z0, z1, z2, z3, z4, z5, z6, z7⟩ := hq.box
  simp only at z0 z1 z2 z3 z4 z5 z6 z7
  have hf := few_any _ w1 hq.mr
  have HQ := Lib.hid hq
  have HQP := Lib.hid hqp
  have BW1 := Lib.hid bw1
  have HF := Lib.hid hf
  clear hq hqp bw1 b1 hf HH HHP H1 B0
  go_wp2_with fail
  refine HF.out.mono ?_
  rintro e w2 ⟨⟨fb, rfl⟩, b2⟩
  have hq := HQ.out.go b2
  have hqp := HQP.out.go b2
  have bw2 := BW1.out.trans (b2.mono BW1.out.size)
  have HQ2 := Lib.hid hq
  have HQP2 := Lib.hid hqp
  have BW2 := Lib.hid bw2
  clear z0 z1 z2 z3 z4 z5 z6 z7 bw2 b2 HF HQ HQP
  obtain ⟨y0, y1, y2⟩ := hqp.box
  simp only at y0 y1 y2
  clear hq hqp
  cases fb with
  | false =>
    go_wp2
    go_ret
    exact ⟨rfl, BW2.out⟩
  | true =>
    have hs := short_any _ w2 HQP2.out.pr
    have HS := Lib.hid hs
    clear hs
    go_wp2_with fail
    refine HS.out.mono ?_
    rintro e w3 ⟨⟨sb, rfl⟩, b3⟩
    have hq := HQ2.out.go b3
    have hqp := HQP2.out.go b3
    have bw3 := BW2.out.trans (b3.mono BW2.out.size)
    have HQ3 := Lib.hid hq
    have HQP3 := Lib.hid hqp
    have BW3 := Lib.hid bw3
    clear y0 y1 y2 bw3 b3 HS HQ2 HQP2
    obtain ⟨z0, z1, z2, z3, z4, z5, z6, z7⟩ := hq.box
    simp only at z0 z1 z2 z3 z4 z5 z6 z7
    clear hq hqp
    cases sb with
    | false =>
      go_wp2
      go_ret
      exact ⟨rfl, BW3.out⟩
    | true =>
      by_cases h60 : 60 < name.size
      · have hd : decide ((60 : Int) < (name.size : Int)) = true := decide_eq_true (by omega)
        clear h60
        go_wp2
        go_ret
        exact ⟨rfl, BW3.out⟩
      · have hd : decide ((60 : Int) < (name.size : Int)) = false := decide_eq_false (by omega)
        clear h60
        have hEn : Env w3.heap.size w3 := (HE.out.on BW3.out).more BW3.out.size
        obtain ⟨F, hF⟩ : ∃ F, F = formedB ⟨i, o, .slice A1 cs.length c1, cs, pr, st, .slice A2 mo.length c2, mo, .slice A3 ri.length c3, ri, .slice A4 li.length c4, li⟩ := ⟨_, rfl⟩
        have hT : Calls Tryz.prog 11 #[.agg #[.string i, .int .i64 o, .slice A1 cs.length c1, .string pr, .int .i64 st, .slice A2 mo.length c2, .slice A3 ri.length c3, .slice A4 li.length c4]] w3 fun e w' => (∃ s, e = .returned (.tuple #[.string s, .int .i64 (if F = true then 0 else 1)])) ∧ Below w3.heap.size w3 w' := by
          cases F with
          | false => exact (text_no _ w3 HQ3.out.mr hF.symm).mono fun _ _ h => ⟨⟨_, h.1⟩, h.2⟩
          | true => exact (text_yes _ w3 HQ3.out.mr hF.symm hEn).mono fun _ _ h => ⟨⟨_, h.1⟩, h.2⟩
        have HT := Lib.hid hT
        have HFE := Lib.hid hF
        clear hT hEn hF
        go_wp2_with fail
        refine HT.out.mono ?_
        rintro e w4 ⟨⟨s, rfl⟩, b4⟩
        have hq := HQ3.out.go b4
        have hqp := HQP3.out.go b4
        have bw4 := BW3.out.trans (b4.mono BW3.out.size)
        have HQ4 := Lib.hid hq
        have HQP4 := Lib.hid hqp
        have BW4 := Lib.hid bw4
        clear z0 z1 z2 z3 z4 z5 z6 z7 bw4 b4 HT HQ3 HQP3
        obtain ⟨z0, z1, z2, z3, z4, z5, z6, z7⟩ := hq.box
        simp only at z0 z1 z2 z3 z4 z5 z6 z7
        obtain ⟨y0, y1, y2⟩ := hqp.box
        simp only at y0 y1 y2
        clear hq hqp
        cases F with
        | false =>
          simp only [Bool.false_eq_true, if_false]
          go_wp2_with fail
          refine (move_any _ _ stage day w4 HQ4.out.mr HQP4.out.pr).mono ?_
          rintro e w5 ⟨v5, rfl, hmr5, b5, _⟩
          have hg : moveM ⟨i, o, .slice A1 cs.length c1, cs, pr, st, .slice A2 mo.length c2, mo, .slice A3 ri.length c3, ri, .slice A4 li.length c4, li⟩ ⟨pn, .slice P1 ss.length d1, ss, .slice P2 qs.length d2, qs⟩ stage day v5 = zeroM := by unfold moveM; rw [if_neg (by rw [move_no HFE.out.symm]; decide)]
          rw [hg, move_no HFE.out.symm]
          have b5a := b5.alloc b5.size (.cells zeroM.cells 27)
          have hq5 := HQ4.out.go b5a
          have bw5 := BW4.out.trans (b5a.mono BW4.out.size)
          have HQ5 := Lib.hid hq5
          have BW5 := Lib.hid bw5
          clear z0 z1 z2 z3 z4 z5 z6 z7 y0 y1 y2
          obtain ⟨z0, z1, z2, z3, z4, z5, z6, z7⟩ := (HQ4.out.go b5).box
          simp only at z0 z1 z2 z3 z4 z5 z6 z7
          have hl5 : w.heap.size < w5.heap.size := (HQ4.out.go b5).lt
          have hn5 : w5.heap.size ≠ w.heap.size := Nat.ne_of_gt hl5
          clear hg hmr5 b5 b5a hq5 bw5
          dsimp only [Mat.cells, zeroM] at HQ5 BW5 ⊢
          go_wp2_with fail
          refine (grant_any _ name day _ HQ5.out.mr hn).mono ?_
          rintro e w6 ⟨v6, rfl, hmr6, b6, _⟩
          have hg : grantM ⟨i, o, .slice A1 cs.length c1, cs, pr, st, .slice A2 mo.length c2, mo, .slice A3 ri.length c3, ri, .slice A4 li.length c4, li⟩ name day v6 = zeroM := by unfold grantM; rw [if_neg (by rw [grant_no HFE.out.symm]; decide)]
          rw [hg, grant_no HFE.out.symm]
          have BW6 := Lib.hid (BW5.out.trans (b6.mono BW5.out.size))
          clear hg hmr6 b6 z0 z1 z2 z3 z4 z5 z6 z7
          dsimp only [Mat.cells, zeroM]
          go_wp2
          go_ret
          exact ⟨rfl, BW6.out.alloc BW6.out.size _⟩
        | true =>
          simp only [if_true]
          have hl4 : w.heap.size < w4.heap.size := HQ4.out.lt
          have hl4' : w.heap.size + 1 < w4.heap.size := HQP4.out.lt
          have hn4 : w4.heap.size ≠ w.heap.size := Nat.ne_of_gt hl4
          have hn4' : w4.heap.size ≠ w.heap.size + 1 := Nat.ne_of_gt hl4'
          go_wp2_with fail
          obtain ⟨WA, hWA⟩ : ∃ W, W = w4.alloc (.cells #[.string i, .int .i64 o, .slice none 0 0, .string pr, .int .i64 st, .slice A2 mo.length c2, .slice none 0 0, .slice none 0 0] 27) := ⟨_, rfl⟩
          rw [← hWA]
          have hWB : WA = w4.alloc (.cells (bareA ⟨i, o, .slice A1 cs.length c1, cs, pr, st, .slice A2 mo.length c2, mo, .slice A3 ri.length c3, ri, .slice A4 li.length c4, li⟩).cells 27) := hWA
          have b4a : Below w4.heap.size w4 WA := by rw [hWA]; exact (Below.refl w4.heap.size w4).alloc (Nat.le_refl _) _
          have hla : WA.heap.size = w4.heap.size + 1 := by rw [hWA]; simp
          have hba : Held WA w4.heap.size (bareA ⟨i, o, .slice A1 cs.length c1, cs, pr, st, .slice A2 mo.length c2, mo, .slice A3 ri.length c3, ri, .slice A4 li.length c4, li⟩) := by rw [hWB]; exact Held.new (bareA_mr HQ4.out.mr)
          have hza : WA.heap[w4.heap.size]? = some (.cells #[.string i, .int .i64 o, .slice none 0 0, .string pr, .int .i64 st, .slice A2 mo.length c2, .slice none 0 0, .slice none 0 0] 27 (0, 0)) := by rw [hWA]; exact Go.heap_alloc_new _ _
          have hqa := HQ4.out.go b4a
          have hqpa := HQP4.out.go b4a
          have bwa := BW4.out.trans (b4a.mono BW4.out.size)
          clear hWA hWB z0 z1 z2 z3 z4 z5 z6 z7 y0 y1 y2 HQP4
          refine (move_any ⟨i, o, .slice A1 cs.length c1, cs, pr, st, .slice A2 mo.length c2, mo, .slice A3 ri.length c3, ri, .slice A4 li.length c4, li⟩ ⟨pn, .slice P1 ss.length d1, ss, .slice P2 qs.length d2, qs⟩ stage day WA hqa.mr hqpa.pr).mono ?_
          rintro e w5 ⟨v5, rfl, hmr5, b5, _⟩
          obtain ⟨E5, hE5⟩ : ∃ E, E = moveE ⟨i, o, .slice A1 cs.length c1, cs, pr, st, .slice A2 mo.length c2, mo, .slice A3 ri.length c3, ri, .slice A4 li.length c4, li⟩ ⟨pn, .slice P1 ss.length d1, ss, .slice P2 qs.length d2, qs⟩ stage day := ⟨_, rfl⟩
          have he6 : moveE (bareA ⟨i, o, .slice A1 cs.length c1, cs, pr, st, .slice A2 mo.length c2, mo, .slice A3 ri.length c3, ri, .slice A4 li.length c4, li⟩) ⟨pn, .slice P1 ss.length d1, ss, .slice P2 qs.length d2, qs⟩ stage day = E5 := by rw [bareA_move HFE.out.symm, hE5]
          rw [← hE5]
          clear hE5
          obtain ⟨X, hX⟩ : ∃ X, X = moveM ⟨i, o, .slice A1 cs.length c1, cs, pr, st, .slice A2 mo.length c2, mo, .slice A3 ri.length c3, ri, .slice A4 li.length c4, li⟩ ⟨pn, .slice P1 ss.length d1, ss, .slice P2 qs.length d2, qs⟩ stage day v5 := ⟨_, rfl⟩
          rw [← hX] at hmr5 ⊢
          clear hX
          have b5a := b5.alloc b5.size (.cells X.cells 27)
          obtain ⟨G1, l1, G2, l2, G3, l3, G4, l4, k1, k2, k3, k4⟩ := mat_form hmr5
          clear hmr5
          obtain ⟨x0, x1, x2, x3, x4, x5, x6, x7, x8, x9, xa, xb⟩ := X
          simp only at k1 k2 k3 k4
          subst k1 k2 k3 k4
          dsimp only [Mat.cells] at b5a ⊢
          have hl5 : w4.heap.size + 1 ≤ w5.heap.size := by have := b5.size; omega
          have hl5a : w4.heap.size < w5.heap.size := by omega
          have hl5b : w.heap.size + 1 < w5.heap.size := by omega
          have hl5c : w.heap.size < w5.heap.size := by omega
          have hn5a : w5.heap.size ≠ w4.heap.size := by omega
          have hn5b : w5.heap.size ≠ w.heap.size + 1 := by omega
          have hn5c : w5.heap.size ≠ w.heap.size := by omega
          have hq5 := hqa.go b5a
          have hqp5 := hqpa.go b5a
          have hba5 := hba.go b5a
          have bw5 := bwa.trans (b5a.mono bwa.size)
          have hz5 := (b5a.block _ hba.lt).trans hza
          have bb5 := b4a.trans (b5a.mono b4a.size)
          have BB5 := Lib.hid bb5
          clear bb5 b4a
          obtain ⟨z0, z1, z2, z3, z4, z5, z6, z7⟩ := (hba.go b5).box
          simp only [bareA, nilV] at z0 z1 z2 z3 z4 z5 z6 z7
          obtain ⟨y0, y1, y2⟩ := (hqpa.go b5).box
          simp only at y0 y1 y2
          have HQ5 := Lib.hid hq5
          have HQP5 := Lib.hid hqp5
          have HBA5 := Lib.hid hba5
          have BW5 := Lib.hid bw5
          have HZ5 := Lib.hid hz5
          have HE6 := Lib.hid he6
          clear hq5 hqp5 hba5 bw5 hz5 he6 hqa hqpa hba bwa hza b5 b5a
          go_wp2_with fail
          refine (move_any (bareA ⟨i, o, .slice A1 cs.length c1, cs, pr, st, .slice A2 mo.length c2, mo, .slice A3 ri.length c3, ri, .slice A4 li.length c4, li⟩) ⟨pn, .slice P1 ss.length d1, ss, .slice P2 qs.length d2, qs⟩ stage day _ HBA5.out.mr HQP5.out.pr).mono ?_
          rintro e w6 ⟨v6, rfl, hmr6, b6, _⟩
          rw [HE6.out]
          obtain ⟨X, hX⟩ : ∃ X, X = moveM (bareA ⟨i, o, .slice A1 cs.length c1, cs, pr, st, .slice A2 mo.length c2, mo, .slice A3 ri.length c3, ri, .slice A4 li.length c4, li⟩) ⟨pn, .slice P1 ss.length d1, ss, .slice P2 qs.length d2, qs⟩ stage day v6 := ⟨_, rfl⟩
          rw [← hX] at hmr6 ⊢
          clear hX
          have b6a := b6.alloc b6.size (.cells X.cells 27)
          obtain ⟨G1, l1, G2, l2, G3, l3, G4, l4, k1, k2, k3, k4⟩ := mat_form hmr6
          clear hmr6
          obtain ⟨x0, x1, x2, x3, x4, x5, x6, x7, x8, x9, xa, xb⟩ := X
          simp only at k1 k2 k3 k4
          subst k1 k2 k3 k4
          dsimp only [Mat.cells] at b6a ⊢
          have hl6 : w5.heap.size + 1 ≤ w6.heap.size := by have := b6.size; simp at this; omega
          have hl6a : w4.heap.size < w6.heap.size := by omega
          have hl6b : w.heap.size + 1 < w6.heap.size := by omega
          have hl6c : w.heap.size < w6.heap.size := by omega
          have hn6a : w6.heap.size ≠ w4.heap.size := by omega
          have hn6b : w6.heap.size ≠ w.heap.size + 1 := by omega
          have hn6c : w6.heap.size ≠ w.heap.size := by omega
          have bb6 := BB5.out.trans (b6.mono BB5.out.size)
          have hz6' := (b6.block _ HBA5.out.lt).trans HZ5.out
          have hf6 := Lib.frozen_of_heap hz6'
          clear z0 z1 z2 z3 z4 z5 z6 z7 y0 y1 y2
          obtain ⟨z0, z1, z2, z3, z4, z5, z6, z7⟩ := (HQ5.out.go b6).box
          simp only at z0 z1 z2 z3 z4 z5 z6 z7
          obtain ⟨q0, q1, q2, q3, q4, q5, q6, q7⟩ := (HBA5.out.go b6).box
          simp only [bareA, nilV] at q0 q1 q2 q3 q4 q5 q6 q7
          have f0 := hf6 0
          have f1 := hf6 1
          have f2 := hf6 2
          have f3 := hf6 3
          have f4 := hf6 4
          have f5 := hf6 5
          have f6 := hf6 6
          have f7 := hf6 7
          have g8 : ((((((((w6.setCell ⟨w4.heap.size, 0, none⟩ (.string i)).setCell ⟨w4.heap.size, 1, none⟩ (.int .i64 o)).setCell ⟨w4.heap.size, 2, none⟩ (.slice A1 cs.length c1)).setCell ⟨w4.heap.size, 3, none⟩ (.string pr)).setCell ⟨w4.heap.size, 4, none⟩ (.int .i64 st)).setCell ⟨w4.heap.size, 5, none⟩ (.slice A2 mo.length c2)).setCell ⟨w4.heap.size, 6, none⟩ (.slice A3 ri.length c3)).setCell ⟨w4.heap.size, 7, none⟩ (.slice A4 li.length c4)).heap[w4.heap.size]? = some (.cells #[.string i, .int .i64 o, .slice A1 cs.length c1, .string pr, .int .i64 st, .slice A2 mo.length c2, .slice A3 ri.length c3, .slice A4 li.length c4] 27 (0, 0)) := eight_heap hz6' (.string i) (.int .i64 o) (.slice A1 cs.length c1) (.string pr) (.int .i64 st) (.slice A2 mo.length c2) (.slice A3 ri.length c3) (.slice A4 li.length c4)
          have g9 : (((((((((w6.setCell ⟨w4.heap.size, 0, none⟩ (.string i)).setCell ⟨w4.heap.size, 1, none⟩ (.int .i64 o)).setCell ⟨w4.heap.size, 2, none⟩ (.slice A1 cs.length c1)).setCell ⟨w4.heap.size, 3, none⟩ (.string pr)).setCell ⟨w4.heap.size, 4, none⟩ (.int .i64 st)).setCell ⟨w4.heap.size, 5, none⟩ (.slice A2 mo.length c2)).setCell ⟨w4.heap.size, 6, none⟩ (.slice A3 ri.length c3)).setCell ⟨w4.heap.size, 7, none⟩ (.slice A4 li.length c4)).setCell ⟨w4.heap.size, 2, none⟩ (.slice none 0 0)).heap[w4.heap.size]? = some (.cells #[.string i, .int .i64 o, .slice none 0 0, .string pr, .int .i64 st, .slice A2 mo.length c2, .slice A3 ri.length c3, .slice A4 li.length c4] 27 (0, 0)) := by rw [heap_set ((((((((w6.setCell ⟨w4.heap.size, 0, none⟩ (.string i)).setCell ⟨w4.heap.size, 1, none⟩ (.int .i64 o)).setCell ⟨w4.heap.size, 2, none⟩ (.slice A1 cs.length c1)).setCell ⟨w4.heap.size, 3, none⟩ (.string pr)).setCell ⟨w4.heap.size, 4, none⟩ (.int .i64 st)).setCell ⟨w4.heap.size, 5, none⟩ (.slice A2 mo.length c2)).setCell ⟨w4.heap.size, 6, none⟩ (.slice A3 ri.length c3)).setCell ⟨w4.heap.size, 7, none⟩ (.slice A4 li.length c4)) w4.heap.size 2 _ _ _ (.slice none 0 0) g8]; rfl
          have g10 : ((((((((((w6.setCell ⟨w4.heap.size, 0, none⟩ (.string i)).setCell ⟨w4.heap.size, 1, none⟩ (.int .i64 o)).setCell ⟨w4.heap.size, 2, none⟩ (.slice A1 cs.length c1)).setCell ⟨w4.heap.size, 3, none⟩ (.string pr)).setCell ⟨w4.heap.size, 4, none⟩ (.int .i64 st)).setCell ⟨w4.heap.size, 5, none⟩ (.slice A2 mo.length c2)).setCell ⟨w4.heap.size, 6, none⟩ (.slice A3 ri.length c3)).setCell ⟨w4.heap.size, 7, none⟩ (.slice A4 li.length c4)).setCell ⟨w4.heap.size, 2, none⟩ (.slice none 0 0)).setCell ⟨w4.heap.size, 5, none⟩ (.slice none 0 0)).heap[w4.heap.size]? = some (.cells #[.string i, .int .i64 o, .slice none 0 0, .string pr, .int .i64 st, .slice none 0 0, .slice A3 ri.length c3, .slice A4 li.length c4] 27 (0, 0)) := by rw [heap_set (((((((((w6.setCell ⟨w4.heap.size, 0, none⟩ (.string i)).setCell ⟨w4.heap.size, 1, none⟩ (.int .i64 o)).setCell ⟨w4.heap.size, 2, none⟩ (.slice A1 cs.length c1)).setCell ⟨w4.heap.size, 3, none⟩ (.string pr)).setCell ⟨w4.heap.size, 4, none⟩ (.int .i64 st)).setCell ⟨w4.heap.size, 5, none⟩ (.slice A2 mo.length c2)).setCell ⟨w4.heap.size, 6, none⟩ (.slice A3 ri.length c3)).setCell ⟨w4.heap.size, 7, none⟩ (.slice A4 li.length c4)).setCell ⟨w4.heap.size, 2, none⟩ (.slice none 0 0)) w4.heap.size 5 _ _ _ (.slice none 0 0) g9]; rfl
          have g11 : (((((((((((w6.setCell ⟨w4.heap.size, 0, none⟩ (.string i)).setCell ⟨w4.heap.size, 1, none⟩ (.int .i64 o)).setCell ⟨w4.heap.size, 2, none⟩ (.slice A1 cs.length c1)).setCell ⟨w4.heap.size, 3, none⟩ (.string pr)).setCell ⟨w4.heap.size, 4, none⟩ (.int .i64 st)).setCell ⟨w4.heap.size, 5, none⟩ (.slice A2 mo.length c2)).setCell ⟨w4.heap.size, 6, none⟩ (.slice A3 ri.length c3)).setCell ⟨w4.heap.size, 7, none⟩ (.slice A4 li.length c4)).setCell ⟨w4.heap.size, 2, none⟩ (.slice none 0 0)).setCell ⟨w4.heap.size, 5, none⟩ (.slice none 0 0)).setCell ⟨w4.heap.size, 7, none⟩ (.slice none 0 0)).heap[w4.heap.size]? = some (.cells #[.string i, .int .i64 o, .slice none 0 0, .string pr, .int .i64 st, .slice none 0 0, .slice A3 ri.length c3, .slice none 0 0] 27 (0, 0)) := by rw [heap_set ((((((((((w6.setCell ⟨w4.heap.size, 0, none⟩ (.string i)).setCell ⟨w4.heap.size, 1, none⟩ (.int .i64 o)).setCell ⟨w4.heap.size, 2, none⟩ (.slice A1 cs.length c1)).setCell ⟨w4.heap.size, 3, none⟩ (.string pr)).setCell ⟨w4.heap.size, 4, none⟩ (.int .i64 st)).setCell ⟨w4.heap.size, 5, none⟩ (.slice A2 mo.length c2)).setCell ⟨w4.heap.size, 6, none⟩ (.slice A3 ri.length c3)).setCell ⟨w4.heap.size, 7, none⟩ (.slice A4 li.length c4)).setCell ⟨w4.heap.size, 2, none⟩ (.slice none 0 0)).setCell ⟨w4.heap.size, 5, none⟩ (.slice none 0 0)) w4.heap.size 7 _ _ _ (.slice none 0 0) g10]; rfl
          have g12 : ((((((((((((w6.setCell ⟨w4.heap.size, 0, none⟩ (.string i)).setCell ⟨w4.heap.size, 1, none⟩ (.int .i64 o)).setCell ⟨w4.heap.size, 2, none⟩ (.slice A1 cs.length c1)).setCell ⟨w4.heap.size, 3, none⟩ (.string pr)).setCell ⟨w4.heap.size, 4, none⟩ (.int .i64 st)).setCell ⟨w4.heap.size, 5, none⟩ (.slice A2 mo.length c2)).setCell ⟨w4.heap.size, 6, none⟩ (.slice A3 ri.length c3)).setCell ⟨w4.heap.size, 7, none⟩ (.slice A4 li.length c4)).setCell ⟨w4.heap.size, 2, none⟩ (.slice none 0 0)).setCell ⟨w4.heap.size, 5, none⟩ (.slice none 0 0)).setCell ⟨w4.heap.size, 7, none⟩ (.slice none 0 0)).setCell ⟨w4.heap.size, 4, none⟩ (.int .i64 0)).heap[w4.heap.size]? = some (.cells #[.string i, .int .i64 o, .slice none 0 0, .string pr, .int .i64 0, .slice none 0 0, .slice A3 ri.length c3, .slice none 0 0] 27 (0, 0)) := by rw [heap_set (((((((((((w6.setCell ⟨w4.heap.size, 0, none⟩ (.string i)).setCell ⟨w4.heap.size, 1, none⟩ (.int .i64 o)).setCell ⟨w4.heap.size, 2, none⟩ (.slice A1 cs.length c1)).setCell ⟨w4.heap.size, 3, none⟩ (.string pr)).setCell ⟨w4.heap.size, 4, none⟩ (.int .i64 st)).setCell ⟨w4.heap.size, 5, none⟩ (.slice A2 mo.length c2)).setCell ⟨w4.heap.size, 6, none⟩ (.slice A3 ri.length c3)).setCell ⟨w4.heap.size, 7, none⟩ (.slice A4 li.length c4)).setCell ⟨w4.heap.size, 2, none⟩ (.slice none 0 0)).setCell ⟨w4.heap.size, 5, none⟩ (.slice none 0 0)).setCell ⟨w4.heap.size, 7, none⟩ (.slice none 0 0)) w4.heap.size 4 _ _ _ (.int .i64 0) g11]; rfl
          have bC := ((((eight_below bb6 w4.heap.size (Nat.le_refl _) (.string i) (.int .i64 o) (.slice A1 cs.length c1) (.string pr) (.int .i64 st) (.slice A2 mo.length c2) (.slice A3 ri.length c3) (.slice A4 li.length c4)).setCell (p := ⟨w4.heap.size, 2, none⟩) (Nat.le_refl _) (.slice none 0 0)).setCell (p := ⟨w4.heap.size, 5, none⟩) (Nat.le_refl _) (.slice none 0 0)).setCell (p := ⟨w4.heap.size, 7, none⟩) (Nat.le_refl _) (.slice none 0 0)).setCell (p := ⟨w4.heap.size, 4, none⟩) (Nat.le_refl _) (.int .i64 0)
          have G12 := Lib.hid g12
          have BC := Lib.hid bC
          clear g8 g9 g10 g11 g12 bC bb6 hz6' hf6 b6 b6a HQ5 HQP5 HBA5 BW5 HZ5 BB5
          go_wp2_with fail
          obtain ⟨WC, hWC⟩ : ∃ W, W = ((((((((((((w6.setCell ⟨w4.heap.size, 0, none⟩ (.string i)).setCell ⟨w4.heap.size, 1, none⟩ (.int .i64 o)).setCell ⟨w4.heap.size, 2, none⟩ (.slice A1 cs.length c1)).setCell ⟨w4.heap.size, 3, none⟩ (.string pr)).setCell ⟨w4.heap.size, 4, none⟩ (.int .i64 st)).setCell ⟨w4.heap.size, 5, none⟩ (.slice A2 mo.length c2)).setCell ⟨w4.heap.size, 6, none⟩ (.slice A3 ri.length c3)).setCell ⟨w4.heap.size, 7, none⟩ (.slice A4 li.length c4)).setCell ⟨w4.heap.size, 2, none⟩ (.slice none 0 0)).setCell ⟨w4.heap.size, 5, none⟩ (.slice none 0 0)).setCell ⟨w4.heap.size, 7, none⟩ (.slice none 0 0)).setCell ⟨w4.heap.size, 4, none⟩ (.int .i64 0)) := ⟨_, rfl⟩
          rw [← hWC]
          have gC := G12.out
          have bC := BC.out
          rw [← hWC] at gC bC
          have hqC := HQ4.out.go bC
          have hbC : Held WC w4.heap.size (bareB ⟨i, o, .slice A1 cs.length c1, cs, pr, st, .slice A2 mo.length c2, mo, .slice A3 ri.length c3, ri, .slice A4 li.length c4, li⟩) := Held.of gC (bareB_mr hqC.mr)
          have bwC := BW4.out.trans (bC.mono (Nat.le_of_lt hl4))
          have bCa := (Below.refl WC.heap.size WC).alloc (Nat.le_refl _) (.cells #[.string x0, .int .i64 x1, .slice G1 x3.length l1, .string x4, .int .i64 x5, .slice G2 x7.length l2, .slice G3 x9.length l3, .slice G4 xb.length l4] 27)
          have hqD := hqC.go bCa
          have hbD := hbC.go bCa
          have bwD := bwC.trans (bCa.mono bwC.size)
          clear hWC G12 BC gC bC hqC hbC bwC bCa f0 f1 f2 f3 f4 f5 f6 f7 z0 z1 z2 z3 z4 z5 z6 z7 q0 q1 q2 q3 q4 q5 q6 q7 HQ4 BW4
          refine (grant_any ⟨i, o, .slice A1 cs.length c1, cs, pr, st, .slice A2 mo.length c2, mo, .slice A3 ri.length c3, ri, .slice A4 li.length c4, li⟩ name day _ hqD.mr hn).mono ?_
          rintro e w7 ⟨v7, rfl, hmr7, b7, _⟩
          obtain ⟨E7, hE7⟩ : ∃ E, E = grantE ⟨i, o, .slice A1 cs.length c1, cs, pr, st, .slice A2 mo.length c2, mo, .slice A3 ri.length c3, ri, .slice A4 li.length c4, li⟩ name day := ⟨_, rfl⟩
          have he8 : grantE (bareB ⟨i, o, .slice A1 cs.length c1, cs, pr, st, .slice A2 mo.length c2, mo, .slice A3 ri.length c3, ri, .slice A4 li.length c4, li⟩) name day = E7 := by rw [bareB_grant HFE.out.symm, hE7]
          rw [← hE7]
          clear hE7
          obtain ⟨X, hX⟩ : ∃ X, X = grantM ⟨i, o, .slice A1 cs.length c1, cs, pr, st, .slice A2 mo.length c2, mo, .slice A3 ri.length c3, ri, .slice A4 li.length c4, li⟩ name day v7 := ⟨_, rfl⟩
          rw [← hX] at hmr7 ⊢
          clear hX
          have b7a := b7.alloc b7.size (.cells X.cells 27)
          obtain ⟨G1, l1, G2, l2, G3, l3, G4, l4, k1, k2, k3, k4⟩ := mat_form hmr7
          clear hmr7
          obtain ⟨x0, x1, x2, x3, x4, x5, x6, x7, x8, x9, xa, xb⟩ := X
          simp only at k1 k2 k3 k4
          subst k1 k2 k3 k4
          dsimp only [Mat.cells] at b7a ⊢
          have hl7a : w4.heap.size < w7.heap.size := Nat.lt_of_lt_of_le hbD.lt b7.size
          have hn7a : w7.heap.size ≠ w4.heap.size := by omega
          obtain ⟨z0, z1, z2, z3, z4, z5, z6, z7⟩ := (hbD.go b7).box
          simp only [bareB, nilV] at z0 z1 z2 z3 z4 z5 z6 z7
          have hb7 := hbD.go b7a
          have bw7 := bwD.trans (b7a.mono bwD.size)
          have HB7 := Lib.hid hb7
          have BW7 := Lib.hid bw7
          have HE8 := Lib.hid he8
          clear hb7 bw7 he8 hqD hbD bwD b7 b7a
          go_wp2_with fail
          refine (grant_any (bareB ⟨i, o, .slice A1 cs.length c1, cs, pr, st, .slice A2 mo.length c2, mo, .slice A3 ri.length c3, ri, .slice A4 li.length c4, li⟩) name day _ HB7.out.mr hn).mono ?_
          rintro e w8 ⟨v8, rfl, hmr8, b8, _⟩
          rw [HE8.out]
          obtain ⟨X, hX⟩ : ∃ X, X = grantM (bareB ⟨i, o, .slice A1 cs.length c1, cs, pr, st, .slice A2 mo.length c2, mo, .slice A3 ri.length c3, ri, .slice A4 li.length c4, li⟩) name day v8 := ⟨_, rfl⟩
          rw [← hX] at hmr8 ⊢
          clear hX
          have b8a := b8.alloc b8.size (.cells X.cells 27)
          obtain ⟨G1, l1, G2, l2, G3, l3, G4, l4, k1, k2, k3, k4⟩ := mat_form hmr8
          clear hmr8
          obtain ⟨x0, x1, x2, x3, x4, x5, x6, x7, x8, x9, xa, xb⟩ := X
          simp only at k1 k2 k3 k4
          subst k1 k2 k3 k4
          dsimp only [Mat.cells] at b8a ⊢
          have BW8 := Lib.hid (BW7.out.trans (b8a.mono BW7.out.size))
          clear b8 b8a z0 z1 z2 z3 z4 z5 z6 z7
          go_wp2
          go_ret
          exact ⟨rfl, BW8.out⟩
end Go.Proofs.YtficjcomefaocaaGreatDoor
