/- WALK of matter.formed. -/
import Derived.Test.YtficjcomefaocaaGreatDoorMatter
namespace Go.Proofs.YtficjcomefaocaaGreatDoor
open Go.RowKit Go.Maps
open Lexer

/-- a matter's variable -/
structure MBox (b : Nat) (m : Mat) (w : World) : Prop where
  c0 : w.cell? ⟨b, 0, none⟩ = some (.string m.id)
  c1 : w.cell? ⟨b, 1, none⟩ = some (.int .i64 m.opened)
  c2 : w.cell? ⟨b, 2, none⟩ = some m.cv
  c3 : w.cell? ⟨b, 3, none⟩ = some (.string m.proc)
  c4 : w.cell? ⟨b, 4, none⟩ = some (.int .i64 m.stage)
  c5 : w.cell? ⟨b, 5, none⟩ = some m.mv
  c6 : w.cell? ⟨b, 6, none⟩ = some m.rv
  c7 : w.cell? ⟨b, 7, none⟩ = some m.lv
theorem MBox.new (w : World) (m : Mat) : MBox w.heap.size m (w.alloc (.cells m.cells 27)) := by constructor <;> simp [go_sem]
theorem MBox.below {b B : Nat} {m : Mat} {w w' : World} (h : MBox b m w) (hb : Below B w w') (hB : b < B) : MBox b m w' :=
  ⟨(hb.cell (p := ⟨b, 0, none⟩) hB).trans h.c0, (hb.cell (p := ⟨b, 1, none⟩) hB).trans h.c1, (hb.cell (p := ⟨b, 2, none⟩) hB).trans h.c2, (hb.cell (p := ⟨b, 3, none⟩) hB).trans h.c3, (hb.cell (p := ⟨b, 4, none⟩) hB).trans h.c4, (hb.cell (p := ⟨b, 5, none⟩) hB).trans h.c5, (hb.cell (p := ⟨b, 6, none⟩) hB).trans h.c6, (hb.cell (p := ⟨b, 7, none⟩) hB).trans h.c7⟩

set_option maxHeartbeats 4000000 in
set_option maxRecDepth 100000 in
theorem formed_any (m : Mat) (w : World) (h : MR w w.heap.size m) :
    Calls Tryz.prog 30 #[.agg m.cells] w fun e w' => e = .returned (.bool (formedB m)) ∧ Below w.heap.size w w' := by
  have hgo : ∀ w', Below w.heap.size w w' → MR w' w'.heap.size m := fun w' hb => h.go hb
  have hb0 : Below w.heap.size w (w.alloc (.cells m.cells 27)) := (Below.refl _ _).alloc (Nat.le_refl _) _
  have hbox := MBox.new w m
  obtain ⟨A1, p1, e1, l1, _⟩ := id h.cs
  obtain ⟨A2, p2, e2, l2, w2', h2'⟩ := id h.mo
  obtain ⟨⟨A3, p3, e3, l3, _⟩, _⟩ := id h.ri
  obtain ⟨⟨A4, p4, e4, l4, _⟩, _⟩ := id h.li
  have si := h.si
  have sp := h.sp
  obtain ⟨mid, opened, cv, case_, proc, stage, mv, moved, rv, rights, lv, limits⟩ := m
  simp only at e1 e2 e3 e4 si sp
  subst e1 e2 e3 e4
  have n1 := fun w => nameOK mid w si
  have n2 := fun w => nameOK proc w sp
  have n3 := mis_any opened
  have n6 := fun w hb => caseAny _ case_ w (hgo w hb).cs
  have n8 := fun w hb => sorted_any _ moved w (hgo w hb).mo
  obtain ⟨B10, hB10⟩ : ∃ B, B = diffB (rightB opened) (fun x => x.1) rights := ⟨_, rfl⟩
  obtain ⟨B11, hB11⟩ : ∃ B, B = diffB (fun x : Lim => limB x.id x.N x.U x.f x.stops) (fun x => x.id) limits := ⟨_, rfl⟩
  have nr : ∀ w', Below w.heap.size w w' → w'.cell? ⟨w.heap.size, 1, none⟩ = some (.int .i64 opened) → w.heap.size < w'.heap.size →
      Calls Tryz.prog 73 #[.slice A3 rights.length p3, .func (.func 74) #[] #[], .func (.func 75) #[] #[.pointer (some ⟨w.heap.size, 0, none⟩)]] w' fun e w'' => e = .returned (.bool B10) ∧ Below w'.heap.size w' w'' := fun w' hb hm hlt => by
    rw [hB10]
    exact diffR_any (rightB opened) _ rights w' (hgo w' hb).ri w.heap.size (fun w'' => w''.cell? ⟨w.heap.size, 1, none⟩ = some (.int .i64 opened) ∧ w.heap.size < w''.heap.size)
      (fun w'' b => ⟨(b.cell (p := ⟨w.heap.size, 1, none⟩) hlt).trans hm, Nat.lt_of_lt_of_le hlt b.size⟩)
      (fun x w'' hx hp => rightG_any nameOK opened w.heap.size x.1 x.2 w'' ((hgo w' hb).ri.2 x hx) hp.1 hp.2)
  have nl : ∀ w', Below w.heap.size w w' →
      Calls Tryz.prog 76 #[.slice A4 limits.length p4, .func (.func 77) #[] #[], .func (.func 78) #[] #[]] w' fun e w'' => e = .returned (.bool B11) ∧ Below w'.heap.size w' w'' := fun w' hb => by
    rw [hB11]
    exact diffL_any (fun x => limB x.id x.N x.U x.f x.stops) _ limits w' (hgo w' hb).li (fun w'' => Below w'.heap.size w' w'') (fun w'' b => b)
      (fun x w'' hx hp => mproper_any x.id x.N x.U x.f x.sv x.stops w'' ((hgo w' hb).li.2.1 x hx) ((((hgo w' hb).li.2.2 x hx).below hp).more hp.size))
  have hres : formedB ⟨mid, opened, .slice A1 case_.length p1, case_, proc, stage, .slice A2 moved.length p2, moved, .slice A3 rights.length p3, rights, .slice A4 limits.length p4, limits⟩ =
      (nameB mid && (nameB proc && (dayB opened && (decide (0 ≤ stage) && (decide (stage < 60) && ((case_.all fun x => valB x) && (decide (case_.length ≤ 60) && (daysB opened moved && (decide (moved.length ≤ 60) && (B10 && B11)))))))))) := by rw [hB10, hB11]; rfl
  rw [hres]
  obtain ⟨B1, h1⟩ : ∃ B, B = nameB mid := ⟨_, rfl⟩
  obtain ⟨B2, h2⟩ : ∃ B, B = nameB proc := ⟨_, rfl⟩
  obtain ⟨B3, h3⟩ : ∃ B, B = dayB opened := ⟨_, rfl⟩
  obtain ⟨B6, h6⟩ : ∃ B, B = case_.all fun x => valB x := ⟨_, rfl⟩
  obtain ⟨S, hS⟩ : ∃ B, B = sortB moved := ⟨_, rfl⟩
  obtain ⟨B8, h8⟩ : ∃ B, B = daysB opened moved := ⟨_, rfl⟩
  rw [← h1] at n1 ⊢
  rw [← h2] at n2 ⊢
  rw [← h3] at n3 ⊢
  rw [← h6] at n6 ⊢
  rw [← hS] at n8
  rw [← h8]
  have N1 := Lib.hid n1
  have N2 := Lib.hid n2
  have N3 := Lib.hid n3
  have N6 := Lib.hid n6
  have N8 := Lib.hid n8
  have NR := Lib.hid nr
  have NL := Lib.hid nl
  have H8 := Lib.hid h8
  have HS := Lib.hid hS
  have HBOX := Lib.hid hbox
  have HM := Lib.hid h2'
  clear hB10 hB11 hres h1 h2 h3 h6 h8 hS n1 n2 n3 n6 n8 nr nl h hgo hbox w2' h2'
  simp only [Mat.cells] at *
  go_enter Tryz.func30, Tryz.ntmps30
  go_wp2_with fail
  refine (N6.out _ hb0).mono ?_
  rintro e w1 ⟨rfl, b1⟩
  have bw := hb0.trans (b1.mono hb0.size)
  have hm := HBOX.out.below b1 (by simp)
  have hlt : w.heap.size < w1.heap.size := by have := b1.size; simp at this; omega
  have HMB := Lib.hid hm
  obtain ⟨c0, c1, c2, c3, c4, c5, c6, c7⟩ := hm
  simp only at c0 c1 c2 c3 c4 c5 c6 c7
  clear b1 hb0
  go_upto_region 2 with fail
  go_cut [4] (fun s4 wx => s4 = .bool B8 ∧ ∃ q, wx = w1.drewN q)
  case first =>
    cases S with
    | false =>
      have hb8 : B8 = false := by rw [H8.out]; unfold daysB; rw [← HS.out]; rfl
      subst hb8
      go_quiet ((go_at_call 72; refine Calls.quiet_of (N8.out _ (below_drewN bw _))))
      go_wp2_with fail
      go_meet
      exact ⟨rfl, _, rfl⟩
    | true =>
      by_cases hne : moved.length = 0
      · have hb8 : B8 = true := by
          rw [H8.out]; unfold daysB; rw [← HS.out, List.eq_nil_of_length_eq_zero hne]; rfl
        subst hb8
        have g0 : ((moved.length : Int) == 0) = true := by rw [beq_iff_eq]; omega
        clear hne
        go_quiet ((go_at_call 72; refine Calls.quiet_of (N8.out _ (below_drewN bw _))))
        go_wp2_with fail
        go_meet
        exact ⟨rfl, _, rfl⟩
      · rcases HM.out with hnil | ⟨b, off, hA, hB, hcells⟩
        · rw [hnil] at hne; exact absurd rfl hne
        · subst hA
          obtain ⟨p, hp⟩ : ∃ p, moved.length = p + 1 := ⟨moved.length - 1, by omega⟩
          have x0c := (bw.cell (p := ⟨b, off + 0, none⟩) hB).trans (hcells 0 (by omega))
          have xlc := (bw.cell (p := ⟨b, off + p, none⟩) hB).trans (hcells p (by omega))
          simp only [Nat.add_zero] at x0c
          obtain ⟨x0, hx0⟩ : ∃ x, x = moved.getD 0 0 := ⟨_, rfl⟩
          obtain ⟨xl, hxl⟩ : ∃ x, x = moved.getD p 0 := ⟨_, rfl⟩
          rw [← hx0] at x0c
          rw [← hxl] at xlc
          have hb8 : B8 = (decide (opened ≤ x0) && dayB xl) := by
            rw [H8.out]; unfold daysB; rw [← HS.out, show moved.length - 1 = p by omega, ← hx0, ← hxl]
            have : moved.isEmpty = false := by
              cases moved with
              | nil => simp at hp
              | cons y r => rfl
            rw [this]; simp
          have g0 : ((moved.length : Int) == 0) = false := by rw [beq_eq_false_iff_ne]; omega
          have g1 : (moved.length : Int) - 1 = (p : Int) := by omega
          have g2 : (0 : Int) ≤ (p : Int) := by omega
          have g3 : (p : Int) < (moved.length : Int) := by omega
          have g4 : (0 : Int) < (moved.length : Int) := by omega
          have gw : IntKind.i64.wrap (p : Int) = (p : Int) := by simp [IntKind.wrap, IntKind.bits, IntKind.signed]; omega
          have HB8 := Lib.hid hb8
          have HP := Lib.hid hp
          have HCS := Lib.hid hcells
          clear hb8 hp hx0 hxl hcells hne
          by_cases hop : opened ≤ x0
          · have hd : decide (opened ≤ x0) = true := by simpa using hop
            obtain ⟨D, hD⟩ : ∃ D, D = dayB xl := ⟨_, rfl⟩
            have nd : ∀ w, Calls Tryz.prog 53 #[.int .i64 xl] w fun e w' => e = .returned (.bool D) ∧ w' = w := fun w => by
              rw [hD]; exact (mis_any xl w).mono fun e w' ⟨h1, h2⟩ => ⟨h1, h2.symm⟩
            have ND := Lib.hid nd
            have hb8 : B8 = D := by rw [HB8.out, hd, hD]; rfl
            subst hb8
            clear hD nd hop HB8 H8
            go_quiet (first | (go_at_call 72; refine Calls.quiet_of (N8.out _ (below_drewN bw _))) | (go_at_call 53; refine Calls.quiet_of_same (ND.out _)))
            go_wp2_with fail
            go_meet
            exact ⟨rfl, _, rfl⟩
          · have hd : decide (opened ≤ x0) = false := by simpa using hop
            have hb8 : B8 = false := by rw [HB8.out, hd]; rfl
            subst hb8
            clear hop
            go_quiet (first | (go_at_call 72; refine Calls.quiet_of (N8.out _ (below_drewN bw _))))
            go_wp2_with fail
            go_meet
            exact ⟨rfl, _, rfl⟩
  case rest =>
    obtain ⟨rfl, q, rfl⟩ := hcut
    clear c0 c1 c2 c3 c4 c5 c6 c7
    have bq := below_drewN bw q
    have hmq : MBox w.heap.size _ (w1.drewN q) := ⟨HMB.out.c0, HMB.out.c1, HMB.out.c2, HMB.out.c3, HMB.out.c4, HMB.out.c5, HMB.out.c6, HMB.out.c7⟩
    have HMQ := Lib.hid hmq
    have hlq : w.heap.size < (w1.drewN q).heap.size := hlt
    obtain ⟨c0, c1, c2, c3, c4, c5, c6, c7⟩ := hmq
    simp only at c0 c1 c2 c3 c4 c5 c6 c7
    obtain ⟨wq, hwq⟩ : ∃ wq, wq = w1.drewN q := ⟨_, rfl⟩
    rw [← hwq] at c0 c1 c2 c3 c4 c5 c6 c7 bq HMQ hlq ⊢
    clear hwq bw HMB hlt
    go_wp2_with fail
    refine (N1.out _).mono ?_
    rintro e w2 ⟨rfl, b2⟩
    have bw2 := bq.trans (b2.mono bq.size)
    have hl2 := Nat.lt_of_lt_of_le hlq b2.size
    have hm2 := HMQ.out.below b2 hlq
    have HM2 := Lib.hid hm2
    clear c0 c1 c2 c3 c4 c5 c6 c7 b2 bq HMQ hlq
    obtain ⟨c0, c1, c2, c3, c4, c5, c6, c7⟩ := hm2
    simp only at c0 c1 c2 c3 c4 c5 c6 c7
    cases B1 with
    | false =>
      go_wp2
      go_ret
      exact ⟨lret_bool (by simp), bw2⟩
    | true =>
      go_wp2_with fail
      refine (N2.out _).mono ?_
      rintro e w3 ⟨rfl, b3⟩
      have bw3 := bw2.trans (b3.mono bw2.size)
      have hl3 := Nat.lt_of_lt_of_le hl2 b3.size
      have hm3 := HM2.out.below b3 hl2
      have HM3 := Lib.hid hm3
      clear c0 c1 c2 c3 c4 c5 c6 c7 b3 bw2 HM2 hl2
      obtain ⟨c0, c1, c2, c3, c4, c5, c6, c7⟩ := hm3
      simp only at c0 c1 c2 c3 c4 c5 c6 c7
      cases B2 with
      | false =>
        go_wp2
        go_ret
        exact ⟨lret_bool (by simp), bw3⟩
      | true =>
        go_wp2_with fail
        refine (N3.out _).mono ?_
        rintro e w4 ⟨rfl, rfl⟩
        cases B3 with
        | false =>
          go_wp2
          go_ret
          exact ⟨lret_bool (by simp), bw3⟩
        | true =>
          by_cases hs0 : 0 ≤ stage
          · have ds0 : decide (stage < 0) = false := by simp; omega
            by_cases hs1 : stage < 60
            · have ds1 : decide ((60 : Int) ≤ stage) = false := by simp; omega
              cases B6 with
              | false =>
                go_wp2
                go_ret
                exact ⟨lret_bool (by simp), bw3⟩
              | true =>
                by_cases hcl : case_.length ≤ 60
                · have dcl : decide ((60 : Int) < (case_.length : Int)) = false := by simp; omega
                  cases B8 with
                  | false =>
                    go_wp2
                    go_ret
                    exact ⟨lret_bool (by simp), bw3⟩
                  | true =>
                    by_cases hml : moved.length ≤ 60
                    · have dml : decide ((60 : Int) < (moved.length : Int)) = false := by simp; omega
                      go_wp2_with fail
                      refine (NR.out _ bw3 HM3.out.c1 hl3).mono ?_
                      rintro e w5 ⟨rfl, b5⟩
                      have bw5 := bw3.trans (b5.mono bw3.size)
                      have hm5 := HM3.out.below b5 hl3
                      have c7' := hm5.c7
                      clear b5 hm5
                      simp only at c7'
                      cases B10 with
                      | false =>
                        go_wp2
                        go_ret
                        exact ⟨lret_bool (by simp), bw5⟩
                      | true =>
                        go_wp2_with fail
                        refine (NL.out _ bw5).mono ?_
                        rintro e w6 ⟨rfl, b6⟩
                        have bw6 := bw5.trans (b6.mono bw5.size)
                        go_wp2
                        go_ret
                        exact ⟨lret_bool (by simp [hs0, hs1, hcl, hml]), bw6⟩
                    · have dml : decide ((60 : Int) < (moved.length : Int)) = true := by simp; omega
                      go_wp2
                      go_ret
                      exact ⟨lret_bool (by rw [show decide (moved.length ≤ 60) = false from decide_eq_false hml]; simp), bw3⟩
                · have dcl : decide ((60 : Int) < (case_.length : Int)) = true := by simp; omega
                  go_wp2
                  go_ret
                  exact ⟨lret_bool (by rw [show decide (case_.length ≤ 60) = false from decide_eq_false hcl]; simp), bw3⟩
            · have ds1 : decide ((60 : Int) ≤ stage) = true := by simp; omega
              go_wp2
              go_ret
              exact ⟨lret_bool (by rw [show decide (stage < 60) = false from decide_eq_false (by omega)]; simp), bw3⟩
          · have ds0 : decide (stage < 0) = true := by simp; omega
            go_wp2
            go_ret
            exact ⟨lret_bool (by rw [show decide (0 ≤ stage) = false from decide_eq_false (by omega)]; simp), bw3⟩
end Go.Proofs.YtficjcomefaocaaGreatDoor
