/- WALK of the laws' head: it answers true. -/
import Derived.Test.YtficjcomefaocaaGreatDoorLawBase
namespace Go.Proofs.YtficjcomefaocaaGreatDoor
open Go.RowKit Go.Maps
open Lexer

theorem head_mv1 {w : World} {cv mv rv sv pv : Value} (h : MR w w.heap.size (exM cv 0 mv [] rv [])) (hp : PR w w.heap.size (exP sv pv)) : Calls Tryz.prog 19 #[.agg (exM cv 0 mv [] rv []).cells, .agg (exP sv pv).cells, .int .i64 1, .int .i64 7] w fun e w' =>
    ∃ A c, e = .returned (.tuple #[.agg (exM cv 1 (.slice A 1 c) [7] rv []).cells, .int .i64 0]) ∧ MR w' w'.heap.size (exM cv 1 (.slice A 1 c) [7] rv []) ∧ Below w.heap.size w w' ∧ Fresh w.heap.size (.slice A 1 c) := by
  refine (move_any _ _ 1 7 w h hp).mono ?_
  rintro e w' ⟨v, rfl, h1, h2, h3⟩
  rw [(ex1 cv mv rv sv pv v).1, (ex1 cv mv rv sv pv v).2]
  rw [(ex1 cv mv rv sv pv v).2] at h1
  obtain ⟨A, c, hv, _⟩ := id h1.mo
  have hv' : v = .slice A 1 c := hv
  subst hv'
  exact ⟨A, c, rfl, h1, h2, h3⟩
theorem head_mv2 {w : World} {cv mv rv sv pv : Value} (h : MR w w.heap.size (exM cv 1 mv [7] rv [])) (hp : PR w w.heap.size (exP sv pv)) : Calls Tryz.prog 19 #[.agg (exM cv 1 mv [7] rv []).cells, .agg (exP sv pv).cells, .int .i64 2, .int .i64 6] w fun e w' =>
    e = .returned (.tuple #[.agg zeroM.cells, .int .i64 24]) ∧ Below w.heap.size w w' := by
  refine (move_any _ _ 2 6 w h hp).mono ?_
  rintro e w' ⟨v, rfl, h1, h2, _⟩
  rw [(ex2 cv mv rv sv pv v).1, (ex2 cv mv rv sv pv v).2]
  exact ⟨rfl, h2⟩
theorem head_mv3 {w : World} {cv mv rv sv pv : Value} (h : MR w w.heap.size (exM cv 0 mv [] rv [])) (hp : PR w w.heap.size (exP sv pv)) : Calls Tryz.prog 19 #[.agg (exM cv 0 mv [] rv []).cells, .agg (exP sv pv).cells, .int .i64 2, .int .i64 7] w fun e w' =>
    e = .returned (.tuple #[.agg zeroM.cells, .int .i64 12]) ∧ Below w.heap.size w w' := by
  refine (move_any _ _ 2 7 w h hp).mono ?_
  rintro e w' ⟨v, rfl, h1, h2, _⟩
  rw [(ex3 cv mv rv sv pv v).1, (ex3 cv mv rv sv pv v).2]
  exact ⟨rfl, h2⟩
theorem head_mv4 {w : World} {cv mv rv sv pv : Value} (h : MR w w.heap.size (exM cv 0 mv [] rv [])) (hp : PR w w.heap.size (exP sv pv)) : Calls Tryz.prog 19 #[.agg (exM cv 0 mv [] rv []).cells, .agg (exP sv pv).cells, .int .i64 3, .int .i64 7] w fun e w' =>
    e = .returned (.tuple #[.agg zeroM.cells, .int .i64 11]) ∧ Below w.heap.size w w' := by
  refine (move_any _ _ 3 7 w h hp).mono ?_
  rintro e w' ⟨v, rfl, h1, h2, _⟩
  rw [(ex4 cv mv rv sv pv v).1, (ex4 cv mv rv sv pv v).2]
  exact ⟨rfl, h2⟩
theorem head_gr5 {w : World} {cv mv rv : Value} (h : MR w w.heap.size (exM cv 1 mv [7] rv [])) : Calls Tryz.prog 17 #[.agg (exM cv 1 mv [7] rv []).cells, .string bAppeal, .int .i64 7] w fun e w' =>
    ∃ A c, e = .returned (.tuple #[.agg (exM cv 1 mv [7] (.slice A 1 c) [(bAppeal, 7)]).cells, .int .i64 0]) ∧ MR w' w'.heap.size (exM cv 1 mv [7] (.slice A 1 c) [(bAppeal, 7)]) ∧ Below w.heap.size w w' := by
  refine (grant_any _ bAppeal 7 w h (by decide)).mono ?_
  rintro e w' ⟨v, rfl, h1, h2, _⟩
  rw [(ex5 cv mv rv v).1, (ex5 cv mv rv v).2]
  rw [(ex5 cv mv rv v).2] at h1
  obtain ⟨⟨A, c, hv, _⟩, _⟩ := id h1.ri
  have hv' : v = .slice A 1 c := hv
  subst hv'
  exact ⟨A, c, rfl, h1, h2⟩
theorem head_gr6 {w : World} {cv mv rv : Value} (h : MR w w.heap.size (exM cv 1 mv [7] rv [(bAppeal, 7)])) : Calls Tryz.prog 17 #[.agg (exM cv 1 mv [7] rv [(bAppeal, 7)]).cells, .string bAppeal, .int .i64 8] w fun e w' =>
    e = .returned (.tuple #[.agg zeroM.cells, .int .i64 9]) ∧ Below w.heap.size w w' := by
  refine (grant_any _ bAppeal 8 w h (by decide)).mono ?_
  rintro e w' ⟨v, rfl, h1, h2, _⟩
  rw [(ex6 cv mv rv v).1, (ex6 cv mv rv v).2]
  exact ⟨rfl, h2⟩
theorem head_tx {w : World} {cv mv rv : Value} (h : MR w w.heap.size (exM cv 1 mv [7] rv [(bAppeal, 7)])) (hE : Env w.heap.size w) : Calls Tryz.prog 11 #[.agg (exM cv 1 mv [7] rv [(bAppeal, 7)]).cells] w fun e w' =>
    e = .returned (.tuple #[.string exT, .int .i64 0]) ∧ Below w.heap.size w w' := by
  refine (text_yes _ w h (exM_formed _ _ _ _ _ _ (.inr (.inr ⟨rfl, rfl, rfl⟩))) hE).mono ?_
  rintro e w' ⟨rfl, h2⟩
  rw [ex7]
  exact ⟨rfl, h2⟩
theorem mat_form {w : World} {m : Mat} (h : MR w w.heap.size m) : ∃ A1 c1 A2 c2 A3 c3 A4 c4, m.cv = .slice A1 m.case_.length c1 ∧ m.mv = .slice A2 m.moved.length c2 ∧ m.rv = .slice A3 m.rights.length c3 ∧ m.lv = .slice A4 m.limits.length c4 := by
  obtain ⟨A1, p1, e1, _⟩ := h.cs
  obtain ⟨A2, p2, e2, _⟩ := h.mo
  obtain ⟨⟨A3, p3, e3, _⟩, _⟩ := h.ri
  obtain ⟨⟨A4, p4, e4, _⟩, _⟩ := h.li
  exact ⟨A1, p1, A2, p2, A3, p3, A4, p4, e1, e2, e3, e4⟩
theorem head_pa {w : World} {cv mv rv : Value} (hE : Env w.heap.size w) : Calls Tryz.prog 13 #[.string exT] w fun e w' =>
    ∃ m : Mat, e = .returned (.tuple #[.agg m.cells, .int .i64 0]) ∧ MR w' w'.heap.size m ∧ sameB m (exM cv 1 mv [7] rv [(bAppeal, 7)]) = true ∧ Below w.heap.size w w' := by
  have hF := exM_formed cv mv rv 1 [7] [(bAppeal, 7)] (.inr (.inr ⟨rfl, rfl, rfl⟩))
  have ht : exT.data.toList = textL (exM cv 1 mv [7] rv [(bAppeal, 7)]) := by rw [← ex7 cv mv rv]
  have hl := loose_text (formed_fm hF) ht
  have hok : okP exT := (okP_iff exT).2 ⟨_, hF, ht.symm⟩
  refine (parse_any exT w (by decide) hE).mono ?_
  rintro e w' ⟨⟨m, _, h1, rfl, h2⟩ | ⟨h1, _⟩, hb⟩
  · refine ⟨m, rfl, h2, ?_, hb⟩
    unfold sameB
    rw [hl] at h1
    simpa using h1
  · exact absurd hok h1
theorem head_put {W w4 : World} {B : Nat} {cv : Value} {A5 : Option Addr} {c5 : Nat} (hz4 : w4.heap[B]? = some (.cells zeroM.cells 27 (0, 0))) (hm : MR W W.heap.size (exM cv 0 (.slice none 0 0) [] (.slice none 0 0) [])) (b4 : Below W.heap.size W w4) (hB : W.heap.size ≤ B)
    (hr : RI w4 w4.heap.size (.slice A5 1 c5) [7]) (hf : Fresh (B + 1) (.slice A5 1 c5)) :
    Held (eightW w4 B (.string ⟨#[109, 49]⟩) (.int .i64 5) cv (.string ⟨#[111, 108, 100]⟩) (.int .i64 1) (.slice A5 1 c5) (.slice none 0 0) (.slice none 0 0)) B (exM cv 1 (.slice A5 1 c5) [7] (.slice none 0 0) []) ∧
    Below W.heap.size W (eightW w4 B (.string ⟨#[109, 49]⟩) (.int .i64 5) cv (.string ⟨#[111, 108, 100]⟩) (.int .i64 1) (.slice A5 1 c5) (.slice none 0 0) (.slice none 0 0)) := by
  have h5 := eight_blk w4 B (.string ⟨#[109, 49]⟩) (.int .i64 5) cv (.string ⟨#[111, 108, 100]⟩) (.int .i64 1) (.slice A5 1 c5) (.slice none 0 0) (.slice none 0 0)
  have hb5 := eight_below (Below.refl W.heap.size w4) B hB (.string ⟨#[109, 49]⟩) (.int .i64 5) cv (.string ⟨#[111, 108, 100]⟩) (.int .i64 1) (.slice A5 1 c5) (.slice none 0 0) (.slice none 0 0)
  have hh := eight_heap hz4 (.string ⟨#[109, 49]⟩) (.int .i64 5) cv (.string ⟨#[111, 108, 100]⟩) (.int .i64 1) (.slice A5 1 c5) (.slice none 0 0) (.slice none 0 0)
  have hmr := MR.moved (s := 1) hm b4 b4.size hr hf h5 hb5
  exact ⟨Held.of (m := exM cv 1 (.slice A5 1 c5) [7] (.slice none 0 0) []) hh hmr, b4.trans hb5⟩

set_option maxHeartbeats 16000000 in
set_option maxRecDepth 100000 in
theorem head_any (w : World) (hE : Env w.heap.size w) :
    Calls Tryz.prog 9 #[] w fun e w' => e = .returned (.bool true) ∧ Below w.heap.size w w' := by
  have hmr0 : MR (w.alloc (.cells #[.int .i64 20, .int .i64 0] 3)) (w.alloc (.cells #[.int .i64 20, .int .i64 0] 3)).heap.size (exM (.slice (some ⟨w.heap.size, 0, none⟩) 2 2) 0 (.slice none 0 0) [] (.slice none 0 0) []) := by
    refine ⟨⟨_, _, rfl, by show 2 * 8 ≤ 140737488355328; decide, by show ∀ x ∈ [(20 : Int), 0], (Lit.int .i64 x).wf = true; decide, .inr ⟨_, 0, rfl, by simp, fun k hk => ?_⟩⟩, ⟨none, 0, rfl, by show 0 * 8 ≤ 140737488355328; decide, by simp [exM], .inl rfl⟩, ⟨rg_nil _ _ _ _ _ _, by simp [exM]⟩, ⟨rg_nil _ _ _ _ _ _, by simp [exM], by simp [exM]⟩, by show bM1.size ≤ 140737488355328; decide, by show bOld.size ≤ 140737488355328; decide⟩
    rcases (show k = 0 ∨ k = 1 by simp only [exM, List.length_cons, List.length_nil] at hk; omega) with rfl | rfl <;> simp [go_sem, exM]
  have hh0 := Held.new hmr0
  rw [World.size_alloc] at hh0
  have hb0 : Below w.heap.size w ((w.alloc (.cells #[.int .i64 20, .int .i64 0] 3)).alloc (.cells #[.string ⟨#[109, 49]⟩, .int .i64 5, .slice (some ⟨w.heap.size, 0, none⟩) 2 2, .string ⟨#[111, 108, 100]⟩, .int .i64 0, .slice none 0 0, .slice none 0 0, .slice none 0 0] 27)) := ((Below.refl _ _).alloc (Nat.le_refl _) _).alloc (by simp) _
  have HE := Lib.hid hE
  clear hmr0 hE
  go_enter Tryz.func9, Tryz.ntmps9
  go_upto_region 2 with fail
  obtain ⟨W, hW⟩ : ∃ W, W = (w.alloc (.cells #[.int .i64 20, .int .i64 0] 3)).alloc (.cells #[.string ⟨#[109, 49]⟩, .int .i64 5, .slice (some ⟨w.heap.size, 0, none⟩) 2 2, .string ⟨#[111, 108, 100]⟩, .int .i64 0, .slice none 0 0, .slice none 0 0, .slice none 0 0] 27) := ⟨_, rfl⟩
  have hh1 : Held W (w.heap.size + 1) (exM (.slice (some ⟨w.heap.size, 0, none⟩) 2 2) 0 (.slice none 0 0) [] (.slice none 0 0) []) := by rw [hW]; exact hh0
  have hb1 : Below w.heap.size w W := by rw [hW]; exact hb0
  rw [← hW]
  clear hh0 hb0 hW
  have H1 := Lib.hid hh1
  have BW := Lib.hid hb1
  clear hh1 hb1
  have hs : ∀ w', Below W.heap.size W w' → w'.cell? ⟨w.heap.size + 1, 0, none⟩ = some (.string ⟨#[109, 49]⟩) ∧ w'.cell? ⟨w.heap.size + 1, 1, none⟩ = some (.int .i64 5) ∧ w'.cell? ⟨w.heap.size + 1, 2, none⟩ = some (.slice (some ⟨w.heap.size, 0, none⟩) 2 2) ∧ w'.cell? ⟨w.heap.size + 1, 3, none⟩ = some (.string ⟨#[111, 108, 100]⟩) ∧ w'.cell? ⟨w.heap.size + 1, 4, none⟩ = some (.int .i64 0) ∧ w'.cell? ⟨w.heap.size + 1, 5, none⟩ = some (.slice none 0 0) ∧ w'.cell? ⟨w.heap.size + 1, 6, none⟩ = some (.slice none 0 0) ∧ w'.cell? ⟨w.heap.size + 1, 7, none⟩ = some (.slice none 0 0) := fun w' hb => ⟨(H1.out.go hb).box.c0, (H1.out.go hb).box.c1, (H1.out.go hb).box.c2, (H1.out.go hb).box.c3, (H1.out.go hb).box.c4, (H1.out.go hb).box.c5, (H1.out.go hb).box.c6, (H1.out.go hb).box.c7⟩
  have HS := Lib.hid hs
  obtain ⟨z0, z1, z2, z3, z4, z5, z6, z7⟩ := hs _ (Below.refl _ _)
  clear hs
  go_cut [2, 3] (fun s2 s3 wx => ∃ A5 c5 B, s2 = .pointer (some ⟨B, 0, none⟩) ∧ s3 = .int .i64 0 ∧ Held wx B (exM (.slice (some ⟨w.heap.size, 0, none⟩) 2 2) 1 (.slice A5 1 c5) [7] (.slice none 0 0) []) ∧ Below W.heap.size W wx)
  case first =>
    go_region_held3 (fun w' => w'.cell? ⟨w.heap.size + 1, 0, none⟩ = some (.string ⟨#[109, 49]⟩) ∧ w'.cell? ⟨w.heap.size + 1, 1, none⟩ = some (.int .i64 5) ∧ w'.cell? ⟨w.heap.size + 1, 2, none⟩ = some (.slice (some ⟨w.heap.size, 0, none⟩) 2 2) ∧ w'.cell? ⟨w.heap.size + 1, 3, none⟩ = some (.string ⟨#[111, 108, 100]⟩) ∧ w'.cell? ⟨w.heap.size + 1, 4, none⟩ = some (.int .i64 0) ∧ w'.cell? ⟨w.heap.size + 1, 5, none⟩ = some (.slice none 0 0) ∧ w'.cell? ⟨w.heap.size + 1, 6, none⟩ = some (.slice none 0 0) ∧ w'.cell? ⟨w.heap.size + 1, 7, none⟩ = some (.slice none 0 0))
      ((refine HS.out _ ?_; first
        | with_reducible exact b4'
        | with_reducible exact b4'.alloc b4'.size _
        | with_reducible exact eight_below b4' W.heap.size (Nat.le_refl _) _ _ _ _ _ _ _ _
        | with_reducible exact eight_below b4' w3.heap.size b3'.size _ _ _ _ _ _ _ _
        | with_reducible exact b3'
        | with_reducible exact b3'.alloc b3'.size _
        | with_reducible exact (Below.refl _ _).drew
        | with_reducible exact ((Below.refl _ _).alloc (Nat.le_refl _) _).drew
        | (fail)))
      (first
        | (go_at_call 29; refine (procedure_any W.drew).mono ?_; rintro e w3 ⟨pA, pa, pB, pb, rfl, hpr, b3⟩; have b3' : Below W.heap.size W w3 := (Below.refl _ _).drew.trans b3; have hm3 := (H1.out.go b3').mr; dsimp only)
        | (go_at_call 29; refine (procedure_any (W.alloc (.cells #[.string ⟨#[]⟩, .int .i64 0, .slice none 0 0, .string ⟨#[]⟩, .int .i64 0, .slice none 0 0, .slice none 0 0, .slice none 0 0] 27)).drew).mono ?_; rintro e w3 ⟨pA, pa, pB, pb, rfl, hpr, b3⟩; have b3' : Below W.heap.size W w3 := ((Below.refl _ _).alloc (Nat.le_refl _) _).drew.trans (b3.mono (by simp)); have hm3 := (H1.out.go b3').mr; have hz3 : w3.heap[W.heap.size]? = some (.cells zeroM.cells 27) := (b3.block _ (by simp)).trans (Go.heap_alloc_new _ _); dsimp only)
        | (go_at_call 19; refine (head_mv1 (w := w3) hm3 hpr).mono ?_; rintro e w4 ⟨A5, c5, rfl, hmr4, b4, hf4⟩; have hz4 : w4.heap[W.heap.size]? = some (.cells zeroM.cells 27) := (b4.block _ (Array.getElem?_eq_some_iff.1 hz3).1).trans hz3; have b4' : Below W.heap.size W w4 := b3'.trans (b4.mono b3'.size); obtain ⟨⟨y0, y1, y2, y3, y4, y5, y6, y7⟩, x0, x1, x2, x3, x4, x5, x6, x7⟩ := zero8 hz4; have tag1 : True := trivial; dsimp only [exM, Mat.cells, zeroM, bM1, bOld, bAppeal])
        | (go_at_call 19; refine (head_mv1 (w := w3) hm3 hpr).mono ?_; rintro e w4 ⟨A5, c5, rfl, hmr4, b4, hf4⟩; have b4' : Below W.heap.size W w4 := b3'.trans (b4.mono b3'.size); have tag3 : True := trivial; dsimp only [exM, Mat.cells, zeroM, bM1, bOld, bAppeal])
        | (go_at_call 19; refine (head_mv1 (w := w3.alloc (.cells #[.string ⟨#[]⟩, .int .i64 0, .slice none 0 0, .string ⟨#[]⟩, .int .i64 0, .slice none 0 0, .slice none 0 0, .slice none 0 0] 27)) (hm3.go ((Below.refl _ _).alloc (Nat.le_refl _) _)) (hpr.go ((Below.refl _ _).alloc (Nat.le_refl _) _))).mono ?_; rintro e w4 ⟨A5, c5, rfl, hmr4, b4, hf4⟩; have hz4 : w4.heap[w3.heap.size]? = some (.cells zeroM.cells 27) := (b4.block _ (by simp)).trans (Go.heap_alloc_new _ _); have b4' : Below W.heap.size W w4 := (b3'.alloc b3'.size _).trans (b4.mono (Nat.le_trans b3'.size (le_alloc _ _))); obtain ⟨⟨y0, y1, y2, y3, y4, y5, y6, y7⟩, x0, x1, x2, x3, x4, x5, x6, x7⟩ := zero8 hz4; have tag2 : True := trivial; dsimp only [exM, Mat.cells, zeroM, bM1, bOld, bAppeal])
        | fail)
    all_goals
      go_wp2_with fail
      go_meet
      first
      | (have := tag3; exact ⟨A5, c5, w4.heap.size, rfl, rfl, Held.new hmr4, b4'.alloc b4'.size _⟩)
      | (have := tag1; obtain ⟨h1, h2⟩ := head_put hz4 H1.out.mr b4' (Nat.le_refl _) hmr4.mo (fun k hk => Nat.le_trans (Array.getElem?_eq_some_iff.1 hz3).1 (hf4 k hk)); exact ⟨A5, c5, W.heap.size, rfl, rfl, h1, h2⟩)
      | (have := tag2; obtain ⟨h1, h2⟩ := head_put hz4 H1.out.mr b4' b3'.size hmr4.mo (fun k hk => Nat.le_trans (by simp) (hf4 k hk)); exact ⟨A5, c5, w3.heap.size, rfl, rfl, h1, h2⟩)
  case rest =>
    obtain ⟨A5, c5, B2, rfl, rfl, h2, b2⟩ := hcut
    obtain ⟨W2, rfl⟩ : ∃ x, x = wc := ⟨wc, rfl⟩
    have H2 := Lib.hid h2
    have hm2 := H1.out.go b2
    have bw2 := BW.out.trans (b2.mono BW.out.size)
    have H12 := Lib.hid hm2
    have BW2 := Lib.hid bw2
    clear h2 hm2 bw2 b2 z0 z1 z2 z3 z4 z5 z6 z7 HS
    go_upto_region 3 with fail
    have hs : ∀ w', Below W2.heap.size W2 w' → w'.cell? ⟨B2, 0, none⟩ = some (.string ⟨#[109, 49]⟩) ∧ w'.cell? ⟨B2, 1, none⟩ = some (.int .i64 5) ∧ w'.cell? ⟨B2, 2, none⟩ = some (.slice (some ⟨w.heap.size, 0, none⟩) 2 2) ∧ w'.cell? ⟨B2, 3, none⟩ = some (.string ⟨#[111, 108, 100]⟩) ∧ w'.cell? ⟨B2, 4, none⟩ = some (.int .i64 1) ∧ w'.cell? ⟨B2, 5, none⟩ = some (.slice A5 1 c5) ∧ w'.cell? ⟨B2, 6, none⟩ = some (.slice none 0 0) ∧ w'.cell? ⟨B2, 7, none⟩ = some (.slice none 0 0) := fun w' hb => ⟨(H2.out.go hb).box.c0, (H2.out.go hb).box.c1, (H2.out.go hb).box.c2, (H2.out.go hb).box.c3, (H2.out.go hb).box.c4, (H2.out.go hb).box.c5, (H2.out.go hb).box.c6, (H2.out.go hb).box.c7⟩
    have HS := Lib.hid hs
    obtain ⟨z0, z1, z2, z3, z4, z5, z6, z7⟩ := hs _ (Below.refl _ _)
    clear hs
    go_cut [4, 5] (fun s4 s5 wx => ∃ B, s4 = .pointer (some ⟨B, 0, none⟩) ∧ s5 = .int .i64 24 ∧ Below W2.heap.size W2 wx)
    case first =>
      go_region_held3 (fun w' => w'.cell? ⟨B2, 0, none⟩ = some (.string ⟨#[109, 49]⟩) ∧ w'.cell? ⟨B2, 1, none⟩ = some (.int .i64 5) ∧ w'.cell? ⟨B2, 2, none⟩ = some (.slice (some ⟨w.heap.size, 0, none⟩) 2 2) ∧ w'.cell? ⟨B2, 3, none⟩ = some (.string ⟨#[111, 108, 100]⟩) ∧ w'.cell? ⟨B2, 4, none⟩ = some (.int .i64 1) ∧ w'.cell? ⟨B2, 5, none⟩ = some (.slice A5 1 c5) ∧ w'.cell? ⟨B2, 6, none⟩ = some (.slice none 0 0) ∧ w'.cell? ⟨B2, 7, none⟩ = some (.slice none 0 0))
        ((refine HS.out _ ?_; first
          | with_reducible exact b4'
          | with_reducible exact b4'.alloc b4'.size _
          | with_reducible exact eight_below b4' W2.heap.size (Nat.le_refl _) _ _ _ _ _ _ _ _
          | with_reducible exact eight_below b4' w3.heap.size b3'.size _ _ _ _ _ _ _ _
          | with_reducible exact b3'
          | with_reducible exact b3'.alloc b3'.size _
          | with_reducible exact (Below.refl _ _).drew
          | with_reducible exact ((Below.refl _ _).alloc (Nat.le_refl _) _).drew
          | (fail)))
        (first
          | (go_at_call 29; refine (procedure_any W2.drew).mono ?_; rintro e w3 ⟨pA, pa, pB, pb, rfl, hpr, b3⟩; have b3' : Below W2.heap.size W2 w3 := (Below.refl _ _).drew.trans b3; have hm3 := (H2.out.go b3').mr; dsimp only)
          | (go_at_call 29; refine (procedure_any (W2.alloc (.cells #[.string ⟨#[]⟩, .int .i64 0, .slice none 0 0, .string ⟨#[]⟩, .int .i64 0, .slice none 0 0, .slice none 0 0, .slice none 0 0] 27)).drew).mono ?_; rintro e w3 ⟨pA, pa, pB, pb, rfl, hpr, b3⟩; have b3' : Below W2.heap.size W2 w3 := ((Below.refl _ _).alloc (Nat.le_refl _) _).drew.trans (b3.mono (by simp)); have hm3 := (H2.out.go b3').mr; have hz3 : w3.heap[W2.heap.size]? = some (.cells zeroM.cells 27) := (b3.block _ (by simp)).trans (Go.heap_alloc_new _ _); dsimp only)
          | (go_at_call 19; refine (head_mv2 (w := w3) hm3 hpr).mono ?_; rintro e w4 ⟨rfl, b4⟩; have hz4 : w4.heap[W2.heap.size]? = some (.cells zeroM.cells 27) := (b4.block _ (Array.getElem?_eq_some_iff.1 hz3).1).trans hz3; have b4' : Below W2.heap.size W2 w4 := b3'.trans (b4.mono b3'.size); obtain ⟨⟨y0, y1, y2, y3, y4, y5, y6, y7⟩, x0, x1, x2, x3, x4, x5, x6, x7⟩ := zero8 hz4; have tag1 : True := trivial; dsimp only [exM, Mat.cells, zeroM, bM1, bOld, bAppeal])
          | (go_at_call 19; refine (head_mv2 (w := w3) hm3 hpr).mono ?_; rintro e w4 ⟨rfl, b4⟩; have b4' : Below W2.heap.size W2 w4 := b3'.trans (b4.mono b3'.size); have tag3 : True := trivial; dsimp only [exM, Mat.cells, zeroM, bM1, bOld, bAppeal])
          | (go_at_call 19; refine (head_mv2 (w := w3.alloc (.cells #[.string ⟨#[]⟩, .int .i64 0, .slice none 0 0, .string ⟨#[]⟩, .int .i64 0, .slice none 0 0, .slice none 0 0, .slice none 0 0] 27)) (hm3.go ((Below.refl _ _).alloc (Nat.le_refl _) _)) (hpr.go ((Below.refl _ _).alloc (Nat.le_refl _) _))).mono ?_; rintro e w4 ⟨rfl, b4⟩; have hz4 : w4.heap[w3.heap.size]? = some (.cells zeroM.cells 27) := (b4.block _ (by simp)).trans (Go.heap_alloc_new _ _); have b4' : Below W2.heap.size W2 w4 := (b3'.alloc b3'.size _).trans (b4.mono (Nat.le_trans b3'.size (le_alloc _ _))); obtain ⟨⟨y0, y1, y2, y3, y4, y5, y6, y7⟩, x0, x1, x2, x3, x4, x5, x6, x7⟩ := zero8 hz4; have tag2 : True := trivial; dsimp only [exM, Mat.cells, zeroM, bM1, bOld, bAppeal])
          | fail)
      all_goals
        go_wp2_with fail
        go_meet
        first
        | (have := tag3; exact ⟨_, rfl, rfl, b4'.alloc b4'.size _⟩)
        | (have := tag1; exact ⟨_, rfl, rfl, eight_below b4' W2.heap.size (Nat.le_refl _) _ _ _ _ _ _ _ _⟩)
        | (have := tag2; exact ⟨_, rfl, rfl, eight_below b4' w3.heap.size b3'.size _ _ _ _ _ _ _ _⟩)
    case rest =>
      obtain ⟨B3, rfl, rfl, b2⟩ := hcut
      obtain ⟨W3, rfl⟩ : ∃ x, x = wc := ⟨wc, rfl⟩
      have ha := H2.out.go b2
      have hm := H12.out.go b2
      have bw2 := BW2.out.trans (b2.mono BW2.out.size)
      have H23 := Lib.hid ha
      have H13 := Lib.hid hm
      have BW3 := Lib.hid bw2
      clear ha hm bw2 b2 z0 z1 z2 z3 z4 z5 z6 z7 HS
      go_upto_region 4 with fail
      have hs : ∀ w', Below W3.heap.size W3 w' → w'.cell? ⟨w.heap.size + 1, 0, none⟩ = some (.string ⟨#[109, 49]⟩) ∧ w'.cell? ⟨w.heap.size + 1, 1, none⟩ = some (.int .i64 5) ∧ w'.cell? ⟨w.heap.size + 1, 2, none⟩ = some (.slice (some ⟨w.heap.size, 0, none⟩) 2 2) ∧ w'.cell? ⟨w.heap.size + 1, 3, none⟩ = some (.string ⟨#[111, 108, 100]⟩) ∧ w'.cell? ⟨w.heap.size + 1, 4, none⟩ = some (.int .i64 0) ∧ w'.cell? ⟨w.heap.size + 1, 5, none⟩ = some (.slice none 0 0) ∧ w'.cell? ⟨w.heap.size + 1, 6, none⟩ = some (.slice none 0 0) ∧ w'.cell? ⟨w.heap.size + 1, 7, none⟩ = some (.slice none 0 0) := fun w' hb => ⟨(H13.out.go hb).box.c0, (H13.out.go hb).box.c1, (H13.out.go hb).box.c2, (H13.out.go hb).box.c3, (H13.out.go hb).box.c4, (H13.out.go hb).box.c5, (H13.out.go hb).box.c6, (H13.out.go hb).box.c7⟩
      have HS := Lib.hid hs
      obtain ⟨z0, z1, z2, z3, z4, z5, z6, z7⟩ := hs _ (Below.refl _ _)
      clear hs
      go_cut [6, 7] (fun s6 s7 wx => ∃ B, s6 = .pointer (some ⟨B, 0, none⟩) ∧ s7 = .int .i64 12 ∧ Below W3.heap.size W3 wx)
      case first =>
        go_region_held3 (fun w' => w'.cell? ⟨w.heap.size + 1, 0, none⟩ = some (.string ⟨#[109, 49]⟩) ∧ w'.cell? ⟨w.heap.size + 1, 1, none⟩ = some (.int .i64 5) ∧ w'.cell? ⟨w.heap.size + 1, 2, none⟩ = some (.slice (some ⟨w.heap.size, 0, none⟩) 2 2) ∧ w'.cell? ⟨w.heap.size + 1, 3, none⟩ = some (.string ⟨#[111, 108, 100]⟩) ∧ w'.cell? ⟨w.heap.size + 1, 4, none⟩ = some (.int .i64 0) ∧ w'.cell? ⟨w.heap.size + 1, 5, none⟩ = some (.slice none 0 0) ∧ w'.cell? ⟨w.heap.size + 1, 6, none⟩ = some (.slice none 0 0) ∧ w'.cell? ⟨w.heap.size + 1, 7, none⟩ = some (.slice none 0 0))
          ((refine HS.out _ ?_; first
            | with_reducible exact b4'
            | with_reducible exact b4'.alloc b4'.size _
            | with_reducible exact eight_below b4' W3.heap.size (Nat.le_refl _) _ _ _ _ _ _ _ _
            | with_reducible exact eight_below b4' w3.heap.size b3'.size _ _ _ _ _ _ _ _
            | with_reducible exact b3'
            | with_reducible exact b3'.alloc b3'.size _
            | with_reducible exact (Below.refl _ _).drew
            | with_reducible exact ((Below.refl _ _).alloc (Nat.le_refl _) _).drew
            | (fail)))
          (first
            | (go_at_call 29; refine (procedure_any W3.drew).mono ?_; rintro e w3 ⟨pA, pa, pB, pb, rfl, hpr, b3⟩; have b3' : Below W3.heap.size W3 w3 := (Below.refl _ _).drew.trans b3; have hm3 := (H13.out.go b3').mr; dsimp only)
            | (go_at_call 29; refine (procedure_any (W3.alloc (.cells #[.string ⟨#[]⟩, .int .i64 0, .slice none 0 0, .string ⟨#[]⟩, .int .i64 0, .slice none 0 0, .slice none 0 0, .slice none 0 0] 27)).drew).mono ?_; rintro e w3 ⟨pA, pa, pB, pb, rfl, hpr, b3⟩; have b3' : Below W3.heap.size W3 w3 := ((Below.refl _ _).alloc (Nat.le_refl _) _).drew.trans (b3.mono (by simp)); have hm3 := (H13.out.go b3').mr; have hz3 : w3.heap[W3.heap.size]? = some (.cells zeroM.cells 27) := (b3.block _ (by simp)).trans (Go.heap_alloc_new _ _); dsimp only)
            | (go_at_call 19; refine (head_mv3 (w := w3) hm3 hpr).mono ?_; rintro e w4 ⟨rfl, b4⟩; have hz4 : w4.heap[W3.heap.size]? = some (.cells zeroM.cells 27) := (b4.block _ (Array.getElem?_eq_some_iff.1 hz3).1).trans hz3; have b4' : Below W3.heap.size W3 w4 := b3'.trans (b4.mono b3'.size); obtain ⟨⟨y0, y1, y2, y3, y4, y5, y6, y7⟩, x0, x1, x2, x3, x4, x5, x6, x7⟩ := zero8 hz4; have tag1 : True := trivial; dsimp only [exM, Mat.cells, zeroM, bM1, bOld, bAppeal])
            | (go_at_call 19; refine (head_mv3 (w := w3) hm3 hpr).mono ?_; rintro e w4 ⟨rfl, b4⟩; have b4' : Below W3.heap.size W3 w4 := b3'.trans (b4.mono b3'.size); have tag3 : True := trivial; dsimp only [exM, Mat.cells, zeroM, bM1, bOld, bAppeal])
            | (go_at_call 19; refine (head_mv3 (w := w3.alloc (.cells #[.string ⟨#[]⟩, .int .i64 0, .slice none 0 0, .string ⟨#[]⟩, .int .i64 0, .slice none 0 0, .slice none 0 0, .slice none 0 0] 27)) (hm3.go ((Below.refl _ _).alloc (Nat.le_refl _) _)) (hpr.go ((Below.refl _ _).alloc (Nat.le_refl _) _))).mono ?_; rintro e w4 ⟨rfl, b4⟩; have hz4 : w4.heap[w3.heap.size]? = some (.cells zeroM.cells 27) := (b4.block _ (by simp)).trans (Go.heap_alloc_new _ _); have b4' : Below W3.heap.size W3 w4 := (b3'.alloc b3'.size _).trans (b4.mono (Nat.le_trans b3'.size (le_alloc _ _))); obtain ⟨⟨y0, y1, y2, y3, y4, y5, y6, y7⟩, x0, x1, x2, x3, x4, x5, x6, x7⟩ := zero8 hz4; have tag2 : True := trivial; dsimp only [exM, Mat.cells, zeroM, bM1, bOld, bAppeal])
            | fail)
        all_goals
          go_wp2_with fail
          go_meet
          first
          | (have := tag3; exact ⟨_, rfl, rfl, b4'.alloc b4'.size _⟩)
          | (have := tag1; exact ⟨_, rfl, rfl, eight_below b4' W3.heap.size (Nat.le_refl _) _ _ _ _ _ _ _ _⟩)
          | (have := tag2; exact ⟨_, rfl, rfl, eight_below b4' w3.heap.size b3'.size _ _ _ _ _ _ _ _⟩)
      case rest =>
        obtain ⟨B4, rfl, rfl, b2⟩ := hcut
        obtain ⟨W4, rfl⟩ : ∃ x, x = wc := ⟨wc, rfl⟩
        have ha := H23.out.go b2
        have hm := H13.out.go b2
        have bw2 := BW3.out.trans (b2.mono BW3.out.size)
        have H24 := Lib.hid ha
        have H14 := Lib.hid hm
        have BW4 := Lib.hid bw2
        clear ha hm bw2 b2 z0 z1 z2 z3 z4 z5 z6 z7 HS
        go_upto_region 5 with fail
        have hs : ∀ w', Below W4.heap.size W4 w' → w'.cell? ⟨w.heap.size + 1, 0, none⟩ = some (.string ⟨#[109, 49]⟩) ∧ w'.cell? ⟨w.heap.size + 1, 1, none⟩ = some (.int .i64 5) ∧ w'.cell? ⟨w.heap.size + 1, 2, none⟩ = some (.slice (some ⟨w.heap.size, 0, none⟩) 2 2) ∧ w'.cell? ⟨w.heap.size + 1, 3, none⟩ = some (.string ⟨#[111, 108, 100]⟩) ∧ w'.cell? ⟨w.heap.size + 1, 4, none⟩ = some (.int .i64 0) ∧ w'.cell? ⟨w.heap.size + 1, 5, none⟩ = some (.slice none 0 0) ∧ w'.cell? ⟨w.heap.size + 1, 6, none⟩ = some (.slice none 0 0) ∧ w'.cell? ⟨w.heap.size + 1, 7, none⟩ = some (.slice none 0 0) := fun w' hb => ⟨(H14.out.go hb).box.c0, (H14.out.go hb).box.c1, (H14.out.go hb).box.c2, (H14.out.go hb).box.c3, (H14.out.go hb).box.c4, (H14.out.go hb).box.c5, (H14.out.go hb).box.c6, (H14.out.go hb).box.c7⟩
        have HS := Lib.hid hs
        obtain ⟨z0, z1, z2, z3, z4, z5, z6, z7⟩ := hs _ (Below.refl _ _)
        clear hs
        go_cut [8, 9] (fun s8 s9 wx => ∃ B, s8 = .pointer (some ⟨B, 0, none⟩) ∧ s9 = .int .i64 11 ∧ Below W4.heap.size W4 wx)
        case first =>
          go_region_held3 (fun w' => w'.cell? ⟨w.heap.size + 1, 0, none⟩ = some (.string ⟨#[109, 49]⟩) ∧ w'.cell? ⟨w.heap.size + 1, 1, none⟩ = some (.int .i64 5) ∧ w'.cell? ⟨w.heap.size + 1, 2, none⟩ = some (.slice (some ⟨w.heap.size, 0, none⟩) 2 2) ∧ w'.cell? ⟨w.heap.size + 1, 3, none⟩ = some (.string ⟨#[111, 108, 100]⟩) ∧ w'.cell? ⟨w.heap.size + 1, 4, none⟩ = some (.int .i64 0) ∧ w'.cell? ⟨w.heap.size + 1, 5, none⟩ = some (.slice none 0 0) ∧ w'.cell? ⟨w.heap.size + 1, 6, none⟩ = some (.slice none 0 0) ∧ w'.cell? ⟨w.heap.size + 1, 7, none⟩ = some (.slice none 0 0))
            ((refine HS.out _ ?_; first
              | with_reducible exact b4'
              | with_reducible exact b4'.alloc b4'.size _
              | with_reducible exact eight_below b4' W4.heap.size (Nat.le_refl _) _ _ _ _ _ _ _ _
              | with_reducible exact eight_below b4' w3.heap.size b3'.size _ _ _ _ _ _ _ _
              | with_reducible exact b3'
              | with_reducible exact b3'.alloc b3'.size _
              | with_reducible exact (Below.refl _ _).drew
              | with_reducible exact ((Below.refl _ _).alloc (Nat.le_refl _) _).drew
              | (fail)))
            (first
              | (go_at_call 29; refine (procedure_any W4.drew).mono ?_; rintro e w3 ⟨pA, pa, pB, pb, rfl, hpr, b3⟩; have b3' : Below W4.heap.size W4 w3 := (Below.refl _ _).drew.trans b3; have hm3 := (H14.out.go b3').mr; dsimp only)
              | (go_at_call 29; refine (procedure_any (W4.alloc (.cells #[.string ⟨#[]⟩, .int .i64 0, .slice none 0 0, .string ⟨#[]⟩, .int .i64 0, .slice none 0 0, .slice none 0 0, .slice none 0 0] 27)).drew).mono ?_; rintro e w3 ⟨pA, pa, pB, pb, rfl, hpr, b3⟩; have b3' : Below W4.heap.size W4 w3 := ((Below.refl _ _).alloc (Nat.le_refl _) _).drew.trans (b3.mono (by simp)); have hm3 := (H14.out.go b3').mr; have hz3 : w3.heap[W4.heap.size]? = some (.cells zeroM.cells 27) := (b3.block _ (by simp)).trans (Go.heap_alloc_new _ _); dsimp only)
              | (go_at_call 19; refine (head_mv4 (w := w3) hm3 hpr).mono ?_; rintro e w4 ⟨rfl, b4⟩; have hz4 : w4.heap[W4.heap.size]? = some (.cells zeroM.cells 27) := (b4.block _ (Array.getElem?_eq_some_iff.1 hz3).1).trans hz3; have b4' : Below W4.heap.size W4 w4 := b3'.trans (b4.mono b3'.size); obtain ⟨⟨y0, y1, y2, y3, y4, y5, y6, y7⟩, x0, x1, x2, x3, x4, x5, x6, x7⟩ := zero8 hz4; have tag1 : True := trivial; dsimp only [exM, Mat.cells, zeroM, bM1, bOld, bAppeal])
              | (go_at_call 19; refine (head_mv4 (w := w3) hm3 hpr).mono ?_; rintro e w4 ⟨rfl, b4⟩; have b4' : Below W4.heap.size W4 w4 := b3'.trans (b4.mono b3'.size); have tag3 : True := trivial; dsimp only [exM, Mat.cells, zeroM, bM1, bOld, bAppeal])
              | (go_at_call 19; refine (head_mv4 (w := w3.alloc (.cells #[.string ⟨#[]⟩, .int .i64 0, .slice none 0 0, .string ⟨#[]⟩, .int .i64 0, .slice none 0 0, .slice none 0 0, .slice none 0 0] 27)) (hm3.go ((Below.refl _ _).alloc (Nat.le_refl _) _)) (hpr.go ((Below.refl _ _).alloc (Nat.le_refl _) _))).mono ?_; rintro e w4 ⟨rfl, b4⟩; have hz4 : w4.heap[w3.heap.size]? = some (.cells zeroM.cells 27) := (b4.block _ (by simp)).trans (Go.heap_alloc_new _ _); have b4' : Below W4.heap.size W4 w4 := (b3'.alloc b3'.size _).trans (b4.mono (Nat.le_trans b3'.size (le_alloc _ _))); obtain ⟨⟨y0, y1, y2, y3, y4, y5, y6, y7⟩, x0, x1, x2, x3, x4, x5, x6, x7⟩ := zero8 hz4; have tag2 : True := trivial; dsimp only [exM, Mat.cells, zeroM, bM1, bOld, bAppeal])
              | fail)
          all_goals
            go_wp2_with fail
            go_meet
            first
            | (have := tag3; exact ⟨_, rfl, rfl, b4'.alloc b4'.size _⟩)
            | (have := tag1; exact ⟨_, rfl, rfl, eight_below b4' W4.heap.size (Nat.le_refl _) _ _ _ _ _ _ _ _⟩)
            | (have := tag2; exact ⟨_, rfl, rfl, eight_below b4' w3.heap.size b3'.size _ _ _ _ _ _ _ _⟩)
        case rest =>
          obtain ⟨B5, rfl, rfl, b2⟩ := hcut
          obtain ⟨W5, rfl⟩ : ∃ x, x = wc := ⟨wc, rfl⟩
          have ha := H24.out.go b2
          have hm := H14.out.go b2
          have bw2 := BW4.out.trans (b2.mono BW4.out.size)
          have H25 := Lib.hid ha
          have H15 := Lib.hid hm
          have BW5 := Lib.hid bw2
          clear ha hm bw2 b2 z0 z1 z2 z3 z4 z5 z6 z7 HS
          obtain ⟨z0, z1, z2, z3, z4, z5, z6, z7⟩ : W5.cell? ⟨B2, 0, none⟩ = some (.string ⟨#[109, 49]⟩) ∧ W5.cell? ⟨B2, 1, none⟩ = some (.int .i64 5) ∧ W5.cell? ⟨B2, 2, none⟩ = some (.slice (some ⟨w.heap.size, 0, none⟩) 2 2) ∧ W5.cell? ⟨B2, 3, none⟩ = some (.string ⟨#[111, 108, 100]⟩) ∧ W5.cell? ⟨B2, 4, none⟩ = some (.int .i64 1) ∧ W5.cell? ⟨B2, 5, none⟩ = some (.slice A5 1 c5) ∧ W5.cell? ⟨B2, 6, none⟩ = some (.slice none 0 0) ∧ W5.cell? ⟨B2, 7, none⟩ = some (.slice none 0 0) := ⟨H25.out.box.c0, H25.out.box.c1, H25.out.box.c2, H25.out.box.c3, H25.out.box.c4, H25.out.box.c5, H25.out.box.c6, H25.out.box.c7⟩
          go_wp2_with fail
          refine (head_gr5 H25.out.mr).mono ?_
          rintro e w6 ⟨A6, c6, rfl, hmr6, b6⟩
          have hb := Held.new hmr6
          have bw6 := BW5.out.trans (b6.mono BW5.out.size)
          have bw7 := bw6.alloc (bw6.size) (.cells (exM (.slice (some ⟨w.heap.size, 0, none⟩) 2 2) 1 (.slice A5 1 c5) [7] (.slice A6 1 c6) [(bAppeal, 7)]).cells 27)
          have HB := Lib.hid hb
          have BW7 := Lib.hid bw7
          clear hmr6 hb bw6 bw7 b6 z0 z1 z2 z3 z4 z5 z6 z7
          dsimp only [exM, Mat.cells, bM1, bOld] at HB BW7 ⊢
          go_wp2_with fail
          refine (head_gr6 HB.out.mr).mono ?_
          rintro e w8 ⟨rfl, b8⟩
          have hb8 := HB.out.go b8
          obtain ⟨z0, z1, z2, z3, z4, z5, z6, z7⟩ : w8.cell? ⟨w6.heap.size, 0, none⟩ = some (.string ⟨#[109, 49]⟩) ∧ w8.cell? ⟨w6.heap.size, 1, none⟩ = some (.int .i64 5) ∧ w8.cell? ⟨w6.heap.size, 2, none⟩ = some (.slice (some ⟨w.heap.size, 0, none⟩) 2 2) ∧ w8.cell? ⟨w6.heap.size, 3, none⟩ = some (.string ⟨#[111, 108, 100]⟩) ∧ w8.cell? ⟨w6.heap.size, 4, none⟩ = some (.int .i64 1) ∧ w8.cell? ⟨w6.heap.size, 5, none⟩ = some (.slice A5 1 c5) ∧ w8.cell? ⟨w6.heap.size, 6, none⟩ = some (.slice A6 1 c6) ∧ w8.cell? ⟨w6.heap.size, 7, none⟩ = some (.slice none 0 0) := ⟨hb8.box.c0, hb8.box.c1, hb8.box.c2, hb8.box.c3, hb8.box.c4, hb8.box.c5, hb8.box.c6, hb8.box.c7⟩
          have hl8 := hb8.lt
          have hn8 : w8.heap.size ≠ w6.heap.size := Nat.ne_of_gt hl8
          have b9 : Below w.heap.size w w8 := BW7.out.trans (b8.mono BW7.out.size)
          have b9' := (Below.refl w8.heap.size w8).alloc (Nat.le_refl _) (.cells zeroM.cells 27)
          have HB9 := Lib.hid (hb8.go b9')
          have BW9 := Lib.hid (b9.trans (b9'.mono b9.size))
          clear b8 hb8 b9 b9' HB BW7
          dsimp only [zeroM, Mat.cells] at HB9 BW9 ⊢
          have hE9 := (HE.out.on BW9.out).more BW9.out.size
          go_wp2_with fail
          refine (head_tx HB9.out.mr hE9).mono ?_
          rintro e w10 ⟨rfl, b10⟩
          have hb10 := HB9.out.go b10
          have bw10 := BW9.out.trans (b10.mono BW9.out.size)
          have hE10 := (HE.out.on bw10).more bw10.size
          have HB10 := Lib.hid hb10
          have BW10 := Lib.hid bw10
          clear hE9 z0 z1 z2 z3 z4 z5 z6 z7 hb10 bw10 b10
          go_wp2_with fail
          refine (head_pa (cv := .slice (some ⟨w.heap.size, 0, none⟩) 2 2) (mv := .slice A5 1 c5) (rv := .slice A6 1 c6) hE10).mono ?_
          rintro e w11 ⟨n, rfl, hn, hsame, b11⟩
          have hb11 := HB10.out.go b11
          have bw11 := BW10.out.trans (b11.mono BW10.out.size)
          have hbx := hb11.go ((Below.refl _ _).alloc (Nat.le_refl _) (.cells n.cells 27))
          have hnx := Held.new hn
          have bwx := bw11.alloc bw11.size (.cells n.cells 27)
          obtain ⟨z0, z1, z2, z3, z4, z5, z6, z7⟩ : w11.cell? ⟨w6.heap.size, 0, none⟩ = some (.string ⟨#[109, 49]⟩) ∧ w11.cell? ⟨w6.heap.size, 1, none⟩ = some (.int .i64 5) ∧ w11.cell? ⟨w6.heap.size, 2, none⟩ = some (.slice (some ⟨w.heap.size, 0, none⟩) 2 2) ∧ w11.cell? ⟨w6.heap.size, 3, none⟩ = some (.string ⟨#[111, 108, 100]⟩) ∧ w11.cell? ⟨w6.heap.size, 4, none⟩ = some (.int .i64 1) ∧ w11.cell? ⟨w6.heap.size, 5, none⟩ = some (.slice A5 1 c5) ∧ w11.cell? ⟨w6.heap.size, 6, none⟩ = some (.slice A6 1 c6) ∧ w11.cell? ⟨w6.heap.size, 7, none⟩ = some (.slice none 0 0) := ⟨hb11.box.c0, hb11.box.c1, hb11.box.c2, hb11.box.c3, hb11.box.c4, hb11.box.c5, hb11.box.c6, hb11.box.c7⟩
          obtain ⟨E1, e1, E2, e2, E3, e3, E4, e4, g1, g2, g3, g4⟩ := mat_form hn
          have hsm := same_any n (exM (.slice (some ⟨w.heap.size, 0, none⟩) 2 2) 1 (.slice A5 1 c5) [7] (.slice A6 1 c6) [(bAppeal, 7)]) _ hnx.mr hbx.mr
          rw [hsame] at hsm
          obtain ⟨ni, no, ncv, nc, npr, ns, nmv, nm, nrv, nr, nlv, nl⟩ := n
          simp only at g1 g2 g3 g4
          subst g1 g2 g3 g4
          have HSM := Lib.hid hsm
          have HBX := Lib.hid hbx
          have BWX := Lib.hid bwx
          have hlt6 := hb11.lt
          have hn11 : w11.heap.size ≠ w6.heap.size := Nat.ne_of_gt hlt6
          clear hsm hbx bwx hnx hn hsame b11 hb11 bw11 hE10 HB10 BW10
          dsimp only [exM, Mat.cells, bM1, bOld] at HSM HBX BWX ⊢
          have hT : (exT.toList == [109, 97, 116, 116, 101, 114, 32, 109, 49, 32, 53, 32, 111, 108, 100, 32, 49, 10, 99, 97, 115, 101, 32, 50, 48, 32, 48, 10, 109, 111, 118, 101, 100, 32, 55, 10, 114, 105, 103, 104, 116, 32, 97, 112, 112, 101, 97, 108, 32, 55, 10]) = true := by rw [Lib.toList_data]; decide
          go_wp2_with fail
          refine HSM.out.mono ?_
          rintro e w12 ⟨rfl, b12⟩
          have hb12 := HBX.out.go b12
          have bw12 := BWX.out.trans (b12.mono BWX.out.size)
          obtain ⟨y0, y1, y2, y3, y4, y5, y6, y7⟩ : w12.cell? ⟨w6.heap.size, 0, none⟩ = some (.string ⟨#[109, 49]⟩) ∧ w12.cell? ⟨w6.heap.size, 1, none⟩ = some (.int .i64 5) ∧ w12.cell? ⟨w6.heap.size, 2, none⟩ = some (.slice (some ⟨w.heap.size, 0, none⟩) 2 2) ∧ w12.cell? ⟨w6.heap.size, 3, none⟩ = some (.string ⟨#[111, 108, 100]⟩) ∧ w12.cell? ⟨w6.heap.size, 4, none⟩ = some (.int .i64 1) ∧ w12.cell? ⟨w6.heap.size, 5, none⟩ = some (.slice A5 1 c5) ∧ w12.cell? ⟨w6.heap.size, 6, none⟩ = some (.slice A6 1 c6) ∧ w12.cell? ⟨w6.heap.size, 7, none⟩ = some (.slice none 0 0) := ⟨hb12.box.c0, hb12.box.c1, hb12.box.c2, hb12.box.c3, hb12.box.c4, hb12.box.c5, hb12.box.c6, hb12.box.c7⟩
          have hh := has_any (exM (.slice (some ⟨w.heap.size, 0, none⟩) 2 2) 1 (.slice A5 1 c5) [7] (.slice A6 1 c6) [(bAppeal, 7)]) bAppeal 7 w12 hb12.mr
          have HB12 := Lib.hid hb12
          have BW12 := Lib.hid bw12
          rw [(ex8 (.slice (some ⟨w.heap.size, 0, none⟩) 2 2) (.slice A5 1 c5) (.slice A6 1 c6)).1] at hh
          dsimp only [exM, Mat.cells, bM1, bOld] at hh
          have HH := Lib.hid hh
          clear hh hb12 bw12 b12 z0 z1 z2 z3 z4 z5 z6 z7 HSM HBX BWX
          go_wp2_with fail
          refine HH.out.mono ?_
          rintro e w13 ⟨rfl, b13⟩
          have hb13 := HB12.out.go b13
          have bw13 := BW12.out.trans (b13.mono BW12.out.size)
          obtain ⟨z0, z1, z2, z3, z4, z5, z6, z7⟩ : w13.cell? ⟨w6.heap.size, 0, none⟩ = some (.string ⟨#[109, 49]⟩) ∧ w13.cell? ⟨w6.heap.size, 1, none⟩ = some (.int .i64 5) ∧ w13.cell? ⟨w6.heap.size, 2, none⟩ = some (.slice (some ⟨w.heap.size, 0, none⟩) 2 2) ∧ w13.cell? ⟨w6.heap.size, 3, none⟩ = some (.string ⟨#[111, 108, 100]⟩) ∧ w13.cell? ⟨w6.heap.size, 4, none⟩ = some (.int .i64 1) ∧ w13.cell? ⟨w6.heap.size, 5, none⟩ = some (.slice A5 1 c5) ∧ w13.cell? ⟨w6.heap.size, 6, none⟩ = some (.slice A6 1 c6) ∧ w13.cell? ⟨w6.heap.size, 7, none⟩ = some (.slice none 0 0) := ⟨hb13.box.c0, hb13.box.c1, hb13.box.c2, hb13.box.c3, hb13.box.c4, hb13.box.c5, hb13.box.c6, hb13.box.c7⟩
          have hh := has_any (exM (.slice (some ⟨w.heap.size, 0, none⟩) 2 2) 1 (.slice A5 1 c5) [7] (.slice A6 1 c6) [(bAppeal, 7)]) bAppeal 6 w13 hb13.mr
          rw [(ex8 (.slice (some ⟨w.heap.size, 0, none⟩) 2 2) (.slice A5 1 c5) (.slice A6 1 c6)).2] at hh
          dsimp only [exM, Mat.cells, bM1, bOld] at hh
          have BW13 := Lib.hid bw13
          have HH := Lib.hid hh
          clear hh hb13 bw13 b13 y0 y1 y2 y3 y4 y5 y6 y7 HB12
          go_wp2_with fail
          refine HH.out.mono ?_
          rintro e w14 ⟨rfl, b14⟩
          have BW14 := Lib.hid (BW13.out.trans (b14.mono BW13.out.size))
          clear b14 z0 z1 z2 z3 z4 z5 z6 z7
          go_wp2_with fail
          refine (procedure_any _).mono ?_
          rintro e w15 ⟨pA, pa, pB, pb, rfl, hpr, b15⟩
          have BW15 := Lib.hid (BW14.out.trans (b15.mono BW14.out.size))
          have hp := proper_any _ w15 hpr
          rw [exP_proper] at hp
          have HP := Lib.hid hp
          clear hp hpr b15
          go_wp2_with fail
          refine HP.out.mono ?_
          rintro e w16 ⟨rfl, b16⟩
          have BW16 := Lib.hid (BW15.out.trans (b16.mono BW15.out.size))
          have hp := proper_any zeroP w16 (zeroP_pr _ _)
          rw [zeroP_no] at hp
          have HP := Lib.hid hp
          clear hp b16
          go_wp2_with fail
          refine HP.out.mono ?_
          rintro e w17 ⟨rfl, b17⟩
          have BW17 := Lib.hid (BW16.out.trans (b17.mono BW16.out.size))
          clear b17
          go_wp2
          go_ret
          exact ⟨rfl, BW17.out⟩
end Go.Proofs.YtficjcomefaocaaGreatDoor
