/- WALKS of the statements' own helpers: term, head. -/
import Derived.Test.YtpelnfolnlmhdaaDoorCalK
import Derived.Test.YtpelnfolnlmhdaaDoorCalM
import Derived.Test.YtpelnfolnlmhdaaDoorHeadPlain
namespace Go.Proofs.YtpelnfolnlmhdaaDoor
open Go.RowKit Go.Maps
open Cal

theorem term_any (n u : Int) (w : World) :
    Calls Tryd.prog 13 #[.int .i64 n, .int .i64 u] w fun e w' => e = .returned (.agg #[.int .i64 n, .int .i64 u]) ∧ Below w.heap.size w w' := by
  go_enter Tryd.func13, Tryd.ntmps13
  go_wp2
  exact bodyPost_ret (v := .agg #[.int .i64 n, .int .i64 u]) (by simp [results, Tryd.results13, go_sem]) rfl ⟨rfl, (Below.refl _ _).alloc (Nat.le_refl _) _⟩

theorem text59 : (textL 59) = [49, 54, 48, 48, 45, 48, 50, 45, 50, 57] := by
  unfold textL
  rw [d59.1, d59.2.1, d59.2.2]
  decide

theorem day_at {y m d a b : Int} (h : dayV y m d = (a, b)) (w : World) :
    Calls Tryd.prog 14 #[.int .i64 y, .int .i64 m, .int .i64 d] w fun e w' => e = .returned (.tuple #[.int .i64 a, .int .i64 b]) ∧ Below w.heap.size w w' := by
  have := day_any y m d w
  rwa [h] at this
theorem add_at {day N U a b : Int} {L : List Int} (h : addV day N U L = (a, b)) (v : Value) (w : World) (hv : RI w w.heap.size v L) :
    Calls Tryd.prog 12 #[.int .i64 day, .agg #[.int .i64 N, .int .i64 U], v] w fun e w' => e = .returned (.tuple #[.int .i64 a, .int .i64 b]) ∧ Below w.heap.size w w' := by
  have := add_any day N U v L w hv
  rwa [h] at this
theorem work_at {n : Int} {b : Bool} {L : List Int} (h : opn L n = b) (v : Value) (w : World) (hv : RI w w.heap.size v L) :
    Calls Tryd.prog 17 #[.int .i64 n, v] w fun e w' => e = .returned (.bool b) ∧ Below w.heap.size w w' := by
  have := work_any v L n w hv
  rwa [h] at this
theorem date59 (w : World) :
    Calls Tryd.prog 15 #[.int .i64 59] w fun e w' => e = .returned (.tuple #[.int .i64 1600, .int .i64 2, .int .i64 29, .int .i64 0]) ∧ Below w.heap.size w w' := by
  have := date_yes 59 w (by decide) (by decide)
  rwa [d59.1, d59.2.1, d59.2.2] at this
theorem textAt59 (w : World) (h : PT w) :
    Calls Tryd.prog 26 #[.int .i64 59] w fun e w' => e = .returned (.string ⟨#[49, 54, 48, 48, 45, 48, 50, 45, 50, 57]⟩) ∧ Below w.heap.size w w' := by
  have := text_yes 59 w (by decide) (by decide) h
  rwa [text59] at this

set_option maxHeartbeats 4000000 in
set_option maxRecDepth 100000 in
theorem head_any (w : World) (h : PT w) :
    Calls Tryd.prog 11 #[] w fun e w' => e = .returned (.bool true) ∧ Below w.heap.size w w' := by
  go_enter Tryd.func11, Tryd.ntmps11
  go_wp2_with fail
  refine (day_at v1 _).mono ?_
  rintro e w1 ⟨rfl, b1⟩
  go_wp2_with fail
  refine (day_at v2 _).mono ?_
  rintro e w2 ⟨rfl, b2'⟩
  have b2 := b1.trans (b2'.mono b1.size); clear b1 b2'
  go_wp2_with fail
  refine (day_at v3 _).mono ?_
  rintro e w3 ⟨rfl, b3'⟩
  have b3 := b2.trans (b3'.mono b2.size); clear b2 b3'
  go_wp2_with fail
  refine (day_at v4 _).mono ?_
  rintro e w4 ⟨rfl, b4'⟩
  have b4 := b3.trans (b4'.mono b3.size); clear b3 b4'
  go_wp2_with fail
  refine (term_any _ _ _).mono ?_
  rintro e w5 ⟨rfl, b5'⟩
  have b5 := b4.trans (b5'.mono b4.size); clear b4 b5'
  go_wp2_with fail
  refine (add_at a1 _ _ (ri_nil _ _)).mono ?_
  rintro e w6 ⟨rfl, b6'⟩
  have b6 := b5.trans (b6'.mono b5.size); clear b5 b6'
  go_wp2_with fail
  refine (term_any _ _ _).mono ?_
  rintro e w7 ⟨rfl, b7'⟩
  have b7 := b6.trans (b7'.mono b6.size); clear b6 b7'
  go_wp2_with fail
  refine (add_at a2 _ _ (ri_nil _ _)).mono ?_
  rintro e w8 ⟨rfl, b8'⟩
  have b8 := b7.trans (b8'.mono b7.size); clear b7 b8'
  go_wp2_with fail
  refine (term_any _ _ _).mono ?_
  rintro e w9 ⟨rfl, b9'⟩
  have b9 := b8.trans (b9'.mono b8.size); clear b8 b9'
  go_wp2_with fail
  refine (add_at a3 _ _ (ri_nil _ _)).mono ?_
  rintro e w10 ⟨rfl, b10'⟩
  have b10 := b9.trans (b10'.mono b9.size); clear b9 b10'
  go_wp2_with fail
  refine (term_any _ _ _).mono ?_
  rintro e w11 ⟨rfl, b11'⟩
  have b11 := b10.trans (b11'.mono b10.size); clear b10 b11'
  go_wp2_with fail
  refine (add_at a4 _ _ (ri_nil _ _)).mono ?_
  rintro e w12 ⟨rfl, b12'⟩
  have b12 := b11.trans (b12'.mono b11.size); clear b11 b12'
  go_wp2_with fail
  refine (date59 _).mono ?_
  rintro e w13 ⟨rfl, b13'⟩
  have b13 := b12.trans (b13'.mono b12.size); clear b12 b13'
  go_wp2_with fail
  refine (weekday_yes 0 _ (by decide) (by decide)).mono ?_
  rintro e w' ⟨rfl, rfl⟩
  go_wp2_with fail
  refine (weekday_yes 2 _ (by decide) (by decide)).mono ?_
  rintro e w' ⟨rfl, rfl⟩
  go_wp2_with fail
  refine (weekday_no (-1) _ (by decide)).mono ?_
  rintro e w' ⟨rfl, rfl⟩
  go_wp2_with fail
  refine (textAt59 _ (h.below b13 (Nat.le_refl _))).mono ?_
  rintro e w14 ⟨rfl, b14'⟩
  have b14 := b13.trans (b14'.mono b13.size); clear b13 b14'
  go_wp2_with fail
  refine (work_at o0 _ _ (ri_nil _ _)).mono ?_
  rintro e w15 ⟨rfl, b15'⟩
  have b15 := b14.trans (b15'.mono b14.size); clear b14 b15'
  go_wp2_with fail
  refine (work_at o2 _ _ (ri_nil _ _)).mono ?_
  rintro e w16 ⟨rfl, b16'⟩
  have b16 := b15.trans (b16'.mono b15.size); clear b15 b16'
  go_wp2_with fail
  have hri : RI (w16.alloc (.cells #[.int .i64 2] 3)) (w16.alloc (.cells #[.int .i64 2] 3)).heap.size (.slice (some ⟨w16.heap.size, 0, none⟩) 1 1) [2] :=
    ⟨_, 1, rfl, by simp, by intro x hx; simp at hx; subst hx; decide, .inr ⟨_, 0, rfl, by simp, by intro k hk; simp at hk; subst hk; simp [go_sem]⟩⟩
  refine (work_at o22 _ _ hri).mono ?_
  rintro e w17 ⟨rfl, b17'⟩
  have b17 := (b16.alloc b16.size (.cells #[.int .i64 2] 3)).trans (b17'.mono (by have := b16.size; simp; omega)); clear b16 b17'
  go_wp2
  go_ret
  exact ⟨rfl, b17⟩

end Go.Proofs.YtpelnfolnlmhdaaDoor
