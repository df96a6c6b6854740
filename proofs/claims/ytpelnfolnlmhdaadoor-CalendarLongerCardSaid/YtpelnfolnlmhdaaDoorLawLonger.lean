/- WALK of CalendarLonger. -/
import Derived.Test.YtpelnfolnlmhdaaDoorHead
import Derived.Test.YtpelnfolnlmhdaaDoorRefLight
import Derived.Test.YtpelnfolnlmhdaaDoorLawEnds
import Derived.Test.YtpelnfolnlmhdaaDoorLawLongerPlain
import Derived.Test.YtpelnfolnlmhdaaDoorAppendRI
import Derived.Deep.RegionHeld3
import Derived.Deep.DeepCutAuto
namespace Go.Proofs.YtpelnfolnlmhdaaDoor
open Go.RowKit Go.Maps
open Cal

theorem ri_app {w : World} {base : Nat} {v : Value} {L : List Int} {x : Int} (h : w.ownsRow base 3 1 v (0 + L.length + 1) ([] ++ L.map (Value.int .i64) ++ [x].map (Value.int .i64))) (hl : L.length ≤ 1000) (hw : ∀ y ∈ L, (Lit.int .i64 y).wf = true) (hx : (Lit.int .i64 x).wf = true) :
    RI w w.heap.size v (L ++ [x]) := by
  have e : [] ++ L.map (Value.int .i64) ++ [x].map (Value.int .i64) = (L ++ [x]).map (Value.int .i64) := by simp
  rw [e] at h
  rcases h.2 with ⟨_, h0⟩ | ⟨g, cap, cur, rfl, _, hg, _⟩
  · omega
  · have hlt := (Array.getElem?_eq_some_iff.1 hg).1
    have hn : (L ++ [x]).length = 0 + L.length + 1 := by simp
    refine ⟨some ⟨g, 0, none⟩, cap, by rw [hn], by rw [hn]; omega, fun y hy => ?_, .inr ⟨g, 0, rfl, hlt, fun k hk => ?_⟩⟩
    · rcases List.mem_append.1 hy with hy | hy
      · exact hw y hy
      · simp only [List.mem_singleton] at hy; subst hy; exact hx
    · rw [Nat.zero_add, h.cellAt k (by omega), List.getElem?_map, List.getD_eq_getElem?_getD, List.getElem?_eq_getElem hk]
      rfl
theorem own_e1 (w : World) : (w.alloc (.cells #[] 3)).ownsRow w.heap.size 3 1 (.slice (some ⟨w.heap.size, 0, none⟩) 0 0) 0 [] :=
  World.ownsRow_lit w #[] 0 (Nat.le_refl _) (by unfold maxLen; omega) rfl
theorem own_e2 (w : World) (o : Obj) : ((w.alloc o).alloc (.cells #[] 3)).ownsRow w.heap.size 3 1 (.slice (some ⟨w.heap.size + 1, 0, none⟩) 0 0) 0 [] := by
  have h := World.ownsRow_lit (base := w.heap.size) (e := 3) (size := 1) (w.alloc o) #[] 0 (by simp) (by unfold maxLen; omega) rfl
  simpa using h

set_option maxHeartbeats 8000000 in
set_option maxRecDepth 100000 in
theorem longer_walk (day N U more later further : Int) (v : Value) (L : List Int) (w : World) (h : PT w) (hv : RI w w.heap.size v L) (m0 : 0 ≤ more) (m1 : more ≤ 255) (l0 : 0 ≤ later) (l1 : later ≤ 255) (hfw : (Lit.int .i64 further).wf = true) :
    Calls Tryd.prog 8 #[.int .i64 day, .agg #[.int .i64 N, .int .i64 U], v, .int .u8 more, .int .u8 later, .int .i64 further] w fun e w' => e = .returned (.bool true) ∧ Below w.heap.size w w' := by
  have hpt1 : PT (w.alloc (.cells #[.int .i64 N, .int .i64 U] 29)) := h.below ((Below.refl w.heap.size w).alloc (Nat.le_refl _) _) (Nat.le_refl _)
  have hb0 : Below w.heap.size w (w.alloc (.cells #[.int .i64 N, .int .i64 U] 29)) := (Below.refl _ _).alloc (Nat.le_refl _) _
  have HV := Lib.hid hv
  have hri : ∀ w', Below w.heap.size w w' → RI w' w'.heap.size v L := fun w' hb => (HV.out.below hb).more hb.size
  have HRI := Lib.hid hri
  obtain ⟨A, cap, rfl, hlen, _, _⟩ := hv
  clear hri
  by_cases hlight : (U ≠ 5 ∨ N ≤ 3000) ∧ (L.length : Int) ≤ 60
  · obtain ⟨hl1, hl2⟩ := hlight
    have HL1 := Lib.hid hl1
    clear hl1
    by_cases hb : 0 ≤ N ∧ N ≤ 1000000 ∧ 0 ≤ day ∧ day ≤ 1000000
    · obtain ⟨n0, n1, d0, d1⟩ := hb
      have q1 : decide (N < 0) = false := by simp; omega
      have q2 : decide (1000000 < N) = false := by simp; omega
      have q3 : decide (day < 0) = false := by simp; omega
      have q4 : decide (1000000 < day) = false := by simp; omega
      obtain ⟨E, e0, hE⟩ : ∃ E er, addV day N U L = (E, er) := ⟨_, _, rfl⟩
      obtain ⟨E1, e1, hE1⟩ : ∃ E er, addV day (N + more) U L = (E, er) := ⟨_, _, rfl⟩
      obtain ⟨E2, e2, hE2⟩ : ∃ E er, addV (day + later) N U L = (E, er) := ⟨_, _, rfl⟩
      obtain ⟨E3, e3, hE3⟩ : ∃ E er, addV day N U (L ++ [further]) = (E, er) := ⟨_, _, rfl⟩
      have HE := Lib.hid hE
      have HE1 := Lib.hid hE1
      have HE2 := Lib.hid hE2
      have HE3 := Lib.hid hE3
      clear hE hE1 hE2 hE3
      go_enter Tryd.func8, Tryd.ntmps8
      go_wp2_with fail
      refine (head_any _ hpt1).mono ?_
      rintro e w1 ⟨rfl, b1⟩
      have htm := (TermAt.new w N U).below b1 (by simp)
      have bw := hb0.trans (b1.mono (by simp))
      clear b1 hb0 hpt1

      go_wp2_with (refine wpList_load_row rfl 29 (.tmp 7) rfl w.heap.size rfl 29 _ (0, 0) _ htm Tryd.underlying29 rfl (by kernel_rfl) ?_)
      refine (light_yes _ _ _ _ L _ (HRI.out _ bw) HL1.out hl2).mono ?_
      rintro e w2 ⟨rfl, b'⟩
      have htm2 := htm.below b' htm.lt
      replace bw := bw.trans (b'.mono bw.size)
      replace htm := htm2
      clear b' htm2
      have c0 := htm.c0
      have c1 := htm.c1
      go_wp2_with (refine wpList_load_row rfl 29 (.tmp 7) rfl w.heap.size rfl 29 _ (0, 0) _ htm Tryd.underlying29 rfl (by kernel_rfl) ?_)
      refine (add_at HE.out _ _ (HRI.out _ bw)).mono ?_
      rintro e w2 ⟨rfl, b'⟩
      have htm2 := htm.below b' htm.lt
      replace bw := bw.trans (b'.mono bw.size)
      replace htm := htm2
      clear b' htm2
      have c0 := htm.c0
      have c1 := htm.c1
      go_wp2_with fail
      refine (term_any _ _ _).mono ?_
      rintro e w2 ⟨rfl, b'⟩
      have htm2 := htm.below b' htm.lt
      replace bw := bw.trans (b'.mono bw.size)
      replace htm := htm2
      clear b' htm2
      go_wp2_with fail
      refine (add_at HE1.out _ _ (HRI.out _ bw)).mono ?_
      rintro e w2 ⟨rfl, b'⟩
      have htm2 := htm.below b' htm.lt
      replace bw := bw.trans (b'.mono bw.size)
      replace htm := htm2
      clear b' htm2
      go_wp2_with (refine wpList_load_row rfl 29 (.tmp 7) rfl w.heap.size rfl 29 _ (0, 0) _ htm Tryd.underlying29 rfl (by kernel_rfl) ?_)
      refine (add_at HE2.out _ _ (HRI.out _ bw)).mono ?_
      rintro e w2 ⟨rfl, b'⟩
      have htm2 := htm.below b' htm.lt
      replace bw := bw.trans (b'.mono bw.size)
      replace htm := htm2
      clear b' htm2
      have c0 := htm.c0
      have c1 := htm.c1
      have HC0 := Lib.hid c0
      have HC1 := Lib.hid c1
      have hlt := htm.lt
      have HLT := Lib.hid hlt
      have HFW := Lib.hid hfw
      clear hfw
      have hwl : ∀ y ∈ L, (Lit.int .i64 y).wf = true := by obtain ⟨_, _, he, _, h, _⟩ := HV.out; exact h
      have HWL := Lib.hid hwl
      clear hwl
      go_upto_region 7 with fail
      go_cut [20, 21] (fun s20 s21 wx => s20 = .int .i64 E3 ∧ s21 = .int .i64 e3 ∧ Below w.heap.size w wx)
      case first =>
        go_region_held3 (fun w' => w'.cell? ⟨w.heap.size, 0, none⟩ = some (.int .i64 N) ∧ w'.cell? ⟨w.heap.size, 1, none⟩ = some (.int .i64 U)) (first
          | go_keep
          | exact ⟨(hb2.cell (p := ⟨w.heap.size, 0, none⟩) HLT.out).trans HC0.out, (hb2.cell (p := ⟨w.heap.size, 1, none⟩) HLT.out).trans HC1.out⟩
          | exact ⟨(hb1.cell (p := ⟨w.heap.size, 0, none⟩) HLT.out).trans HC0.out, (hb1.cell (p := ⟨w.heap.size, 1, none⟩) HLT.out).trans HC1.out⟩
          | exact ⟨((hb1.alloc (by have := hb1.size; omega) _).cell (p := ⟨w.heap.size, 0, none⟩) HLT.out).trans HC0.out, ((hb1.alloc (by have := hb1.size; omega) _).cell (p := ⟨w.heap.size, 1, none⟩) HLT.out).trans HC1.out⟩)
        (first
          | (refine step_append_ri _ w2 (by rfl) (.tmp 80) (.tmp 81) (by rfl) w2.heap.size _ 0 L.length cap _ [] A L (by rfl) (by first | exact own_e1 w2 | exact (own_e1 w2).alloc _ | exact own_e2 w2 _) (by rfl) (HRI.out _ (bw.trans (Below.mono (by repeat (first | exact Below.refl _ _ | assumption | refine Below.drew ?_ | refine Below.alloc ?_ (by first | exact Nat.le_refl _ | exact le_alloc _ _) _)) bw.size))) (by omega) (by omega) (by simp <;> omega) (by repeat (first | exact Below.refl _ _ | assumption | refine Below.drew ?_ | refine Below.alloc ?_ (by first | exact Nat.le_refl _ | exact le_alloc _ _) _)) ?_; intro v1 w3 hown1 hb1 hg1)
          | (refine step_append_ri _ w2 (by rfl) (.tmp 82) (.tmp 84) (by rfl) w2.heap.size _ (0 + L.length) 1 1 _ ([] ++ L.map (Value.int .i64)) (some ⟨w3.heap.size, 0, none⟩) [further] (by rfl) (by first | exact hown1 | exact hown1.alloc _) (by rfl) (ri_one _ _ HFW.out) (by omega) (by simp) (by first | exact hb1.size | exact Nat.le_trans hb1.size (le_alloc _ _)) (by first | exact hb1 | exact hb1.alloc hb1.size _) ?_; intro v2 w4 hown2 hb2 hg2)
          | (refine step_append_ri _ w2 (by rfl) (.tmp 82) (.tmp 84) (by rfl) w2.heap.size _ (0 + L.length) 1 1 _ ([] ++ L.map (Value.int .i64)) (some ⟨w2.heap.size + 1, 0, none⟩) [further] (by rfl) hown1 (by rfl) (ri_one_kept hg1 (kept_b w2 further) (ne_b _ _ _) HFW.out) (by omega) (by simp) hb1.size hb1 ?_; intro v2 w4 hown2 hb2 hg2)
          | (refine step_append_ri _ w2 (by rfl) (.tmp 82) (.tmp 84) (by rfl) w2.heap.size _ (0 + L.length) 1 1 _ ([] ++ L.map (Value.int .i64)) (some ⟨w2.heap.size, 0, none⟩) [further] (by rfl) hown1 (by rfl) (ri_one_kept hg1 (kept_c w2 further) (ne_c _ _ _) HFW.out) (by omega) (by simp) hb1.size hb1 ?_; intro v2 w4 hown2 hb2 hg2)
          | (go_at_call 12; refine (add_at HE3.out _ _ (ri_app hown2 (by omega) HWL.out HFW.out)).mono ?_; rintro e w5 ⟨rfl, hb5⟩; replace hb2 := hb2.trans (hb5.mono hb2.size); clear hb5)
          | fail)
        all_goals
          go_wp2_with fail
          go_meet
          exact ⟨rfl, rfl, bw.trans (hb2.mono bw.size)⟩
      case rest =>
        obtain ⟨rfl, rfl, bw2⟩ := hcut
        clear bw htm c0 c1 HC0 HC1 HLT hlt
        have hl : L.length ≤ 1000 := by omega
        have F1 : e1 ≠ 0 ∨ (e1 = 0 ∧ e0 = 0 ∧ E ≤ E1) := by
          by_cases hz : e1 = 0
          · have h1 := HE1.out
            rw [hz] at h1
            obtain ⟨z, h2, h3⟩ := add_mono (L := L) (fun _ h => h) hl d0 (Int.le_refl day) n0 (show N ≤ N + more by omega) h1
            have := HE.out.symm.trans h2
            simp only [Prod.mk.injEq] at this
            exact .inr ⟨hz, this.2, by omega⟩
          · exact .inl hz
        have F2 : e2 ≠ 0 ∨ (e2 = 0 ∧ e0 = 0 ∧ E ≤ E2) := by
          by_cases hz : e2 = 0
          · have h1 := HE2.out
            rw [hz] at h1
            obtain ⟨z, h2, h3⟩ := add_mono (L := L) (fun _ h => h) hl d0 (show day ≤ day + later by omega) n0 (Int.le_refl N) h1
            have := HE.out.symm.trans h2
            simp only [Prod.mk.injEq] at this
            exact .inr ⟨hz, this.2, by omega⟩
          · exact .inl hz
        have F3 : e3 ≠ 0 ∨ (e3 = 0 ∧ e0 = 0 ∧ E ≤ E3) := by
          by_cases hz : e3 = 0
          · have h1 := HE3.out
            rw [hz] at h1
            obtain ⟨z, h2, h3⟩ := add_mono (L := L) (fun _ h => List.mem_append_left _ h) hl d0 (Int.le_refl day) n0 (Int.le_refl N) h1
            have := HE.out.symm.trans h2
            simp only [Prod.mk.injEq] at this
            exact .inr ⟨hz, this.2, by omega⟩
          · exact .inl hz
        clear HE HE1 HE2 HE3
        by_cases hz0 : e0 = 0
        · subst hz0
          rcases F1 with F1 | ⟨rfl, _, F1⟩ <;> rcases F2 with F2 | ⟨rfl, _, F2⟩ <;> rcases F3 with F3 | ⟨rfl, _, F3⟩
          all_goals
            try have F1b : (e1 != 0) = true := by simpa using F1
            try have F2b : (e2 != 0) = true := by simpa using F2
            try have F3b : (e3 != 0) = true := by simpa using F3
            go_wp2
            go_ret
            exact ⟨rfl, bw2⟩
        · have F1b : (e1 != 0) = true := by simp; omega
          have F2b : (e2 != 0) = true := by simp; omega
          have F3b : (e3 != 0) = true := by simp; omega
          have F0b : (e0 != 0) = true := by simpa using hz0
          clear F1 F2 F3 hz0
          go_wp2
          go_ret
          exact ⟨rfl, bw2⟩
    · by_cases c1' : N < 0
      · clear hb
        go_enter Tryd.func8, Tryd.ntmps8
        go_wp2_with fail
        refine (head_any _ hpt1).mono ?_
        rintro e w1 ⟨rfl, b1⟩
        have htm := (TermAt.new w N U).below b1 (by simp)
        have bw := hb0.trans (b1.mono (by simp))
        clear b1 hb0 hpt1
        go_wp2_with (refine wpList_load_row rfl 29 (.tmp 7) rfl w.heap.size rfl 29 _ (0, 0) _ htm Tryd.underlying29 rfl (by kernel_rfl) ?_)
        refine (light_yes _ _ _ _ L _ (HRI.out _ bw) HL1.out hl2).mono ?_
        rintro e w2 ⟨rfl, b'⟩
        have htm2 := htm.below b' htm.lt
        replace bw := bw.trans (b'.mono bw.size)
        replace htm := htm2
        clear b' htm2
        have c0 := htm.c0
        have c1 := htm.c1
        go_wp2
        go_ret
        exact ⟨rfl, bw⟩
      · have q1 : decide (N < 0) = false := by simp; omega
        by_cases c2' : 1000000 < N
        · clear hb
          go_enter Tryd.func8, Tryd.ntmps8
          go_wp2_with fail
          refine (head_any _ hpt1).mono ?_
          rintro e w1 ⟨rfl, b1⟩
          have htm := (TermAt.new w N U).below b1 (by simp)
          have bw := hb0.trans (b1.mono (by simp))
          clear b1 hb0 hpt1
          go_wp2_with (refine wpList_load_row rfl 29 (.tmp 7) rfl w.heap.size rfl 29 _ (0, 0) _ htm Tryd.underlying29 rfl (by kernel_rfl) ?_)
          refine (light_yes _ _ _ _ L _ (HRI.out _ bw) HL1.out hl2).mono ?_
          rintro e w2 ⟨rfl, b'⟩
          have htm2 := htm.below b' htm.lt
          replace bw := bw.trans (b'.mono bw.size)
          replace htm := htm2
          clear b' htm2
          have c0 := htm.c0
          have c1 := htm.c1
          go_wp2
          go_ret
          exact ⟨rfl, bw⟩
        · have q2 : decide (1000000 < N) = false := by simp; omega
          by_cases c3' : day < 0
          · clear hb
            go_enter Tryd.func8, Tryd.ntmps8
            go_wp2_with fail
            refine (head_any _ hpt1).mono ?_
            rintro e w1 ⟨rfl, b1⟩
            have htm := (TermAt.new w N U).below b1 (by simp)
            have bw := hb0.trans (b1.mono (by simp))
            clear b1 hb0 hpt1
            go_wp2_with (refine wpList_load_row rfl 29 (.tmp 7) rfl w.heap.size rfl 29 _ (0, 0) _ htm Tryd.underlying29 rfl (by kernel_rfl) ?_)
            refine (light_yes _ _ _ _ L _ (HRI.out _ bw) HL1.out hl2).mono ?_
            rintro e w2 ⟨rfl, b'⟩
            have htm2 := htm.below b' htm.lt
            replace bw := bw.trans (b'.mono bw.size)
            replace htm := htm2
            clear b' htm2
            have c0 := htm.c0
            have c1 := htm.c1
            go_wp2
            go_ret
            exact ⟨rfl, bw⟩
          · have q3 : decide (day < 0) = false := by simp; omega
            have c4' : 1000000 < day := by omega
            clear hb
            go_enter Tryd.func8, Tryd.ntmps8
            go_wp2_with fail
            refine (head_any _ hpt1).mono ?_
            rintro e w1 ⟨rfl, b1⟩
            have htm := (TermAt.new w N U).below b1 (by simp)
            have bw := hb0.trans (b1.mono (by simp))
            clear b1 hb0 hpt1
            go_wp2_with (refine wpList_load_row rfl 29 (.tmp 7) rfl w.heap.size rfl 29 _ (0, 0) _ htm Tryd.underlying29 rfl (by kernel_rfl) ?_)
            refine (light_yes _ _ _ _ L _ (HRI.out _ bw) HL1.out hl2).mono ?_
            rintro e w2 ⟨rfl, b'⟩
            have htm2 := htm.below b' htm.lt
            replace bw := bw.trans (b'.mono bw.size)
            replace htm := htm2
            clear b' htm2
            have c0 := htm.c0
            have c1 := htm.c1
            go_wp2
            go_ret
            exact ⟨rfl, bw⟩
  · have HL := Lib.hid hlight
    clear hlight
    go_enter Tryd.func8, Tryd.ntmps8
    go_wp2_with fail
    refine (head_any _ hpt1).mono ?_
    rintro e w1 ⟨rfl, b1⟩
    have htm := (TermAt.new w N U).below b1 (by simp)
    have bw := hb0.trans (b1.mono (by simp))
    clear b1 hb0 hpt1
    go_wp2_with (refine wpList_load_row rfl 29 (.tmp 7) rfl w.heap.size rfl 29 _ (0, 0) _ htm Tryd.underlying29 rfl (by kernel_rfl) ?_)
    refine (light_no _ _ _ _ L _ (HRI.out _ bw) (by have := HL.out; omega)).mono ?_
    rintro e w2 ⟨rfl, b'⟩
    replace bw := bw.trans (b'.mono bw.size)
    go_wp2
    go_ret
    exact ⟨rfl, bw⟩

theorem longer_card (day N U : Int) (v : Value) (L : List Int) (more later further : Int) (w : World) (h : PT w) (_ : -9223372036854775808 ≤ day ∧ day ≤ 9223372036854775807) (_ : -9223372036854775808 ≤ N ∧ N ≤ 9223372036854775807) (_ : -9223372036854775808 ≤ U ∧ U ≤ 9223372036854775807) (hv : RI w w.heap.size v L) (hm : 0 ≤ more ∧ more ≤ 255) (hl : 0 ≤ later ∧ later ≤ 255) (hf : -9223372036854775808 ≤ further ∧ further ≤ 9223372036854775807) :
    Calls Tryd.prog 8 #[.int .i64 day, .agg #[.int .i64 N, .int .i64 U], v, .int .u8 more, .int .u8 later, .int .i64 further] w fun e w' => e = .returned (.bool true) ∧ Below w.heap.size w w' :=
  longer_walk day N U more later further v L w h hv hm.1 hm.2 hl.1 hl.2 (WalkArith.wf_i64 hf)

end Go.Proofs.YtpelnfolnlmhdaaDoor
