/- WALK of CalendarWeeks. -/
import Derived.Test.YtpelnfolnlmhdaaDoorHead
import Derived.Test.YtpelnfolnlmhdaaDoorRefIn
import Derived.Test.YtpelnfolnlmhdaaDoorLawWeeksPlain
namespace Go.Proofs.YtpelnfolnlmhdaaDoor
open Go.RowKit Go.Maps
open Cal

theorem infoBool : (Tryd.prog.info? 4).map (fun i => (i.zero, i.size, i.bytes)) = some (some (.bool false), 1, 1) := by kernel_rfl


/-- what holds at the head of each round -/
structure WeekW (day : Int) (g B : Nat) (k : Nat) (w0 wr : World) : Prop where
  c : ∀ j : Nat, j < 7 → wr.cell? ⟨g, j, none⟩ = some (.bool (saw day k j))
  f : ∀ j : Nat, wr.frozen? ⟨g, j, none⟩ = false
  lt : g < wr.heap.size
  b : Below B w0 wr

theorem WeekW.next {day : Int} {g B k j : Nat} {w0 wr w' : World} (h : WeekW day g B k w0 wr) (hB : B ≤ g) (hj : (day + k + 5) % 7 = j) (hb : Below (wr.setCell ⟨g, j, none⟩ (.bool true)).heap.size (wr.setCell ⟨g, j, none⟩ (.bool true)) w') :
    WeekW day g B (k + 1) w0 w' := by
  have hlt : g < (wr.setCell ⟨g, j, none⟩ (.bool true)).heap.size := by rw [show (wr.setCell ⟨g, j, none⟩ (.bool true)).heap.size = wr.heap.size by simp]; exact h.lt
  refine ⟨fun i hi => ?_, fun i => ?_, ?_, ?_⟩
  · rw [hb.cell (p := ⟨g, i, none⟩) hlt]
    have hs : saw day (k + 1) i = (saw day k i || ((j : Int) == (i : Int))) := by rw [saw, hj]
    rw [hs]
    by_cases hij : j = i
    · subst hij
      rw [World.cell?_setCell_same _ _ _ (h.c j hi)]
      simp
    · rw [World.cell?_setCell_other _ _ _ _ (by simp <;> omega), h.c i hi]
      have : ((j : Int) == (i : Int)) = false := by rw [beq_eq_false_iff_ne]; omega
      rw [this, Bool.or_false]
  · rw [hb.frozen (p := ⟨g, i, none⟩) hlt, World.frozen?_setCell]
    exact h.f i
  · have := hb.size; omega
  · exact (h.b.setCell hB _).trans (hb.mono (by have := h.b.size; have := h.lt; simp; omega))

theorem weekday_at {n : Int} {j : Nat} (hj : (n + 5) % 7 = j) (w : World) (h0 : 0 ≤ n) (h1 : n ≤ 1000000) :
    Calls Tryd.prog 16 #[.int .i64 n] w fun e w' => e = .returned (.int .i64 j) ∧ w = w' := by
  have := weekday_yes n w h0 h1
  rwa [hj] at this

set_option maxHeartbeats 4000000 in
set_option maxRecDepth 100000 in
theorem weeks_walk (day : Int) (v : Value) (L : List Int) (w : World) (h : PT w) (hv : RI w w.heap.size v L) :
    Calls Tryd.prog 5 #[.int .i64 day, v] w fun e w' => e = .returned (.bool true) ∧ Below w.heap.size w w' := by
  obtain ⟨A, cap, rfl, hlen, _, _⟩ := id hv
  by_cases hout : day < 0 ∨ 999993 < day
  · rcases hout with hout | hout
    · go_enter Tryd.func5, Tryd.ntmps5
      go_wp2_with fail
      refine (head_any _ h).mono ?_
      rintro e w1 ⟨rfl, bw⟩
      go_wp2
      go_ret
      exact ⟨rfl, bw⟩
    · go_enter Tryd.func5, Tryd.ntmps5
      go_wp2_with fail
      refine (head_any _ h).mono ?_
      rintro e w1 ⟨rfl, bw⟩
      go_wp2
      go_ret
      exact ⟨rfl, bw⟩
  · have d0 : 0 ≤ day := by omega
    have d1 : day ≤ 999993 := by omega
    have d1' : decide (999993 < day) = false := by simp; omega
    clear hout
    by_cases hbig : 60 < L.length
    · go_enter Tryd.func5, Tryd.ntmps5
      go_wp2_with fail
      refine (head_any _ h).mono ?_
      rintro e w1 ⟨rfl, bw⟩
      go_wp2
      go_ret
      exact ⟨rfl, bw⟩
    · have hbig' : decide (60 < L.length) = false := by simp; omega
      obtain ⟨i0, hi, hz0, hz1, hz2⟩ := info_parts infoBool
      go_enter Tryd.func5, Tryd.ntmps5
      go_wp2_with fail
      refine (head_any _ h).mono ?_
      rintro e w1 ⟨rfl, b1⟩
      go_wp2_with (at_make; refine wpList_make_full _ rfl _ _ 36 rfl w.heap.size 4 i0 (.bool false) 1 Tryd.underlying36 hi hz0 hz1 _ _ _ _ 7 rfl rfl rfl rfl (by rw [hz2]; decide) (by unfold maxLen; decide) b1.size ?_; intro w2 hown hgrow)
      have b2 : Below w.heap.size w w2 := b1.grown hgrow b1.size (fun k hk => by cases hk)
      have hg2 : w1.heap.size < w2.heap.size := by
        rcases hown.2 with ⟨h', _⟩ | ⟨g', cap', cur, h', _, hg, _⟩
        · simp at h'
        · simp only [Value.slice.injEq, Option.some.injEq, Addr.mk.injEq, and_true, true_and] at h'
          obtain ⟨rfl, rfl⟩ := h'
          exact (Array.getElem?_eq_some_iff.1 hg).1
      have hW : WeekW day w1.heap.size w.heap.size 0 w w2 := by
        refine ⟨fun j hj => ?_, fun j => hown.frozenAt j, hg2, b2⟩
        rw [hown.cellAt j (by omega)]
        have e := toList_madeCells_one (.bool false) 7
        simp only [Value.cells, Nat.mul_one] at e ⊢
        rw [e, List.getElem?_replicate, if_pos hj]
        rfl
      have hBg : w.heap.size ≤ w1.heap.size := b1.size
      have hc7 := cntW_7 day
      have HV := Lib.hid hv
      have HC7 := Lib.hid hc7
      clear hown hgrow b1 hz2 hz1 hz0 hi b2 hg2 hv hc7
      go_loopw [7, 8] (fun o i wr => ∃ k : Nat, k ≤ 7 ∧ i = .int .i64 k ∧ o = .int .i64 (cntW day k) ∧ WeekW day w1.heap.size w.heap.size k w wr) (fun _ i _ => 7 - (intOf i).toNat)
      case atStart => exact ⟨0, by omega, rfl, rfl, hW⟩
      case round =>
        clear hW
        obtain ⟨k, hk, rfl, rfl, hW⟩ := hrel
        by_cases hlt : k < 7
        · obtain ⟨j, hj⟩ : ∃ j : Nat, (day + k + 5) % 7 = j := ⟨((day + k + 5) % 7).toNat, by omega⟩
          have hj7 : j < 7 := by omega
          have hcell : wr.cell? ⟨w1.heap.size, j, none⟩ = some (.bool false) := by
            rw [hW.c j hj7, ← hj, saw_new day k hlt]
          have hfr := hW.f j
          have hnx := fun w' hb => hW.next (w' := w') hBg hj hb
          have cb := cntW_bd day k
          have hcs : cntW day (k + 1) = cntW day k + if (j : Int) < 5 then 1 else 0 := by rw [cntW, hj]
          have hriw := fun w' (hb : Below w.heap.size w w') => (HV.out.below hb).more hb.size
          have hbw := hW.b
          have hwg := hW.lt
          have HNX := Lib.hid hnx
          have HCS := Lib.hid hcs
          have HRI := Lib.hid hriw
          have HJ := Lib.hid hj
          have d2 : day + k ≤ 1000000 := by omega
          have d3 : 0 ≤ day + k := by omega
          clear hnx hcs hriw hW hj
          go_wp2_with fail
          refine (weekday_at HJ.out _ d3 d2).mono ?_
          rintro e w' ⟨rfl, rfl⟩
          have hbs : Below w.heap.size w (wr.setCell ⟨w1.heap.size, j, none⟩ (.bool true)) := hbw.setCell hBg _
          by_cases hj5 : (j : Int) < 5
          · have hb5 : j ≤ 4 := by omega
            have o1 : opn [] (day + k) = true := opn_yes ⟨d3, d2, by rw [HJ.out]; exact hj5, by simp⟩
            have O1 := Lib.hid o1
            clear o1
            by_cases hm : day + k ∈ L
            · have o2 : opn L (day + k) = false := opn_no (fun h => h.2.2.2 hm)
              have o3 : decide (day + k ∈ L) = true := by simpa using hm
              have O2 := Lib.hid o2
              have O3 := Lib.hid o3
              clear o2 o3 hm
              go_wp2_with fail
              refine (work_at O1.out _ _ (ri_nil _ _)).mono ?_
              rintro e w3 ⟨rfl, b3⟩
              have bw3 := hbs.trans (b3.mono hbs.size)
              go_wp2_with fail
              refine (work_at O2.out _ _ (HRI.out _ bw3)).mono ?_
              rintro e w4 ⟨rfl, b4⟩
              have bw4 := bw3.trans (b4.mono bw3.size)
              have bx := b3.trans (b4.mono b3.size)
              clear b3 b4 bw3
              go_wp2_with fail
              refine (in_any _ L _ _ (HRI.out _ bw4)).mono ?_
              rintro e w' ⟨rfl, rfl⟩
              rw [O3.out]
              go_wp2
              go_roundw
              case rel => exact ⟨k + 1, by omega, by go_num, by rw [HCS.out, if_pos hj5], HNX.out _ bx⟩
              case measure => simp [intOf]; omega
            · have o2 : opn L (day + k) = true := opn_yes ⟨d3, d2, by rw [HJ.out]; exact hj5, hm⟩
              have o3 : decide (day + k ∈ L) = false := by simpa using hm
              have O2 := Lib.hid o2
              have O3 := Lib.hid o3
              clear o2 o3 hm
              go_wp2_with fail
              refine (work_at O1.out _ _ (ri_nil _ _)).mono ?_
              rintro e w3 ⟨rfl, b3⟩
              have bw3 := hbs.trans (b3.mono hbs.size)
              go_wp2_with fail
              refine (work_at O2.out _ _ (HRI.out _ bw3)).mono ?_
              rintro e w4 ⟨rfl, b4⟩
              have bw4 := bw3.trans (b4.mono bw3.size)
              have bx := b3.trans (b4.mono b3.size)
              clear b3 b4 bw3
              go_wp2_with fail
              refine (in_any _ L _ _ (HRI.out _ bw4)).mono ?_
              rintro e w' ⟨rfl, rfl⟩
              rw [O3.out]
              go_wp2
              go_roundw
              case rel => exact ⟨k + 1, by omega, by go_num, by rw [HCS.out, if_pos hj5], HNX.out _ bx⟩
              case measure => simp [intOf]; omega
          · have hb5 : decide (j ≤ 4) = false := by simp; omega
            have o1 : opn [] (day + k) = false := opn_no (fun h => hj5 (by rw [← HJ.out]; exact h.2.2.1))
            have o2 : opn L (day + k) = false := opn_no (fun h => hj5 (by rw [← HJ.out]; exact h.2.2.1))
            have O1 := Lib.hid o1
            have O2 := Lib.hid o2
            clear o1 o2
            go_wp2_with fail
            refine (work_at O1.out _ _ (ri_nil _ _)).mono ?_
            rintro e w3 ⟨rfl, b3⟩
            have bw3 := hbs.trans (b3.mono hbs.size)
            go_wp2_with fail
            refine (work_at O2.out _ _ (HRI.out _ bw3)).mono ?_
            rintro e w4 ⟨rfl, b4⟩
            have bw4 := bw3.trans (b4.mono bw3.size)
            have bx := b3.trans (b4.mono b3.size)
            clear b3 b4 bw3
            go_wp2
            go_roundw
            case rel => exact ⟨k + 1, by omega, by go_num, by rw [HCS.out, if_neg (by omega), Int.add_zero], HNX.out _ bx⟩
            case measure => simp [intOf]; omega
        · obtain rfl : k = 7 := by omega
          rw [HC7.out]
          obtain ⟨j, hj⟩ : ∃ j : Nat, (day + 5) % 7 = j := ⟨((day + 5) % 7).toNat, by omega⟩
          have hj2 : (day + 7 + 5) % 7 = j := by omega
          have HJ := Lib.hid hj
          have HJ2 := Lib.hid hj2
          have bw := hW.b
          clear hj hj2 hW
          go_wp2_with fail
          refine (weekday_at HJ2.out _ (by omega) (by omega)).mono ?_
          rintro e w' ⟨rfl, rfl⟩
          go_wp2_with fail
          refine (weekday_at HJ.out _ (by omega) (by omega)).mono ?_
          rintro e w' ⟨rfl, rfl⟩
          go_wp2
          go_ret
          exact ⟨rfl, bw⟩

theorem weeks_card (day : Int) (v : Value) (L : List Int) (w : World) (h : PT w) (_ : -9223372036854775808 ≤ day ∧ day ≤ 9223372036854775807) (hv : RI w w.heap.size v L) :
    Calls Tryd.prog 5 #[.int .i64 day, v] w fun e w' => e = .returned (.bool true) ∧ Below w.heap.size w w' := weeks_walk day v L w h hv

end Go.Proofs.YtpelnfolnlmhdaaDoor
