/- WALK of CalendarEnds. -/
import Derived.Test.YtpelnfolnlmhdaaDoorHead
import Derived.Test.YtpelnfolnlmhdaaDoorRefLight
import Derived.Test.YtpelnfolnlmhdaaDoorLawEndsPlain
namespace Go.Proofs.YtpelnfolnlmhdaaDoor
open Go.RowKit Go.Maps
open Cal

/-- block b holds a term -/
def TermAt (w : World) (b : Nat) (N U : Int) : Prop := w.heap[b]? = some (.cells #[.int .i64 N, .int .i64 U] 29 (0, 0))
theorem TermAt.below {w w' : World} {b B : Nat} {N U : Int} (h : TermAt w b N U) (hb : Below B w w') (hB : b < B) : TermAt w' b N U := (hb.block b hB).trans h
theorem TermAt.new (w : World) (N U : Int) : TermAt (w.alloc (.cells #[.int .i64 N, .int .i64 U] 29)) w.heap.size N U := heap_alloc_new w _
theorem TermAt.c0 {w : World} {b : Nat} {N U : Int} (h : TermAt w b N U) : w.cell? ⟨b, 0, none⟩ = some (.int .i64 N) := cell_of_row w b 0 _ _ _ h
theorem TermAt.c1 {w : World} {b : Nat} {N U : Int} (h : TermAt w b N U) : w.cell? ⟨b, 1, none⟩ = some (.int .i64 U) := cell_of_row w b 1 _ _ _ h
theorem TermAt.lt {w : World} {b : Nat} {N U : Int} (h : TermAt w b N U) : b < w.heap.size := (Array.getElem?_eq_some_iff.1 h).1

set_option maxHeartbeats 4000000 in
set_option maxRecDepth 100000 in
theorem ends_walk (day N U : Int) (v : Value) (L : List Int) (w : World) (h : PT w) (hv : RI w w.heap.size v L) :
    Calls Tryd.prog 6 #[.int .i64 day, .agg #[.int .i64 N, .int .i64 U], v] w fun e w' => e = .returned (.bool true) ∧ Below w.heap.size w w' := by
  have hpt1 : PT (w.alloc (.cells #[.int .i64 N, .int .i64 U] 29)) := h.below ((Below.refl w.heap.size w).alloc (Nat.le_refl _) _) (Nat.le_refl _)
  have hb0 : Below w.heap.size w (w.alloc (.cells #[.int .i64 N, .int .i64 U] 29)) := (Below.refl _ _).alloc (Nat.le_refl _) _
  have HV := Lib.hid hv
  have hri : ∀ w', Below w.heap.size w w' → RI w' w'.heap.size v L := fun w' hb => (HV.out.below hb).more hb.size
  have HRI := Lib.hid hri
  obtain ⟨A, cap, rfl, hlen, _, _⟩ := hv
  clear hri
  by_cases hlight : (U ≠ 5 ∨ N ≤ 3000) ∧ (L.length : Int) ≤ 60
  · obtain ⟨hl1, hl2⟩ := hlight
    obtain ⟨E, er, hE⟩ : ∃ E er, addV day N U L = (E, er) := ⟨_, _, rfl⟩
    have HE := Lib.hid hE
    clear hE
    go_enter Tryd.func6, Tryd.ntmps6
    go_wp2_with fail
    refine (head_any _ hpt1).mono ?_
    rintro e w1 ⟨rfl, b1⟩
    have htm := (TermAt.new w N U).below b1 (by simp)
    have bw := hb0.trans (b1.mono (by simp))
    clear b1 hb0 hpt1
    have HL1 := Lib.hid hl1
    clear hl1
    go_wp2_with (refine wpList_load_row rfl 29 (.tmp 4) rfl w.heap.size rfl 29 _ (0, 0) _ htm Tryd.underlying29 rfl (by kernel_rfl) ?_)
    refine (light_yes _ _ _ _ L _ (HRI.out _ bw) HL1.out hl2).mono ?_
    rintro e w2 ⟨rfl, b'⟩
    have htm2 := htm.below b' htm.lt
    replace bw := bw.trans (b'.mono bw.size)
    replace htm := htm2
    clear b' htm2
    go_wp2_with (refine wpList_load_row rfl 29 (.tmp 4) rfl w.heap.size rfl 29 _ (0, 0) _ htm Tryd.underlying29 rfl (by kernel_rfl) ?_)
    refine (add_at HE.out _ _ (HRI.out _ bw)).mono ?_
    rintro e w3 ⟨rfl, b'⟩
    have htm2 := htm.below b' htm.lt
    replace bw := bw.trans (b'.mono bw.size)
    replace htm := htm2
    clear b' htm2
    by_cases her : er = 0
    · subst her
      have hend := add_end HE.out
      obtain ⟨e0, e1, hopen⟩ := hend
      obtain ⟨⟨d0, d1, u0, u1, n0, n1⟩, _, _⟩ := addV_val HE.out
      have HO := Lib.hid hopen
      have HARG := Lib.hid (argOk_unit (addV_val HE.out).1)
      clear hopen
      have e0b : decide (E < day) = false := by simp; omega
      go_wp2_with fail
      refine (work_at HO.out _ _ (HRI.out _ bw)).mono ?_
      rintro e w4 ⟨rfl, b'⟩
      replace htm := htm.below b' htm.lt
      replace bw := bw.trans (b'.mono bw.size)
      have c0 := htm.c0
      have c1 := htm.c1
      clear b'
      rcases HARG.out with rfl | rfl | rfl | rfl | rfl
      · obtain ⟨hle, hno⟩ := add_day_none HE.out
        have HNO := Lib.hid hno
        clear hno
        go_wp2_with fail
        refine (none_yes _ _ _ L _ (HRI.out _ bw) hle (by omega) (by omega) HNO.out).mono ?_
        rintro e w5 ⟨rfl, b'⟩
        replace bw := bw.trans (b'.mono bw.size)
        go_wp2
        go_ret
        exact ⟨rfl, bw⟩
      · obtain ⟨hle, hno⟩ := add_week_none HE.out
        have HNO := Lib.hid hno
        clear hno
        go_wp2_with fail
        refine (none_yes _ _ _ L _ (HRI.out _ bw) hle (by omega) (by omega) HNO.out).mono ?_
        rintro e w5 ⟨rfl, b'⟩
        replace bw := bw.trans (b'.mono bw.size)
        go_wp2
        go_ret
        exact ⟨rfl, bw⟩
      · go_wp2
        go_ret
        exact ⟨rfl, bw⟩
      · go_wp2
        go_ret
        exact ⟨rfl, bw⟩
      · by_cases hN : N = 0
        · subst hN
          obtain ⟨hle, hno⟩ := add_work0_none HE.out
          have HNO := Lib.hid hno
          clear hno
          go_wp2_with fail
          refine (none_yes _ _ _ L _ (HRI.out _ bw) hle (by omega) (by omega) HNO.out).mono ?_
          rintro e w5 ⟨rfl, b'⟩
          replace bw := bw.trans (b'.mono bw.size)
          go_wp2
          go_ret
          exact ⟨rfl, bw⟩
        · have hNb : (N == 0) = false := by simpa using hN
          have hcnt := add_work_count HE.out hN
          have HC := Lib.hid hcnt
          clear hcnt hN
          go_wp2_with fail
          obtain ⟨wo, hwo⟩ : ∃ wo : World, wo = w4 := ⟨_, rfl⟩
          go_loopw [10, 11] (fun n i wr => ∃ k : Nat, (k : Int) ≤ E - day ∧ i = .int .i64 (day + k + 1) ∧ n = .int .i64 (cO L day k) ∧ TermAt wr w.heap.size N 5 ∧ Below w.heap.size w wr) (fun _ i _ => (E + 1 - intOf i).toNat)
          case atStart => exact ⟨0, by omega, by simp, rfl, htm, bw⟩
          case round =>
            clear htm bw c0 c1 hwo
            obtain ⟨k, hk, rfl, rfl, htm, bw⟩ := hrel
            have c0 := htm.c0
            have cb := cO_bd L day k
            by_cases hlt : (k : Int) < E - day
            · cases ho : opn L (day + k + 1)
              · have hcs : cO L day (k + 1) = cO L day k := by rw [cO, ho]; simp
                have HCS := Lib.hid hcs
                have HOP := Lib.hid ho
                clear hcs ho
                go_wp2_with fail
                refine (work_at HOP.out _ _ (HRI.out _ bw)).mono ?_
                rintro e w5 ⟨rfl, b'⟩
                have htm2 := htm.below b' htm.lt
                have bw2 := bw.trans (b'.mono bw.size)
                clear b' c0
                go_wp2
                go_roundw
                case rel => exact ⟨k + 1, by omega, by go_num, by rw [HCS.out], htm2, bw2⟩
                case measure => simp [intOf]; omega
              · have hcs : cO L day (k + 1) = cO L day k + 1 := by rw [cO, ho]; simp
                have HCS := Lib.hid hcs
                have HOP := Lib.hid ho
                clear hcs ho
                go_wp2_with fail
                refine (work_at HOP.out _ _ (HRI.out _ bw)).mono ?_
                rintro e w5 ⟨rfl, b'⟩
                have htm2 := htm.below b' htm.lt
                have bw2 := bw.trans (b'.mono bw.size)
                clear b' c0
                go_wp2
                go_roundw
                case rel => exact ⟨k + 1, by omega, by go_num, by rw [HCS.out], htm2, bw2⟩
                case measure => simp [intOf]; omega
            · have hcN : cO L day k = N := by rw [← HC.out]; congr 1; omega
              rw [hcN]
              clear hcN
              go_wp2
              go_ret
              exact ⟨rfl, bw⟩
    · have herb : (er != 0) = true := by simpa using her
      obtain rfl := addV_err HE.out her
      clear her
      go_wp2
      go_ret
      exact ⟨rfl, bw⟩
  · go_enter Tryd.func6, Tryd.ntmps6
    go_wp2_with fail
    refine (head_any _ hpt1).mono ?_
    rintro e w1 ⟨rfl, b1⟩
    have htm := (TermAt.new w N U).below b1 (by simp)
    have bw := hb0.trans (b1.mono (by simp))
    clear b1 hb0 hpt1
    have HL := Lib.hid hlight
    clear hlight
    go_wp2_with (refine wpList_load_row rfl 29 (.tmp 4) rfl w.heap.size rfl 29 _ (0, 0) _ htm Tryd.underlying29 rfl (by kernel_rfl) ?_)
    refine (light_no _ _ _ _ L _ (HRI.out _ bw) (by have := HL.out; omega)).mono ?_
    rintro e w2 ⟨rfl, b'⟩
    replace bw := bw.trans (b'.mono bw.size)
    go_wp2
    go_ret
    exact ⟨rfl, bw⟩

theorem ends_card (day N U : Int) (v : Value) (L : List Int) (w : World) (h : PT w) (_ : -9223372036854775808 ≤ day ∧ day ≤ 9223372036854775807) (_ : -9223372036854775808 ≤ N ∧ N ≤ 9223372036854775807) (_ : -9223372036854775808 ≤ U ∧ U ≤ 9223372036854775807) (hv : RI w w.heap.size v L) :
    Calls Tryd.prog 6 #[.int .i64 day, .agg #[.int .i64 N, .int .i64 U], v] w fun e w' => e = .returned (.bool true) ∧ Below w.heap.size w w' := ends_walk day N U v L w h hv

end Go.Proofs.YtpelnfolnlmhdaaDoor
