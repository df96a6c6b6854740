/- WALK of CalendarMany. -/
import Derived.Test.YtpelnfolnlmhdaaDoorHead
import Derived.Test.YtpelnfolnlmhdaaDoorLawManyPlain
namespace Go.Proofs.YtpelnfolnlmhdaaDoor
open Go.RowKit Go.Maps
open Cal

theorem infoInt : (Tryd.prog.info? 3).map (fun i => (i.zero, i.size, i.bytes)) = some (some (.int .i64 0), 1, 8) := by kernel_rfl

theorem RI.of_own {w : World} {base g n : Nat} {L : List Int} (h : w.ownsRow base 3 1 (.slice (some ⟨g, 0, none⟩) n n) n (L.map (Value.int .i64))) (hg : g < w.heap.size) (hn : L.length = n) (hl : n ≤ 1000000) (hw : ∀ x ∈ L, (Lit.int .i64 x).wf = true) :
    RI w w.heap.size (.slice (some ⟨g, 0, none⟩) n n) L := by
  refine ⟨some ⟨g, 0, none⟩, n, by rw [hn], by omega, hw, .inr ⟨g, 0, rfl, hg, fun k hk => ?_⟩⟩
  rw [Nat.zero_add, h.cellAt k (by omega), List.getElem?_map, List.getD_eq_getElem?_getD, List.getElem?_eq_getElem hk]
  rfl

set_option maxHeartbeats 1000000 in
set_option maxRecDepth 100000 in
theorem many_walk (many day : Int) (w : World) (h : PT w) (m0 : 0 ≤ many) (m1 : many ≤ 65535) (d0 : 0 ≤ day) (d1 : day ≤ 65535) :
    Calls Tryd.prog 3 #[.int .u16 many, .int .u16 day] w fun e w' => e = .returned (.bool true) ∧ Below w.heap.size w w' := by
  obtain ⟨n, hn⟩ : ∃ n : Nat, many % 1101 = n := ⟨(many % 1101).toNat, by omega⟩
  have n1 : n ≤ 1100 := by omega
  obtain ⟨i0, hi, hz0, hz1, hz2⟩ := info_parts infoInt
  have HN := Lib.hid hn
  clear hn
  go_enter Tryd.func3, Tryd.ntmps3
  go_wp2_with fail
  refine (head_any _ h).mono ?_
  rintro e w1 ⟨rfl, b1⟩
  go_wp2_with (at_make; refine wpList_make_full _ rfl _ _ 24 rfl w.heap.size 3 i0 (.int .i64 0) 1 Tryd.underlying24 hi hz0 hz1 _ _ _ _ n rfl rfl HN.out HN.out (by rw [hz2]; omega) (by unfold maxLen; omega) b1.size ?_; intro w2 hown hgrow)
  obtain ⟨A, hA⟩ : ∃ A : List Value, A = (span day n).map (Value.int .i64) := ⟨_, rfl⟩
  have hAl : A.length = n := by rw [hA, List.length_map, span_length]
  have hAk : ∀ k, k < n → A.getD k (.int .i64 0) = .int .i64 (day + k) := by
    intro k hk
    have := span_getD day n k hk
    rw [List.getD_eq_getElem?_getD, List.getElem?_eq_getElem (by rw [span_length]; exact hk)] at this
    rw [hA, List.getD_eq_getElem?_getD, List.getElem?_map, List.getElem?_eq_getElem (by rw [span_length]; exact hk)]
    simp only [Option.getD_some, Option.map_some] at this ⊢
    rw [this]
  have hstart : w2.ownsRow w.heap.size 3 1 (.slice (some ⟨w1.heap.size, 0, none⟩) n n) n (A.take 0 ++ List.replicate (n - 0) (.int .i64 0)) := by
    have e := toList_madeCells_one (.int .i64 0) n
    simpa [Value.cells, e] using hown
  have b2 : Below w.heap.size w w2 := b1.grown hgrow b1.size (fun k hk => by cases hk)
  have hg2 : w1.heap.size < w2.heap.size := by
    rcases hown.2 with ⟨h', _⟩ | ⟨g', cap', cur, h', _, hg, _⟩
    · simp at h'
    · simp only [Value.slice.injEq, Option.some.injEq, Addr.mk.injEq, and_true, true_and] at h'
      obtain ⟨rfl, rfl⟩ := h'
      exact (Array.getElem?_eq_some_iff.1 hg).1
  have b12 := b1.size
  have HA := Lib.hid hA
  have HAL := Lib.hid hAl
  have HAK := Lib.hid hAk
  clear hA hAl hAk hown hgrow b1 hz2 hz1 hz0 hi
  go_loopw [8] (fun i wr => ∃ k : Nat, k ≤ n ∧ i = .int .i64 k ∧ wr.ownsRow w.heap.size 3 1 (.slice (some ⟨w1.heap.size, 0, none⟩) n n) n (A.take k ++ List.replicate (n - k) (.int .i64 0)) ∧ Below w.heap.size w wr ∧ w1.heap.size < wr.heap.size) (fun i _ => n - (intOf i).toNat)
  case atStart => exact ⟨0, Nat.zero_le _, rfl, hstart, b2, hg2⟩
  case round =>
    obtain ⟨k, hk, rfl, hown, hbw, hg⟩ := hrel
    clear b2 hg2 hstart
    by_cases hlt : k < n
    · have hlt' : (k : Int) < many % 1101 := by rw [HN.out]; omega
      have hcell : wr.cell? ⟨w1.heap.size, k, none⟩ = some (.int .i64 0) := by
        rw [hown.cellAt k (by omega), List.getElem?_append_right (by rw [List.length_take]; omega), List.length_take, HAL.out, Nat.min_eq_left (by omega), Nat.sub_self, List.getElem?_replicate, if_pos (by omega)]
      have hfr := hown.frozenAt k
      have hst := hown.stored k (.int .i64 (day + k))
      rw [show (Value.int .i64 (day + k)) = A.getD k (.int .i64 0) from (HAK.out k hlt).symm, fill_step A _ n k HAL.out hlt, HAK.out k hlt] at hst
      have HST := Lib.hid hst
      clear hst hown
      go_wp2
      go_roundw
      case rel => exact ⟨k + 1, by omega, by go_num, HST.out.1, hbw.setCell (by simpa using b12) _, by simpa using hg⟩
      case measure => simp [intOf]; omega
    · have hlt' : ¬ (k : Int) < many % 1101 := by rw [HN.out]; omega
      obtain rfl : k = n := by omega
      have hfull : A.take k ++ List.replicate (k - k) (.int .i64 0) = (span day k).map (Value.int .i64) := by
        rw [Nat.sub_self, List.replicate_zero, List.append_nil, List.take_of_length_le (by rw [HAL.out]; exact Nat.le_refl _), HA.out]
      rw [hfull] at hown
      have hri := RI.of_own hown hg (span_length day k) (by omega) (fun x hx => by have := (span_mem day k x).1 hx; exact WalkArith.wf_i64 (by omega))
      clear hfull hown
      have HRI := Lib.hid hri
      go_wp2_with fail
      refine (term_any _ _ _).mono ?_
      rintro e w3 ⟨rfl, b3'⟩
      have b3 := hbw.trans (b3'.mono hbw.size)
      have hri3 := (HRI.out.below b3').more b3'.size
      clear hri
      by_cases hbig : 1000 < k
      · have hbig' : 1000 < many % 1101 := by rw [HN.out]; omega
        go_wp2_with fail
        refine (add_at (many_limit day k d0 d1 hbig) _ _ hri3).mono ?_
        rintro e w4 ⟨rfl, b4'⟩
        have b4 := b3.trans (b4'.mono b3.size)
        go_wp2
        go_ret
        exact ⟨rfl, b4⟩
      · have hbig' : many % 1101 ≤ 1000 := by rw [HN.out]; omega
        obtain ⟨r, hr, r0, r1⟩ := many_few day k d0 d1 (by omega)
        go_wp2_with fail
        refine (add_at hr _ _ hri3).mono ?_
        rintro e w4 ⟨rfl, b4'⟩
        have b4 := b3.trans (b4'.mono b3.size)
        have r0' : day + many % 1101 ≤ r := by rw [HN.out]; exact r0
        have r1' : r ≤ day + many % 1101 + 2 := by rw [HN.out]; exact r1
        clear hr
        go_wp2
        go_ret
        exact ⟨rfl, b4⟩

theorem many_card (many day : Int) (w : World) (h : PT w) (hm : 0 ≤ many ∧ many ≤ 65535) (hd : 0 ≤ day ∧ day ≤ 65535) :
    Calls Tryd.prog 3 #[.int .u16 many, .int .u16 day] w fun e w' => e = .returned (.bool true) ∧ Below w.heap.size w w' := many_walk many day w h hm.1 hm.2 hd.1 hd.2

end Go.Proofs.YtpelnfolnlmhdaaDoor
