/- WALK of the reference's In. -/
import Derived.Test.YtpelnfolnlmhdaaDoorCalF
namespace Go.Proofs.YtpelnfolnlmhdaaDoor
open Go.RowKit Go.Maps
open Cal

theorem take_mem {L : List Int} {k : Nat} (hk : k < L.length) (n : Int) (h : n ∉ L.take k) (h2 : L.getD k 0 ≠ n) : n ∉ L.take (k + 1) := by
  rw [take_getD L k hk]
  intro hm
  rcases List.mem_append.1 hm with h' | h'
  · exact h h'
  · simp only [List.mem_singleton] at h'; exact h2 h'.symm

/-- the reference's search -/
theorem in_any (v : Value) (L : List Int) (n : Int) (w : World) (h : RI w w.heap.size v L) :
    Calls Tryd.prog 18 #[v, .int .i64 n] w fun e w' => e = .returned (.bool (decide (n ∈ L))) ∧ w = w' := by
  obtain ⟨A, cap, rfl, hl, hw, h⟩ := h
  rcases h with rfl | ⟨b, off, rfl, hB, hc⟩
  · go_enter Tryd.func18, Tryd.ntmps18
    go_wp2
    refine wp_loop_rounds 1 ?_
    rw [rounds_succ]
    go_wp2
    go_ret
    exact ⟨rfl, rfl⟩
  · obtain ⟨B, hB⟩ : ∃ B, B = decide (n ∈ L) := ⟨_, rfl⟩
    rw [← hB]
    have HB := Lib.hid hB
    clear hB
    go_enter Tryd.func18, Tryd.ntmps18
    go_wp2
    go_loop [5] (fun i => ∃ k : Nat, k ≤ L.length ∧ i = .int .i64 k ∧ n ∉ L.take k) (fun i => L.length - (intOf i).toNat)
    case atStart => exact ⟨0, Nat.zero_le _, rfl, by simp⟩
    case round =>
      obtain ⟨k, hk, rfl, hn⟩ := hrel
      have HN := Lib.hid hn
      clear hn
      by_cases hlt : k < L.length
      · have hcell := hc k hlt
        obtain ⟨x, hx⟩ : ∃ x, x = L.getD k 0 := ⟨_, rfl⟩
        rw [← hx] at hcell
        have HX := Lib.hid hx
        clear hx
        have HC := Lib.hid hc
        clear hc
        by_cases he : x = n
        · have heb : (x == n) = true := by simpa using he
          have hB2 : B = true := by
            rw [HB.out, decide_eq_true_eq, ← he, HX.out, List.getD_eq_getElem?_getD, List.getElem?_eq_getElem hlt]
            simp
          have HB2 := Lib.hid hB2
          clear he hB2
          go_wp2
          go_ret
          exact ⟨by rw [HB2.out]; rfl, rfl⟩
        · have heb : (x == n) = false := by simpa using he
          have hn2 := take_mem hlt n HN.out (by rw [← HX.out]; exact he)
          have HN2 := Lib.hid hn2
          clear he hn2
          go_wp2
          go_round
          case rel => exact ⟨k + 1, by omega, by go_num, HN2.out⟩
          case measure => simp [intOf]; omega
      · have hB2 : B = false := by
          rw [HB.out, decide_eq_false_iff_not]
          have := HN.out
          rwa [List.take_of_length_le (by omega)] at this
        have HB2 := Lib.hid hB2
        clear hB2
        go_wp2
        go_ret
        exact ⟨by rw [HB2.out]; rfl, rfl⟩

end Go.Proofs.YtpelnfolnlmhdaaDoor
