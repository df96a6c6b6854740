/- WALK of lexer.classes. -/
import Derived.Test.YtficjcomefaocaaGreatDoorBaseA
import Derived.Test.YtficjcomefaocaaGreatDoorBaseB
import Derived.Test.YtficjcomefaocaaGreatDoorShelfS
import Derived.Laws.Tables
namespace Go.Proofs.YtficjcomefaocaaGreatDoor
open Go.RowKit Go.Maps
open Lexer

/-- the table when its first k places are set -/
def tab (k : Nat) : Array Value := Array.ofFn (n := 256) fun j => .int .u8 (if j.1 < k then (cls0 j.1 : Int) else 0)
theorem tab_size (k : Nat) : (tab k).size = 256 := by simp [tab]
theorem tab_at (k j : Nat) (hj : j < 256) : (tab k)[j]? = some (.int .u8 (if j < k then (cls0 j : Int) else 0)) := by simp [tab, hj]
theorem tab_succ (k : Nat) : tab (k + 1) = (tab k).setIfInBounds k (.int .u8 (cls0 k)) := by
  apply Array.ext
  · simp [tab]
  · intro j h1 h2
    have hj : j < 256 := by simpa [tab] using h1
    rw [Array.getElem_setIfInBounds (by simpa [tab] using hj)]
    simp only [tab, Array.getElem_ofFn]
    by_cases e : k = j
    · subst e; simp
    · rw [if_neg e]
      by_cases h : j < k
      · rw [if_pos h, if_pos (by omega)]
      · rw [if_neg h, if_neg (by omega)]
theorem tab_same (k : Nat) (h : cls0 k = 0) : tab (k + 1) = tab k := by
  rw [tab_succ]
  apply Array.ext
  · simp
  · intro j h1 h2
    rw [Array.getElem_setIfInBounds h2]
    by_cases e : k = j
    · subst e; rw [if_pos rfl, h]; simp [tab]
    · rw [if_neg e]
theorem tab_zero : Tryz.zeroCells170 = tab 0 := by kernel_rfl
theorem info256 : (Tryz.prog.info? 170).map (·.size) = some 256 := by kernel_rfl

theorem idx_nonneg (l : List UInt8) (c : UInt8) : decide (0 ≤ Lib.indexByte l c) = decide (c ∈ l) := by
  induction l with
  | nil => simp [Lib.indexByte]
  | cons b l ih =>
    rw [Lib.indexByte]
    by_cases hb : b = c
    · subst hb; simp
    · have h1 : (b == c) = false := by simpa using hb
      rw [h1]
      have hc : ¬ c = b := fun e => hb e.symm
      simp only [Bool.false_eq_true, if_false, List.mem_cons, hc, false_or]
      by_cases hi : 0 ≤ Lib.indexByte l c
      · have : (Lib.indexByte l c == -1) = false := by rw [beq_eq_false_iff_ne]; omega
        rw [this, ← ih]
        simp only [Bool.false_eq_true, if_false]
        have h2 : 0 ≤ Lib.indexByte l c + 1 := by omega
        simp [hi, h2]
      · rw [← ih]
        split
        · simp [hi]
        · rename_i h3
          have h3' : Lib.indexByte l c ≠ -1 := by simpa using h3
          have h2 : ¬ 0 ≤ Lib.indexByte l c + 1 := by omega
          simp [hi, h2]
/-- what the two look-ups say -/
theorem idx_blank (k : Nat) (hk : k < 256) : decide (0 ≤ Lib.indexByte [32, 9, 10] k.toUInt8) = decide (k = 32 ∨ k = 9 ∨ k = 10) := by
  rw [idx_nonneg]
  revert k
  decide +kernel
theorem idx_sym (k : Nat) (hk : k < 256) : decide (0 ≤ Lib.indexByte [59, 44, 46, 58, 40, 41, 91, 93, 123, 125, 61] k.toUInt8) = decide (k = 59 ∨ k = 44 ∨ k = 46 ∨ k = 58 ∨ k = 40 ∨ k = 41 ∨ k = 91 ∨ k = 93 ∨ k = 123 ∨ k = 125 ∨ k = 61) := by
  rw [idx_nonneg]
  revert k
  decide +kernel


theorem c_letter {k : Nat} (h : (97 ≤ k ∧ k ≤ 122) ∨ (65 ≤ k ∧ k ≤ 90)) : (cls0 k : Int) = 3 := by
  have : cls0 k = 3 := by unfold cls0 cls; (repeat' split) <;> omega
  omega
theorem c_digit {k : Nat} (h : 48 ≤ k ∧ k ≤ 57) : (cls0 k : Int) = 4 := by
  have : cls0 k = 4 := by unfold cls0 cls; (repeat' split) <;> omega
  omega
theorem c_blank {k : Nat} (h : k = 32 ∨ k = 9 ∨ k = 10) : (cls0 k : Int) = 1 := by
  have : cls0 k = 1 := by unfold cls0 cls; (repeat' split) <;> omega
  omega
theorem c_symbol {k : Nat} (h : k = 59 ∨ k = 44 ∨ k = 46 ∨ k = 58 ∨ k = 40 ∨ k = 41 ∨ k = 91 ∨ k = 93 ∨ k = 123 ∨ k = 125 ∨ k = 61) : (cls0 k : Int) = 6 := by
  have : cls0 k = 6 := by unfold cls0 cls; (repeat' split) <;> omega
  omega
theorem c_prefix {k : Nat} (h : k = 60 ∨ k = 62) : (cls0 k : Int) = 7 := by
  have : cls0 k = 7 := by unfold cls0 cls; (repeat' split) <;> omega
  omega
theorem c_other {k : Nat} (h : ¬ (97 ≤ k ∧ k ≤ 122) ∧ ¬ (65 ≤ k ∧ k ≤ 90) ∧ ¬ (48 ≤ k ∧ k ≤ 57) ∧ ¬ (k = 32 ∨ k = 9 ∨ k = 10) ∧ ¬ (k = 59 ∨ k = 44 ∨ k = 46 ∨ k = 58 ∨ k = 40 ∨ k = 41 ∨ k = 91 ∨ k = 93 ∨ k = 123 ∨ k = 125 ∨ k = 61) ∧ ¬ (k = 60 ∨ k = 62)) : cls0 k = 0 := by
  unfold cls0 cls; (repeat' split) <;> omega
/-- the whole table -/
def tabF : Array Value := Array.ofFn (n := 256) fun j => .int .u8 (cls j.1 : Int)
theorem tabF_eq : (((tab 256).setIfInBounds 35 (.int .u8 2)).setIfInBounds 95 (.int .u8 5)).setIfInBounds 33 (.int .u8 8) = tabF := by
  apply Array.ext
  · simp [tab, tabF]
  · intro j h1 h2
    have hj : j < 256 := by simpa [tabF] using h2
    rw [Array.getElem_setIfInBounds (by simpa [tab] using hj), Array.getElem_setIfInBounds (by simpa [tab] using hj), Array.getElem_setIfInBounds (by simpa [tab] using hj)]
    simp only [tab, tabF, Array.getElem_ofFn]
    by_cases e33 : 33 = j
    · subst e33; rfl
    · rw [if_neg e33]
      by_cases e95 : 95 = j
      · subst e95; rfl
      · rw [if_neg e95]
        by_cases e35 : 35 = j
        · subst e35; rfl
        · rw [if_neg e35, if_pos hj]
          have : cls0 j = cls j := by unfold cls0; rw [if_neg (by omega)]
          rw [this]
theorem tabF_size : tabF.size = 256 := by simp [tabF]
theorem tabF_one : tabF.all (·.oneCell') = true := by
  rw [Array.all_eq_true_iff_forall_mem]
  intro v hv
  simp [tabF] at hv
  obtain ⟨j, rfl⟩ := hv
  rfl
/-- what holds of the world in the loop -/
structure TabW (w wr : World) (k : Nat) : Prop where
  row : wr.heap[w.heap.size + 1]? = some (.cells (tab k) 170 (0, 0))
  out : wr.heap[w.heap.size]? = some (.cells (tab 0) 170 (0, 0))
  b : Below w.heap.size w wr
theorem TabW.put {w wr : World} {k : Nat} (h : TabW w wr k) (n : Int) (hn : (cls0 k : Int) = n) : TabW w (wr.setCell ⟨w.heap.size + 1, k, none⟩ (.int .u8 n)) (k + 1) := by
  subst hn
  refine ⟨?_, ?_, h.b.setCell (p := ⟨w.heap.size + 1, k, none⟩) (by simp) _⟩
  · rw [tab_succ]; exact heap_setCell_same _ _ _ _ _ _ h.row
  · rw [heap_setCell_other _ _ _ _ (by simp)]; exact h.out
theorem TabW.skip {w wr : World} {k : Nat} (h : TabW w wr k) (hn : cls0 k = 0) : TabW w wr (k + 1) := ⟨by rw [tab_same k hn]; exact h.row, h.out, h.b⟩

set_option maxHeartbeats 8000000 in
set_option maxRecDepth 100000 in
theorem classes_any (w : World) :
    Calls Tryz.prog 126 #[] w fun e w' => (∃ cs : Array Value, e = .returned (.agg cs) ∧ cs.size = 256 ∧ ∀ j, j < 256 → cs[j]? = some (.int .u8 (cls j))) ∧ Below w.heap.size w w' := by
  have hT0 : TabW w ((w.alloc (.cells Tryz.zeroCells170 170)).alloc (.cells Tryz.zeroCells170 170)) 0 :=
    ⟨by rw [heap_alloc2_new, tab_zero], by rw [heap_alloc2_old, tab_zero], ((Below.refl _ _).alloc (Nat.le_refl _) _).alloc (by simp) _⟩
  have HT0 := Lib.hid hT0
  clear hT0
  go_enter Tryz.func126, Tryz.ntmps126
  go_wp2
  go_loopw [4] (fun i wr => ∃ k : Nat, k ≤ 256 ∧ i = .int .i64 k ∧ TabW w wr k) (fun i _ => 256 - (intOf i).toNat)
  case atStart => exact ⟨0, Nat.zero_le _, rfl, HT0.out⟩
  case round =>
    obtain ⟨k, hk, rfl, hT⟩ := hrel
    by_cases hlt : k < 256
    · have hc := (cell_of_row wr (w.heap.size + 1) k _ _ _ hT.row).trans (tab_at k k hlt)
      have hf := frozen_of_row wr (w.heap.size + 1) k _ _ hT.row
      have hw : IntKind.u8.wrap (k : Int) = (k : Int) := by simp [IntKind.wrap, IntKind.bits, IntKind.signed]; omega
      have g0 : (0 : Int) ≤ (k : Int) := by omega
      have g1 : (k : Int) < 256 := by omega
      obtain ⟨IB, hIB⟩ : ∃ IB : ByteArray → Int, IB = fun s => Lib.indexByte s.data.toList k.toUInt8 := ⟨_, rfl⟩
      have i1 : 0 ≤ IB ⟨#[32, 9, 10]⟩ ↔ (k = 32 ∨ k = 9 ∨ k = 10) := by rw [hIB]; exact decide_eq_decide.1 (idx_blank k hlt)
      have i2 : 0 ≤ IB ⟨#[59, 44, 46, 58, 40, 41, 91, 93, 123, 125, 61]⟩ ↔ (k = 59 ∨ k = 44 ∨ k = 46 ∨ k = 58 ∨ k = 40 ∨ k = 41 ∨ k = 91 ∨ k = 93 ∨ k = 123 ∨ k = 125 ∨ k = 61) := by rw [hIB]; exact decide_eq_decide.1 (idx_sym k hlt)
      have I1 := Lib.hid i1
      have I2 := Lib.hid i2
      have HT := Lib.hid hT
      have n1 : ∀ s w, Calls Tryz.prog 148 #[.string s, .int .u8 k] w fun e w' => e = .returned (.int .i64 (IB s)) ∧ w' = w := fun s w => by
        rw [hIB]; exact Tryz.strings_IndexByte s k w
      have N1 := Lib.hid n1
      clear hIB i1 i2 hT n1
      by_cases h60 : k = 60
      · subst h60
        have j1 : decide (0 ≤ IB ⟨#[32, 9, 10]⟩) = false := by rw [decide_eq_false_iff_not, I1.out]; decide
        have j2 : decide (0 ≤ IB ⟨#[59, 44, 46, 58, 40, 41, 91, 93, 123, 125, 61]⟩) = false := by rw [decide_eq_false_iff_not, I2.out]; decide
        go_wp2_with (go_at_call 148; refine (N1.out _ _).mono ?_; rintro e w' ⟨rfl, rfl⟩)
        go_roundw
        case rel => exact ⟨60 + 1, by omega, by go_num, HT.out.put 7 (by decide)⟩
        case measure => simp [intOf]
      by_cases h62 : k = 62
      · subst h62
        have j1 : decide (0 ≤ IB ⟨#[32, 9, 10]⟩) = false := by rw [decide_eq_false_iff_not, I1.out]; decide
        have j2 : decide (0 ≤ IB ⟨#[59, 44, 46, 58, 40, 41, 91, 93, 123, 125, 61]⟩) = false := by rw [decide_eq_false_iff_not, I2.out]; decide
        go_wp2_with (go_at_call 148; refine (N1.out _ _).mono ?_; rintro e w' ⟨rfl, rfl⟩)
        go_roundw
        case rel => exact ⟨62 + 1, by omega, by go_num, HT.out.put 7 (by decide)⟩
        case measure => simp [intOf]
      have e60 : ((k : Int) == 60) = false := by rw [beq_eq_false_iff_ne]; omega
      have e62 : ((k : Int) == 62) = false := by rw [beq_eq_false_iff_ne]; omega
      go_wp2_with (go_at_call 148; refine (N1.out _ _).mono ?_; rintro e w' ⟨rfl, rfl⟩)
      all_goals go_roundw
      all_goals first
        | (case' rel =>
            have h1 := I1.out
            have h2 := I2.out
            refine ⟨k + 1, by omega, by go_num, ?_⟩
            first
              | exact HT.out.put 3 (c_letter (by omega))
              | exact HT.out.put 4 (c_digit (by omega))
              | exact HT.out.put 1 (c_blank (by omega))
              | exact HT.out.put 6 (c_symbol (by omega))
              | exact HT.out.put 7 (c_prefix (by omega))
              | exact HT.out.skip (c_other (by omega)))
        | (simp [intOf]; done)
        | (simp [intOf]; omega)
    · obtain rfl : k = 256 := by omega
      have c35 := (cell_of_row wr (w.heap.size + 1) 35 _ _ _ hT.row).trans (tab_at 256 35 (by omega))
      have c95 := (cell_of_row wr (w.heap.size + 1) 95 _ _ _ hT.row).trans (tab_at 256 95 (by omega))
      have c33 := (cell_of_row wr (w.heap.size + 1) 33 _ _ _ hT.row).trans (tab_at 256 33 (by omega))
      have f35 := frozen_of_row wr (w.heap.size + 1) 35 _ _ hT.row
      have f95 := frozen_of_row wr (w.heap.size + 1) 95 _ _ hT.row
      have f33 := frozen_of_row wr (w.heap.size + 1) 33 _ _ hT.row
      have r1 := heap_setCell_same _ (w.heap.size + 1) 35 _ _ (.int .u8 2) hT.row
      have r2 := heap_setCell_same _ (w.heap.size + 1) 95 _ _ (.int .u8 5) r1
      have r3 := heap_setCell_same _ (w.heap.size + 1) 33 _ _ (.int .u8 8) r2
      rw [tabF_eq] at r3
      have b1 := hT.b.setCell (p := ⟨w.heap.size + 1, 35, none⟩) (by simp) (.int .u8 2)
      have b2 := b1.setCell (p := ⟨w.heap.size + 1, 95, none⟩) (by simp) (.int .u8 5)
      have b3 := b2.setCell (p := ⟨w.heap.size + 1, 33, none⟩) (by simp) (.int .u8 8)
      have HT := Lib.hid hT
      have R3 := Lib.hid r3
      have B3 := Lib.hid b3
      clear hT r1 r2 r3 b1 b2 b3
      have r4 : (((wr.setCell ⟨w.heap.size + 1, 35, none⟩ (.int .u8 2)).setCell ⟨w.heap.size + 1, 95, none⟩ (.int .u8 5)).setCell ⟨w.heap.size + 1, 33, none⟩ (.int .u8 8)).heap[w.heap.size]? = some (.cells (tab 0) 170 (0, 0)) := by
        rw [heap_setCell_other _ _ _ _ (by simp), heap_setCell_other _ _ _ _ (by simp), heap_setCell_other _ _ _ _ (by simp)]; exact HT.out.out
      have R4 := Lib.hid r4
      clear r4
      go_wp2_with (first
        | (refine wpList_load_row rfl 170 (.tmp 1) rfl (w.heap.size + 1) rfl 170 _ (0, 0) _ R3.out Tryz.underlying170 rfl (by rw [info256, tabF_size]) ?_)
        | (refine wpList_store_row rfl 170 (.tmp 0) (.tmp 56) rfl w.heap.size _ rfl rfl 170 _ R4.out (by rw [info256, tabF_size]) (by rw [tabF_size, tab_size]) tabF_one ?_))
      refine bodyPost_ret (v := .agg tabF) (results_cell_row rfl _ _ w.heap.size 170 tabF (0, 0) _ rfl (setRow_heap _ _ _ _ _ _ R4.out) Tryz.underlying170 rfl (by rw [info256, tabF_size])) rfl ⟨⟨tabF, rfl, tabF_size, fun j hj => by simp [tabF, hj]⟩, ?_⟩
      have b3 := B3.out
      exact ⟨b3.os, b3.tape, b3.output, by simpa using b3.size, fun j hj => (setRow_other _ _ _ _ (by omega)).trans (b3.block j hj)⟩
end Go.Proofs.YtficjcomefaocaaGreatDoor
