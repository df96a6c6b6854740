/- WALKS of lexer.tokens and its closure at. -/
import Derived.Test.YtficjcomefaocaaGreatDoorLexA
import Derived.Laws.EntriesVeiled
namespace Go.Proofs.YtficjcomefaocaaGreatDoor
open Go.RowKit Go.Maps
open Lexer

/-- what the closures of tokens have captured: the text, the table, at itself -/
structure LexW (w : World) (s : ByteArray) (tb cb ab : Nat) : Prop where
  text : w.cell? ⟨tb, 0, none⟩ = some (.string s)
  tab : ∀ j, j < 256 → w.cell? ⟨cb, j, none⟩ = some (.int .u8 (cls j))
  at_ : w.cell? ⟨ab, 0, none⟩ = some (.func (.func 127) #[] #[.pointer (some ⟨tb, 0, none⟩), .pointer (some ⟨cb, 0, none⟩)])
  lt : tb < w.heap.size
  lc : cb < w.heap.size
  la : ab < w.heap.size
theorem LexW.below {w w' : World} {s : ByteArray} {tb cb ab B : Nat} (h : LexW w s tb cb ab) (hb : Below B w w') (h1 : tb < B) (h2 : cb < B) (h3 : ab < B) : LexW w' s tb cb ab :=
  ⟨(hb.cell (p := ⟨tb, 0, none⟩) h1).trans h.text, fun j hj => (hb.cell (p := ⟨cb, j, none⟩) h2).trans (h.tab j hj), (hb.cell (p := ⟨ab, 0, none⟩) h3).trans h.at_, Nat.lt_of_lt_of_le h.lt hb.size, Nat.lt_of_lt_of_le h.lc hb.size, Nat.lt_of_lt_of_le h.la hb.size⟩

set_option maxHeartbeats 1000000 in
set_option maxRecDepth 100000 in
theorem at_any (s : ByteArray) (k : Nat) (tb cb ab : Nat) (w : World) (h : LexW w s tb cb ab) :
    Calls Tryz.prog 127 #[.int .i64 k, .pointer (some ⟨tb, 0, none⟩), .pointer (some ⟨cb, 0, none⟩)] w fun e w' => e = .returned (.int .u8 (at' s k)) ∧ w' = w := by
  have ct := h.text
  by_cases hlt : k < s.size
  · have hb : bt s k < 256 := by unfold bt; exact UInt8.toNat_lt _
    have hc := h.tab (bt s k) hb
    have ha : at' s k = cls (bt s k) := by unfold at'; rw [if_neg (by omega)]
    rw [ha]
    have hbt : (bt s k : Int) = ((s[k]'hlt).toNat : Int) := by
      unfold bt
      rw [List.getD_eq_getElem?_getD, List.getElem?_eq_getElem (by simpa using hlt)]
      rfl
    have h255 : ((s[k]'hlt).toNat : Int) < 256 := by have := UInt8.toNat_lt (s[k]'hlt); omega
    have hn : bt s k = (s[k]'hlt).toNat := by omega
    rw [hn] at hc
    rw [hn]
    have g1 : (k : Int) < (s.size : Int) := by omega
    clear ha hbt hn hb h
    go_enter Tryz.func127, Tryz.ntmps127
    go_wp2
    go_ret
    exact ⟨rfl, rfl⟩
  · have ha : at' s k = 0 := at_end (by omega)
    rw [ha]
    have g1 : decide ((s.size : Int) ≤ (k : Int)) = true := by simp; omega
    go_enter Tryz.func127, Tryz.ntmps127
    go_wp2
    go_ret
    exact ⟨rfl, rfl⟩

set_option maxHeartbeats 2000000 in
set_option maxRecDepth 100000 in
theorem tokens_any (s : ByteArray) (w : World) :
    Calls Tryz.prog 106 #[.string s] w fun e w' => ∃ tb cb ab, e = .returned (.func (.func 128) #[] #[.pointer (some ⟨tb, 0, none⟩), .pointer (some ⟨ab, 0, none⟩)]) ∧ LexW w' s tb cb ab ∧ w.heap.size ≤ tb ∧ w.heap.size ≤ cb ∧ w.heap.size ≤ ab ∧ Below w.heap.size w w' := by
  have b0 := (Below.refl w.heap.size w).alloc (Nat.le_refl _) (.cells #[.string s] 9)
  go_enter Tryz.func106, Tryz.ntmps106
  go_wp2_with fail
  refine (classes_any _).mono ?_
  rintro e w1 ⟨⟨cs, rfl, hsz, hcs⟩, b1⟩
  have bw := b0.trans (b1.mono b0.size)
  have ct := (b1.cell (p := ⟨w.heap.size, 0, none⟩) (by simp)).trans (show (w.alloc (.cells #[.string s] 9)).cell? ⟨w.heap.size, 0, none⟩ = some (.string s) by simp [go_sem])
  have hlt : w.heap.size < w1.heap.size := by have := b1.size; simp at this; omega
  have HB := Lib.hid bw
  have HC := Lib.hid hcs
  clear b1 b0 bw hcs
  have hone : cs.all (·.oneCell') = true := by
    rw [Array.all_eq_true_iff_forall_mem]
    intro v hv
    obtain ⟨j, hj, rfl⟩ := Array.getElem_of_mem hv
    have := HC.out j (by omega)
    rw [Array.getElem?_eq_getElem hj] at this
    simp only [Option.some.injEq] at this
    rw [this]
    rfl
  have HO := Lib.hid hone
  clear hone
  obtain ⟨W2, hW2⟩ : ∃ W2, W2 = (w1.alloc (.cells Tryz.zeroCells170 170)).setRow w1.heap.size cs := ⟨_, rfl⟩
  have hz : W2.heap.size = w1.heap.size + 1 := by rw [hW2]; simp
  have hr0 : (w1.alloc (.cells Tryz.zeroCells170 170)).heap[w1.heap.size]? = some (.cells (tab 0) 170 (0, 0)) := by rw [← tab_zero]; exact Go.heap_alloc_new _ _
  have hrow : W2.heap[w1.heap.size]? = some (.cells cs 170 (0, 0)) := by rw [hW2]; exact setRow_heap _ _ _ _ _ _ hr0
  have hold : ∀ j, j < w1.heap.size → W2.heap[j]? = w1.heap[j]? := fun j hj => by
    rw [hW2, setRow_other _ _ _ _ (by omega)]; exact Below.heap_alloc w1 _ j hj
  have hb2 : Below w.heap.size w W2 := by
    have h1 := HB.out
    refine ⟨by rw [hW2]; exact h1.os, by rw [hW2]; exact h1.tape, by rw [hW2]; exact h1.output, by omega, fun j hj => (hold j (by omega)).trans (h1.block j hj)⟩
  have hl : LexW (W2.alloc (.cells #[.func (.func 127) #[] #[.pointer (some ⟨w.heap.size, 0, none⟩), .pointer (some ⟨w1.heap.size, 0, none⟩)]] 172)) s w.heap.size w1.heap.size W2.heap.size := by
    refine ⟨?_, fun j hj => ?_, by simp, by simp <;> omega, by simp <;> omega, by simp⟩
    · rw [World.cell?_of_block (Below.heap_alloc W2 _ w.heap.size (by omega)), World.cell?_of_block (hold _ hlt)]; exact ct
    · rw [World.cell?_of_block (Below.heap_alloc W2 _ w1.heap.size (by omega)), cell_of_row _ _ _ _ _ _ hrow]; exact HC.out j hj
  have hbl : Below w.heap.size w (W2.alloc (.cells #[.func (.func 127) #[] #[.pointer (some ⟨w.heap.size, 0, none⟩), .pointer (some ⟨w1.heap.size, 0, none⟩)]] 172)) := hb2.alloc hb2.size _
  have HL := Lib.hid hl
  have HBL := Lib.hid hbl
  have HW2 := Lib.hid hW2
  have HR0 := Lib.hid hr0
  have HZ := Lib.hid hz
  clear hl hbl hold hb2 hrow hW2 hr0 hz
  go_wp2_with (refine wpList_store_row rfl 170 (.tmp 3) (.tmp 5) rfl w1.heap.size cs rfl rfl 170 (tab 0) HR0.out (by rw [info256, hsz]) (by rw [tab_size, hsz]) HO.out ?_; rw [← HW2.out])

  go_ret
  exact ⟨w.heap.size, w1.heap.size, W2.heap.size, rfl, HL.out, Nat.le_refl _, Nat.le_of_lt hlt, by have := HZ.out; omega, HBL.out⟩
end Go.Proofs.YtficjcomefaocaaGreatDoor
