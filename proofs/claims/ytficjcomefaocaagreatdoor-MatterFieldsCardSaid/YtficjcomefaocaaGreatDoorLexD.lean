/- WALK of lexer.tokens$2: the iterator over the tokens of a text, for every loop body. -/
import Derived.Test.YtficjcomefaocaaGreatDoorLexC
import Derived.RangeFuncNested
import Derived.RangeFuncBound
import Derived.RangeFuncCalls
import Derived.RangeFuncLeaves
import Derived.RangeFuncBox
import Derived.Shelf.Abstract
import Derived.Shelf.RegionOpen
import Derived.WalkKit
import Derived.OwnWalkIn
import Derived.TacticsInMore
import Derived.LoopNIn
import Derived.LoopIn
import Derived.Maps.AppendAt
import Derived.WalkMore
import Derived.Test.YtficjcomefaocaaGreatDoorDig
import Derived.Deep.DeepCutAuto
namespace Go.Proofs.YtficjcomefaocaaGreatDoor
open Go.RowKit Go.Maps Go.Shelf
open Lexer

attribute [local go_sem] Oper.semAt_some

/-- WHAT A ROUND THAT GOES ON KEEPS: the blocks from lo to n₀, and every block of the type found -/
structure KpT (lo n₀ : Nat) (A B : World) : Prop where
  size : A.heap.size ≤ B.heap.size
  mid : ∀ b, lo ≤ b → b < n₀ → B.heap[b]? = A.heap[b]?
  typ : ∀ (b : Nat) (cs : Array Value) (fz : Nat × Nat), A.heap[b]? = some (.cells cs 153 fz) → B.heap[b]? = some (.cells cs 153 fz)
theorem KpT.trans {lo n₀ : Nat} {A B C : World} (h : KpT lo n₀ A B) (k : KpT lo n₀ B C) : KpT lo n₀ A C := ⟨Nat.le_trans h.size k.size, fun b h1 h2 => (k.mid b h1 h2).trans (h.mid b h1 h2), fun b cs fz hb => k.typ b cs fz (h.typ b cs fz hb)⟩
theorem KpT.refl (lo n₀ : Nat) (A : World) : KpT lo n₀ A A := ⟨Nat.le_refl _, fun _ _ _ => rfl, fun _ _ _ h => h⟩
theorem LexW.keep {w w' : World} {s : ByteArray} {tb cb ab lo n₀ : Nat} (h : LexW w s tb cb ab) (hk : KpT lo n₀ w w') (h1 : lo ≤ tb ∧ tb < n₀) (h2 : lo ≤ cb ∧ cb < n₀) (h3 : lo ≤ ab ∧ ab < n₀) : LexW w' s tb cb ab :=
  ⟨(World.cell?_of_block (hk.mid tb h1.1 h1.2)).trans h.text, fun j hj => (World.cell?_of_block (hk.mid cb h2.1 h2.2)).trans (h.tab j hj), (World.cell?_of_block (hk.mid ab h3.1 h3.2)).trans h.at_, Nat.lt_of_lt_of_le h.lt hk.size, Nat.lt_of_lt_of_le h.lc hk.size, Nat.lt_of_lt_of_le h.la hk.size⟩
theorem grown_of_below {w w' : World} (h : Below w.heap.size w w') : w.grownBy w' none := ⟨h.os, h.tape, h.output, h.size, fun k hk _ => h.block k hk⟩

/-- a found token as a value -/
def encF (x : Fnd) : Array Value := #[.agg #[.int .i64 x.kind, .string x.text, .int .i64 x.n, .int .i64 x.pos, .int .i64 x.err]]

theorem LexW.alloc {w : World} {s : ByteArray} {tb cb ab : Nat} (h : LexW w s tb cb ab) (o : Obj) : LexW (w.alloc o) s tb cb ab := h.below ((Below.refl w.heap.size w).alloc (Nat.le_refl _) o) h.lt h.lc h.la
/-- at, where the round's own token lies -/
theorem at_here {s : ByteArray} {tb cb ab : Nat} {w : World} (h : LexW w s tb cb ab) (k c : Nat) (hc : at' s k = c) (cs : Array Value) :
    Calls Tryz.prog 127 #[.int .i64 k, .pointer (some ⟨tb, 0, none⟩), .pointer (some ⟨cb, 0, none⟩)] (w.alloc (.cells cs 153)) fun e w' => e = .returned (.int .u8 c) ∧ w' = w.alloc (.cells cs 153) := by
  rw [← hc]
  exact at_any s k tb cb ab _ (h.alloc _)

theorem noGoto_n {Q : Exit → Act → World → Prop} {a : Act} {w : World} (h : Q .normal a w) : Exit.noGoto Q .normal a w := h
theorem noGoto_r {Q : Exit → Act → World → Prop} {a : Act} {w : World} (h : Q .ret a w) : Exit.noGoto Q .ret a w := h
theorem slice_text (s : ByteArray) (i j : Nat) (hij : i ≤ j) (hj : j ≤ s.size) (a b : Int) (ha : a = i) (hb : b = j) (w : World) :
    (Instr.slice 9 (.string s) (some (.int .i64 a)) (some (.int .i64 b)) none).run Tryz.prog w = .ok (.string (s.extract i j)) w := by
  subst ha hb
  have h2 : (j : Int) ≤ s.size := by omega
  simp [Instr.slice, Instr.sliceBounds, run_underlying Tryz.underlying9, go_sem, h2]
  intro h
  omega

theorem index_text (s : ByteArray) (i : Nat) (hi : i < s.size) (w : World) : (Instr.index 9 (.string s) (.int .i64 i)).run Tryz.prog w = .ok (.int .u8 ((s[i]'hi).toNat : Int)) w := by
  have h1 : (i : Int) < s.size := by omega
  simp [Instr.index, run_underlying Tryz.underlying9, go_sem, hi]
theorem came_any {s : ByteArray} {pre : List Fnd} {k : Nat} (h : Come s pre k) (hp : pre ≠ []) : Came s pre := by
  refine ⟨Nat.le_trans h.len h.le, h.ok, fun hn => ?_⟩
  rcases h.name hn with ⟨_, h0⟩ | ⟨_, h1⟩
  · exact absurd h0 hp
  · exact h1
theorem came_snoc {s : ByteArray} {pre : List Fnd} {x : Fnd} {k : Nat} (h : Come s (pre ++ [x]) k) : Came s (pre ++ [x]) := came_any h (by simp)

set_option maxHeartbeats 4000000 in
set_option maxRecDepth 100000 in
theorem iter_in (n : Nat) (hn : 3 ≤ n) (s : ByteArray) (hs : s.size ≤ 20000) (l lo n₀ tb cb ab : Nat) (ht : lo ≤ tb ∧ tb < n₀) (hc : lo ≤ cb ∧ cb < n₀) (ha : lo ≤ ab ∧ ab < n₀) (J Jx : List Fnd → World → Prop) (W : World) (hn0 : n₀ ≤ W.heap.size)
    (hJ : AbidesFrom W.heap.size J)
    (hY : ∀ pre x W1, J pre W1 → pre.length < s.size → YieldAt Fence.wide (n - 1) Tryz.prog l (encF x) W1 fun e W' =>
      (e = .returned (.bool true) ∧ J (pre ++ [x]) W' ∧ KpT lo n₀ W1 W') ∨ (e = .returned (.bool false) ∧ Jx (pre ++ [x]) W'))
    (hL : LexW W s tb cb ab) (h0 : J [] W) :
    CallsIn Fence.wide n Tryz.prog 128 #[.func (.yield l) #[] #[], .pointer (some ⟨tb, 0, none⟩), .pointer (some ⟨ab, 0, none⟩)] W fun e W' => (∃ v, e = .returned v) ∧
      ((∃ xs, Came s xs ∧ J xs W') ∨ (∃ pre, Came s pre ∧ Jx pre W')) := by
  have h255 : ∀ i (h : i < s.size), (s[i].toNat : Int) < 256 := fun i h => by have := UInt8.toNat_lt s[i]; omega
  have ct := hL.text
  refine callsIn_wide.2 ?_
  go_enter Tryz.func128, Tryz.ntmps128
  go_step3
  go_wp2
  go_step3
  go_wp2
  go_loopw [4] (fun i wr => ∃ (k : Nat) (pre : List Fnd), i = .int .i64 k ∧ Come s pre k ∧ J pre wr ∧ LexW wr s tb cb ab ∧ n₀ ≤ wr.heap.size ∧ W.heap.size ≤ wr.heap.size) (fun i _ => s.size - (intOf i).toNat)
  case atStart => exact ⟨0, [], rfl, come_zero s, h0, hL, hn0, Nat.le_refl _⟩
  case round =>
    obtain ⟨k, pre, rfl, hcm, hJs, hLr, hnr, hWr⟩ := hrel
    have ctr := hLr.text
    have ca1 : ∀ cs : Array Value, (wr.alloc (.cells cs 153)).cell? ⟨tb, 0, none⟩ = some (.string s) := fun cs => (hLr.alloc _).text
    have ca2 : ∀ cs : Array Value, (wr.alloc (.cells cs 153)).cell? ⟨ab, 0, none⟩ = some (.func (.func 127) #[] #[.pointer (some ⟨tb, 0, none⟩), .pointer (some ⟨cb, 0, none⟩)]) := fun cs => (hLr.alloc _).at_
    by_cases hlt : k < s.size
    · rcases Nat.lt_or_ge (at' s k) 9 with hc9 | hc9
      · obtain ⟨c, hck⟩ : ∃ c, at' s k = c := ⟨_, rfl⟩
        rw [hck] at hc9
        have HJ := Lib.hid hJ
        have HY := Lib.hid hY
        have HCM := Lib.hid hcm
        have HLR := Lib.hid hLr
        have HJS := Lib.hid hJs
        clear hJ hY hcm hLr hJs h0 hL ct
        by_cases h1 : c = 1
        · subst h1
          have CAT := Lib.hid (at_here HLR.out k 1 hck)
          go_wp2_with (go_at_call 127; refine (CAT.out _).mono ?_; rintro e w' ⟨rfl, rfl⟩)
          go_roundw
          case rel => exact ⟨k + 1, pre, by go_num, HCM.out.skip hlt (by omega) (by omega) (by omega), HJ.out _ _ _ none HJS.out (grown_of_below ((Below.refl _ _).alloc (Nat.le_refl _) _)) (fun r e => by cases e), HLR.out.alloc _, by simp; omega, by simp; omega⟩
          case measure => simp [intOf]; omega
        by_cases h2 : c = 2
        · subst h2
          have CAT := Lib.hid (at_here HLR.out k 2 hck)
          have hne10 : ((s[k]'hlt).toNat : Int) ≠ 10 := by
            have h1 := (at_bt hck (by omega)).2
            rw [bt_eq hlt] at h1
            intro h2
            have h3 : (s[k]'hlt).toNat = 10 := by omega
            rw [h3] at h1
            revert h1
            decide
          have HNE := Lib.hid hne10
          clear hne10
          go_wp2_with (go_at_call 127; refine (CAT.out _).mono ?_; rintro e w' ⟨rfl, rfl⟩)
          go_loop [4] (fun i => ∃ j : Nat, k ≤ j ∧ j ≤ s.size ∧ i = .int .i64 j) (fun i => s.size - (intOf i).toNat)
          case atStart => exact ⟨k, Nat.le_refl _, by omega, rfl⟩
          case round =>
            obtain ⟨j, hkj, hjs, rfl⟩ := hrel
            by_cases hj : j < s.size
            · by_cases h10 : ((s[j]'hj).toNat : Int) = 10
              · have hjk : j ≠ k := by rintro rfl; exact HNE.out h10
                have h10b : (((s[j]'hj).toNat : Int) != 10) = false := by simp [h10]
                have H10 := Lib.hid h10
                clear h10
                go_wp2
                go_roundw
                case rel => exact ⟨j, pre, rfl, HCM.out.skip hlt (by omega) (by omega) (by omega), HJ.out _ _ _ none HJS.out (grown_of_below ((Below.refl _ _).alloc (Nat.le_refl _) _)) (fun r e => by cases e), HLR.out.alloc _, by simp; omega, by simp; omega⟩
                case measure => simp [intOf]; omega
              · have h10b : (((s[j]'hj).toNat : Int) != 10) = true := by simpa using h10
                clear h10
                go_wp2
                go_round
                case rel => exact ⟨j + 1, by omega, by omega, by go_num⟩
                case measure => simp [intOf]; omega
            · obtain rfl : j = s.size := by omega
              have hjd : decide ((s.size : Int) < (s.size : Int)) = false := by simp
              go_wp2
              go_roundw
              case rel => exact ⟨s.size, pre, rfl, HCM.out.skip hlt (by omega) (by omega) (by omega), HJ.out _ _ _ none HJS.out (grown_of_below ((Below.refl _ _).alloc (Nat.le_refl _) _)) (fun r e => by cases e), HLR.out.alloc _, by simp; omega, by simp; omega⟩
              case measure => simp [intOf]; omega
        by_cases h3 : c = 3
        · subst h3
          have CAT := Lib.hid (at_here HLR.out k 3 hck)
          have CATJ := Lib.hid (fun j => at_here HLR.out j (at' s j) rfl)
          go_wp2_with (go_at_call 127; refine (CAT.out _).mono ?_; rintro e w' ⟨rfl, rfl⟩)
          go_loop [4, 7] (fun i c => ∃ (j d : Nat), k ≤ j ∧ j ≤ s.size ∧ i = .int .i64 j ∧ c = .int .u8 d ∧ at' s j = d ∧ (∀ m, k ≤ m → m < j → wordC (at' s m))) (fun i _ => s.size - (intOf i).toNat)
          case atStart => exact ⟨k, 3, Nat.le_refl _, by omega, rfl, rfl, hck, fun m h1 h2 => absurd h1 (by omega)⟩
          case round =>
            obtain ⟨j, d, hkj, hjs, rfl, rfl, hjd, hwd⟩ := hrel
            have HWD := Lib.hid hwd
            clear hwd
            by_cases hd : wordC d
            · have hjlt : j < s.size := at_in (by rw [hjd]; rcases hd with rfl | rfl | rfl <;> decide)
              have hnext : ∀ m, k ≤ m → m < j + 1 → wordC (at' s m) := fun m h1 h2 => by
                by_cases e : m = j
                · rw [e, hjd]; exact hd
                · exact HWD.out m h1 (by omega)
              have HN := Lib.hid hnext
              have CJ := Lib.hid (CATJ.out (j + 1))
              clear hnext
              rcases hd with rfl | rfl | rfl
              all_goals
                go_wp2_with (go_at_call 127; refine (CJ.out _).mono ?_; rintro e w' ⟨rfl, rfl⟩)
                go_round
                case rel => exact ⟨j + 1, _, by omega, by omega, by go_num, rfl, rfl, HN.out⟩
                case measure => simp [intOf]; omega
            · have hkj' : k < j := by
                rcases Nat.lt_or_ge k j with h | h
                · exact h
                · obtain rfl : j = k := by omega
                  rw [hck] at hjd
                  exact absurd (.inl hjd.symm) hd
              have d3 : ((d : Int) == 3) = false := by rw [beq_eq_false_iff_ne]; intro h; exact hd (.inl (by omega))
              have d4 : ((d : Int) == 4) = false := by rw [beq_eq_false_iff_ne]; intro h; exact hd (.inr (.inl (by omega)))
              have d5 : ((d : Int) == 5) = false := by rw [beq_eq_false_iff_ne]; intro h; exact hd (.inr (.inr (by omega)))
              have hend : ¬ wordC (at' s j) := by rw [hjd]; exact hd
              have HEND := Lib.hid hend
              have hsl := slice_text s k j (by omega) (by omega) k j rfl rfl
              clear hd hend
              by_cases h24 : j - k ≤ 24
              · have g24 : decide ((24 : Int) < (j : Int) - (k : Int)) = false := by simp; omega
                go_upto_region 38 with fail
                have hbW := (Below.refl wr.heap.size wr).alloc (Nat.le_refl _) (.cells #[.int .i64 1, .string (s.extract k j), .int .i64 0, .int .i64 k, .int .i64 0] 153)
                have hblk := Go.heap_alloc_new wr (.cells #[.int .i64 1, .string (s.extract k j), .int .i64 0, .int .i64 k, .int .i64 0] 153)
                have hnW := Nat.le_trans hnr hbW.size
                have hlen := HCM.out.len
                obtain ⟨fn, tmps, assign, body, hy, hR⟩ := HY.out pre ⟨1, (s.extract k j), 0, k, 0⟩ _ (HJ.out _ _ _ none HJS.out (grown_of_below hbW) (fun r e => by cases e)) (by omega)
                simp only [encF] at hy
                refine (wpIn_wide (n := n)).1 ?_
                gi_wp2
                refine ⟨fun _ => by omega, hR.mono ?_⟩
                rintro e W3 (⟨rfl, hJ3, hk3⟩ | ⟨rfl, hJx3⟩)
                · have e4 := cell_of_row _ _ 4 _ _ _ (hk3.typ _ _ _ hblk)
                  have hn3 : n₀ ≤ W3.heap.size := Nat.le_trans hnW hk3.size
                  have hl3 := ((HLR.out.below hbW HLR.out.lt HLR.out.lc HLR.out.la).keep hk3 ht hc ha)
                  have hw3 := Nat.le_trans (Nat.le_trans hWr hbW.size) hk3.size
                  have HJ3 := Lib.hid hJ3
                  have HL3 := Lib.hid hl3
                  clear hJ3 hk3 hy hR hl3 hbW hblk
                  gi_wp2
                  go_wp2
                  go_roundw
                  case rel => exact ⟨j, pre ++ [⟨1, (s.extract k j), 0, k, 0⟩], by go_num, HCM.out.word hlt hck hkj' hjs h24 HWD.out HEND.out, HJ3.out, HL3.out, hn3, hw3⟩
                  case measure => simp [intOf]; omega
                · have HJ3 := Lib.hid hJx3
                  clear hJx3 hy hR
                  gi_wp2
                  go_wp2
                  refine noGoto_r (bodyPost_ret (results_none rfl _ _ _) rfl ?_)
                  exact ⟨⟨_, rfl⟩, .inr ⟨pre ++ [⟨1, (s.extract k j), 0, k, 0⟩], came_snoc (k := j) (HCM.out.word hlt hck hkj' hjs h24 HWD.out HEND.out), HJ3.out⟩⟩
              · have g24 : decide ((24 : Int) < (j : Int) - (k : Int)) = true := by simp; omega
                go_upto_region 38 with fail
                have hbW := (Below.refl wr.heap.size wr).alloc (Nat.le_refl _) (.cells #[.int .i64 1, .string (s.extract k j), .int .i64 0, .int .i64 k, .int .i64 2] 153)
                have hblk := Go.heap_alloc_new wr (.cells #[.int .i64 1, .string (s.extract k j), .int .i64 0, .int .i64 k, .int .i64 2] 153)
                have hnW := Nat.le_trans hnr hbW.size
                have hlen := HCM.out.len
                obtain ⟨fn, tmps, assign, body, hy, hR⟩ := HY.out pre ⟨1, (s.extract k j), 0, k, 2⟩ _ (HJ.out _ _ _ none HJS.out (grown_of_below hbW) (fun r e => by cases e)) (by omega)
                simp only [encF] at hy
                refine (wpIn_wide (n := n)).1 ?_
                gi_wp2
                refine ⟨fun _ => by omega, hR.mono ?_⟩
                rintro e W3 (⟨rfl, hJ3, hk3⟩ | ⟨rfl, hJx3⟩)
                · have e4 := cell_of_row _ _ 4 _ _ _ (hk3.typ _ _ _ hblk)
                  have HJ3 := Lib.hid hJ3
                  clear hJ3 hk3 hy hR
                  gi_wp2
                  go_wp2
                  refine noGoto_r (bodyPost_ret (results_none rfl _ _ _) rfl ?_)
                  exact ⟨⟨_, rfl⟩, .inl ⟨_, HCM.out.bad hlt (not_name_long HCM.out hlt hjs (by omega)) (show (2 : Int) ≠ 0 by decide), HJ3.out⟩⟩
                · have HJ3 := Lib.hid hJx3
                  clear hJx3 hy hR
                  gi_wp2
                  go_wp2
                  refine noGoto_r (bodyPost_ret (results_none rfl _ _ _) rfl ?_)
                  exact ⟨⟨_, rfl⟩, .inr ⟨_, HCM.out.bad hlt (not_name_long HCM.out hlt hjs (by omega)) (show (2 : Int) ≠ 0 by decide), HJ3.out⟩⟩
        by_cases h4 : c = 4
        · subst h4
          have CAT := Lib.hid (at_here HLR.out k 4 hck)
          have CATJ := Lib.hid (fun j => at_here HLR.out j (at' s j) rfl)
          go_wp2_with (go_at_call 127; refine (CAT.out _).mono ?_; rintro e w' ⟨rfl, rfl⟩)
          go_loop [4] (fun i => ∃ j : Nat, k ≤ j ∧ j ≤ s.size ∧ i = .int .i64 j ∧ (∀ m, k ≤ m → m < j → at' s m = 4)) (fun i => s.size - (intOf i).toNat)
          case atStart => exact ⟨k, Nat.le_refl _, by omega, rfl, fun m h1 h2 => absurd h1 (by omega)⟩
          case round =>
            obtain ⟨j, hkj, hjs, rfl, hwd⟩ := hrel
            have HWD := Lib.hid hwd
            clear hwd
            have CJ := Lib.hid (CATJ.out j)
            obtain ⟨d, hjd⟩ : ∃ d, at' s j = d := ⟨_, rfl⟩
            rw [hjd] at CJ
            by_cases hd : d = 4
            · subst hd
              have hjlt : j < s.size := at_in (by rw [hjd]; decide)
              have hnext : ∀ m, k ≤ m → m < j + 1 → at' s m = 4 := fun m h1 h2 => by
                by_cases e : m = j
                · rw [e]; exact hjd
                · exact HWD.out m h1 (by omega)
              have HN := Lib.hid hnext
              clear hnext
              go_wp2_with (go_at_call 127; refine (CJ.out _).mono ?_; rintro e w' ⟨rfl, rfl⟩)
              go_round
              case rel => exact ⟨j + 1, by omega, by omega, by go_num, HN.out⟩
              case measure => simp [intOf]; omega
            · have hkj' : k < j := by
                rcases Nat.lt_or_ge k j with h | h
                · exact h
                · obtain rfl : j = k := by omega
                  rw [hck] at hjd
                  exact absurd hjd.symm hd
              have d4 : ((d : Int) == 4) = false := by rw [beq_eq_false_iff_ne]; omega
              have hsl := slice_text s k j (by omega) (by omega) k j rfl rfl
              have hnn := not_name_at HCM.out hlt (by omega)
              have HNN := Lib.hid hnn
              clear hnn hd
              by_cases h7 : j - k ≤ 7
              · have g7 : decide ((7 : Int) < (j : Int) - (k : Int)) = false := by simp; omega
                by_cases hd3 : d = 3
                · subst hd3
                  go_upto_region 38 with (go_at_call 127; refine (CJ.out _).mono ?_; rintro e w' ⟨rfl, rfl⟩)
                  have hbW := (Below.refl wr.heap.size wr).alloc (Nat.le_refl _) (.cells #[.int .i64 2, .string (s.extract k j), .int .i64 0, .int .i64 k, .int .i64 4] 153)
                  have hblk := Go.heap_alloc_new wr (.cells #[.int .i64 2, .string (s.extract k j), .int .i64 0, .int .i64 k, .int .i64 4] 153)
                  have hnW := Nat.le_trans hnr hbW.size
                  have hlen := HCM.out.len
                  obtain ⟨fn, tmps, assign, body, hy, hR⟩ := HY.out pre ⟨2, (s.extract k j), 0, k, 4⟩ _ (HJ.out _ _ _ none HJS.out (grown_of_below hbW) (fun r e => by cases e)) (by omega)
                  simp only [encF] at hy
                  refine (wpIn_wide (n := n)).1 ?_
                  gi_wp2
                  refine ⟨fun _ => by omega, hR.mono ?_⟩
                  rintro e W3 (⟨rfl, hJ3, hk3⟩ | ⟨rfl, hJx3⟩)
                  · have e4 := cell_of_row _ _ 4 _ _ _ (hk3.typ _ _ _ hblk)
                    have HJ3 := Lib.hid hJ3
                    clear hJ3 hk3 hy hR
                    gi_wp2
                    go_wp2
                    refine noGoto_r (bodyPost_ret (results_none rfl _ _ _) rfl ?_)
                    exact ⟨⟨_, rfl⟩, .inl ⟨_, HCM.out.bad hlt HNN.out (show (4 : Int) ≠ 0 by decide), HJ3.out⟩⟩
                  · have HJ3 := Lib.hid hJx3
                    clear hJx3 hy hR
                    gi_wp2
                    go_wp2
                    refine noGoto_r (bodyPost_ret (results_none rfl _ _ _) rfl ?_)
                    exact ⟨⟨_, rfl⟩, .inr ⟨_, HCM.out.bad hlt HNN.out (show (4 : Int) ≠ 0 by decide), HJ3.out⟩⟩
                · by_cases hd5 : d = 5
                  · subst hd5
                    go_upto_region 38 with (go_at_call 127; refine (CJ.out _).mono ?_; rintro e w' ⟨rfl, rfl⟩)
                    have hbW := (Below.refl wr.heap.size wr).alloc (Nat.le_refl _) (.cells #[.int .i64 2, .string (s.extract k j), .int .i64 0, .int .i64 k, .int .i64 4] 153)
                    have hblk := Go.heap_alloc_new wr (.cells #[.int .i64 2, .string (s.extract k j), .int .i64 0, .int .i64 k, .int .i64 4] 153)
                    have hnW := Nat.le_trans hnr hbW.size
                    have hlen := HCM.out.len
                    obtain ⟨fn, tmps, assign, body, hy, hR⟩ := HY.out pre ⟨2, (s.extract k j), 0, k, 4⟩ _ (HJ.out _ _ _ none HJS.out (grown_of_below hbW) (fun r e => by cases e)) (by omega)
                    simp only [encF] at hy
                    refine (wpIn_wide (n := n)).1 ?_
                    gi_wp2
                    refine ⟨fun _ => by omega, hR.mono ?_⟩
                    rintro e W3 (⟨rfl, hJ3, hk3⟩ | ⟨rfl, hJx3⟩)
                    · have e4 := cell_of_row _ _ 4 _ _ _ (hk3.typ _ _ _ hblk)
                      have HJ3 := Lib.hid hJ3
                      clear hJ3 hk3 hy hR
                      gi_wp2
                      go_wp2
                      refine noGoto_r (bodyPost_ret (results_none rfl _ _ _) rfl ?_)
                      exact ⟨⟨_, rfl⟩, .inl ⟨_, HCM.out.bad hlt HNN.out (show (4 : Int) ≠ 0 by decide), HJ3.out⟩⟩
                    · have HJ3 := Lib.hid hJx3
                      clear hJx3 hy hR
                      gi_wp2
                      go_wp2
                      refine noGoto_r (bodyPost_ret (results_none rfl _ _ _) rfl ?_)
                      exact ⟨⟨_, rfl⟩, .inr ⟨_, HCM.out.bad hlt HNN.out (show (4 : Int) ≠ 0 by decide), HJ3.out⟩⟩
                  · have d3 : ((d : Int) == 3) = false := by rw [beq_eq_false_iff_ne]; omega
                    have d5 : ((d : Int) == 5) = false := by rw [beq_eq_false_iff_ne]; omega
                    obtain ⟨N, hN⟩ := atoi_part hkj' hjs HWD.out
                    have hat : ∀ w, Calls Tryz.prog 85 #[.string (s.extract k j)] w fun e w' => e = .returned (.tuple #[.int .i64 N, .nilIface]) ∧ Below w.heap.size w w' := fun w => by
                      refine (Tryz.strconv_Atoi (s.extract k j) N (by rw [ByteArray.size_extract]; omega) hN w).mono ?_
                      rintro e w' ⟨rfl, t, rfl⟩
                      exact ⟨rfl, Lib.bytesWorld_below _ _ _⟩
                    have HAT := Lib.hid hat
                    clear hat hN
                    go_wp2_with (first | (go_at_call 127; refine (CJ.out _).mono ?_; rintro e w' ⟨rfl, rfl⟩) | fail)
                    refine (HAT.out _).mono ?_
                    rintro e w2 ⟨rfl, b2⟩
                    have hb2 := b2.block wr.heap.size (by simp)
                    rw [Go.heap_alloc_new] at hb2
                    have bw2 := ((Below.refl wr.heap.size wr).alloc (Nat.le_refl _) (.cells #[.int .i64 2, .string ⟨#[]⟩, .int .i64 0, .int .i64 k, .int .i64 0] 153)).trans (b2.mono (by simp))
                    have q0 := cell_of_row _ _ 0 _ _ _ hb2
                    have q1 := cell_of_row _ _ 1 _ _ _ hb2
                    have q2 := cell_of_row _ _ 2 _ _ _ hb2
                    have q3 := cell_of_row _ _ 3 _ _ _ hb2
                    have q4 := cell_of_row _ _ 4 _ _ _ hb2
                    have p0 := fun i => frozen_of_row _ _ i _ _ hb2
                    have ct2 := (HLR.out.below bw2 HLR.out.lt HLR.out.lc HLR.out.la).text
                    have hblk := heap_setCell_same _ _ 1 _ _ (.string (s.extract k j)) (heap_setCell_same _ _ 2 _ _ (.int .i64 N) hb2)
                    have hbW := (bw2.setCell (p := ⟨wr.heap.size, 2, none⟩) (Nat.le_refl _) (.int .i64 N)).setCell (p := ⟨wr.heap.size, 1, none⟩) (Nat.le_refl _) (.string (s.extract k j))
                    have HBLK := Lib.hid hblk
                    have HBW := Lib.hid hbW
                    simp at q0 q1 q2 q3 q4
                    clear hblk hbW b2 hb2 bw2
                    go_upto_region 38 with fail
                    have hblk := HBLK.out
                    have hbW := HBW.out
                    have hnW := Nat.le_trans hnr hbW.size
                    have hlen := HCM.out.len
                    obtain ⟨fn, tmps, assign, body, hy, hR⟩ := HY.out pre ⟨2, (s.extract k j), N, k, 0⟩ _ (HJ.out _ _ _ none HJS.out (grown_of_below hbW) (fun r e => by cases e)) (by omega)
                    simp only [encF] at hy
                    refine (wpIn_wide (n := n)).1 ?_
                    gi_wp2
                    refine ⟨fun _ => by omega, hR.mono ?_⟩
                    rintro e W3 (⟨rfl, hJ3, hk3⟩ | ⟨rfl, hJx3⟩)
                    · have e4 := cell_of_row _ _ 4 _ _ _ (hk3.typ _ _ _ hblk)
                      have hn3 : n₀ ≤ W3.heap.size := Nat.le_trans hnW hk3.size
                      have hl3 := ((HLR.out.below hbW HLR.out.lt HLR.out.lc HLR.out.la).keep hk3 ht hc ha)
                      have hw3 := Nat.le_trans (Nat.le_trans hWr hbW.size) hk3.size
                      have HJ3 := Lib.hid hJ3
                      have HL3 := Lib.hid hl3
                      clear hJ3 hk3 hy hR hl3 hbW hblk
                      gi_wp2
                      go_wp2
                      go_roundw
                      case rel => exact ⟨j, pre ++ [⟨2, (s.extract k j), N, k, 0⟩], by go_num, HCM.out.other hlt (by omega) hkj' hjs (show (2 : Int) ≠ 1 by decide) rfl, HJ3.out, HL3.out, hn3, hw3⟩
                      case measure => simp [intOf]; omega
                    · have HJ3 := Lib.hid hJx3
                      clear hJx3 hy hR
                      gi_wp2
                      go_wp2
                      refine noGoto_r (bodyPost_ret (results_none rfl _ _ _) rfl ?_)
                      exact ⟨⟨_, rfl⟩, .inr ⟨pre ++ [⟨2, (s.extract k j), N, k, 0⟩], came_snoc (k := j) (HCM.out.other hlt (by omega) hkj' hjs (show (2 : Int) ≠ 1 by decide) rfl), HJ3.out⟩⟩
              · have g7 : decide ((7 : Int) < (j : Int) - (k : Int)) = true := by simp; omega
                go_upto_region 38 with (go_at_call 127; refine (CJ.out _).mono ?_; rintro e w' ⟨rfl, rfl⟩)
                have hbW := (Below.refl wr.heap.size wr).alloc (Nat.le_refl _) (.cells #[.int .i64 2, .string (s.extract k j), .int .i64 0, .int .i64 k, .int .i64 4] 153)
                have hblk := Go.heap_alloc_new wr (.cells #[.int .i64 2, .string (s.extract k j), .int .i64 0, .int .i64 k, .int .i64 4] 153)
                have hnW := Nat.le_trans hnr hbW.size
                have hlen := HCM.out.len
                obtain ⟨fn, tmps, assign, body, hy, hR⟩ := HY.out pre ⟨2, (s.extract k j), 0, k, 4⟩ _ (HJ.out _ _ _ none HJS.out (grown_of_below hbW) (fun r e => by cases e)) (by omega)
                simp only [encF] at hy
                refine (wpIn_wide (n := n)).1 ?_
                gi_wp2
                refine ⟨fun _ => by omega, hR.mono ?_⟩
                rintro e W3 (⟨rfl, hJ3, hk3⟩ | ⟨rfl, hJx3⟩)
                · have e4 := cell_of_row _ _ 4 _ _ _ (hk3.typ _ _ _ hblk)
                  have HJ3 := Lib.hid hJ3
                  clear hJ3 hk3 hy hR
                  gi_wp2
                  go_wp2
                  refine noGoto_r (bodyPost_ret (results_none rfl _ _ _) rfl ?_)
                  exact ⟨⟨_, rfl⟩, .inl ⟨_, HCM.out.bad hlt HNN.out (show (4 : Int) ≠ 0 by decide), HJ3.out⟩⟩
                · have HJ3 := Lib.hid hJx3
                  clear hJx3 hy hR
                  gi_wp2
                  go_wp2
                  refine noGoto_r (bodyPost_ret (results_none rfl _ _ _) rfl ?_)
                  exact ⟨⟨_, rfl⟩, .inr ⟨_, HCM.out.bad hlt HNN.out (show (4 : Int) ≠ 0 by decide), HJ3.out⟩⟩
        by_cases h6 : c = 6
        · subst h6
          have CAT := Lib.hid (at_here HLR.out k 6 hck)
          have hsl := slice_text s k (k + 1) (by omega) (by omega) k (k + 1) rfl (by omega)
          go_upto_region 38 with (go_at_call 127; refine (CAT.out _).mono ?_; rintro e w' ⟨rfl, rfl⟩)
          have hbW := (Below.refl wr.heap.size wr).alloc (Nat.le_refl _) (.cells #[.int .i64 3, .string (s.extract k (k + 1)), .int .i64 0, .int .i64 k, .int .i64 0] 153)
          have hblk := Go.heap_alloc_new wr (.cells #[.int .i64 3, .string (s.extract k (k + 1)), .int .i64 0, .int .i64 k, .int .i64 0] 153)
          have hnW := Nat.le_trans hnr hbW.size
          have hlen := HCM.out.len
          obtain ⟨fn, tmps, assign, body, hy, hR⟩ := HY.out pre ⟨3, (s.extract k (k + 1)), 0, k, 0⟩ _ (HJ.out _ _ _ none HJS.out (grown_of_below hbW) (fun r e => by cases e)) (by omega)
          simp only [encF] at hy
          refine (wpIn_wide (n := n)).1 ?_
          gi_wp2
          refine ⟨fun _ => by omega, hR.mono ?_⟩
          rintro e W3 (⟨rfl, hJ3, hk3⟩ | ⟨rfl, hJx3⟩)
          · have e4 := cell_of_row _ _ 4 _ _ _ (hk3.typ _ _ _ hblk)
            have hn3 : n₀ ≤ W3.heap.size := Nat.le_trans hnW hk3.size
            have hl3 := ((HLR.out.below hbW HLR.out.lt HLR.out.lc HLR.out.la).keep hk3 ht hc ha)
            have hw3 := Nat.le_trans (Nat.le_trans hWr hbW.size) hk3.size
            have HJ3 := Lib.hid hJ3
            have HL3 := Lib.hid hl3
            clear hJ3 hk3 hy hR hl3 hbW hblk
            gi_wp2
            go_wp2
            go_roundw
            case rel => exact ⟨(k + 1), pre ++ [⟨3, (s.extract k (k + 1)), 0, k, 0⟩], by go_num, HCM.out.other hlt (by omega) (by omega) (by omega) (show (3 : Int) ≠ 1 by decide) rfl, HJ3.out, HL3.out, hn3, hw3⟩
            case measure => simp [intOf]; omega
          · have HJ3 := Lib.hid hJx3
            clear hJx3 hy hR
            gi_wp2
            go_wp2
            refine noGoto_r (bodyPost_ret (results_none rfl _ _ _) rfl ?_)
            exact ⟨⟨_, rfl⟩, .inr ⟨pre ++ [⟨3, (s.extract k (k + 1)), 0, k, 0⟩], came_snoc (k := (k + 1)) (HCM.out.other hlt (by omega) (by omega) (by omega) (show (3 : Int) ≠ 1 by decide) rfl), HJ3.out⟩⟩
        by_cases h7 : c = 7
        · subst h7
          have CAT := Lib.hid (at_here HLR.out k 7 hck)
          have hnn := not_name_at HCM.out hlt (by omega)
          have HNN := Lib.hid hnn
          clear hnn
          by_cases hk1 : k + 1 < s.size
          · have hsi : (k : Int) + 1 = ((k + 1 : Nat) : Int) := by omega
            have e61 : ∃ b, ((s[k + 1]'hk1).toNat : Int) = b := ⟨_, rfl⟩
            obtain ⟨b61, hb61⟩ := e61
            have hlt1 : decide ((k : Int) + 1 < (s.size : Int)) = true := by simp; omega
            have hidx : ∀ w, (Instr.index 9 (.string s) (.int .i64 ((k : Int) + 1))).run Tryz.prog w = .ok (.int .u8 b61) w := fun w => by
              rw [hsi, ← hb61]
              exact index_text s (k + 1) hk1 w
            clear hsi
            by_cases h61 : b61 = 61
            · subst h61
              have hsl := slice_text s k (k + 2) (by omega) (by omega) k (k + 2) rfl (by omega)
              have hsl2 := slice_text s k (k + 2) (by omega) (by omega) k (k + 1 + 1) rfl (by omega)
              go_upto_region 38 with (go_at_call 127; refine (CAT.out _).mono ?_; rintro e w' ⟨rfl, rfl⟩)
              have hbW := (Below.refl wr.heap.size wr).alloc (Nat.le_refl _) (.cells #[.int .i64 3, .string (s.extract k (k + 2)), .int .i64 0, .int .i64 k, .int .i64 0] 153)
              have hblk := Go.heap_alloc_new wr (.cells #[.int .i64 3, .string (s.extract k (k + 2)), .int .i64 0, .int .i64 k, .int .i64 0] 153)
              have hnW := Nat.le_trans hnr hbW.size
              have hlen := HCM.out.len
              obtain ⟨fn, tmps, assign, body, hy, hR⟩ := HY.out pre ⟨3, (s.extract k (k + 2)), 0, k, 0⟩ _ (HJ.out _ _ _ none HJS.out (grown_of_below hbW) (fun r e => by cases e)) (by omega)
              simp only [encF] at hy
              refine (wpIn_wide (n := n)).1 ?_
              gi_wp2
              refine ⟨fun _ => by omega, hR.mono ?_⟩
              rintro e W3 (⟨rfl, hJ3, hk3⟩ | ⟨rfl, hJx3⟩)
              · have e4 := cell_of_row _ _ 4 _ _ _ (hk3.typ _ _ _ hblk)
                have hn3 : n₀ ≤ W3.heap.size := Nat.le_trans hnW hk3.size
                have hl3 := ((HLR.out.below hbW HLR.out.lt HLR.out.lc HLR.out.la).keep hk3 ht hc ha)
                have hw3 := Nat.le_trans (Nat.le_trans hWr hbW.size) hk3.size
                have HJ3 := Lib.hid hJ3
                have HL3 := Lib.hid hl3
                clear hJ3 hk3 hy hR hl3 hbW hblk
                gi_wp2
                go_wp2
                go_roundw
                case rel => exact ⟨(k + 2), pre ++ [⟨3, (s.extract k (k + 2)), 0, k, 0⟩], by go_num, HCM.out.other hlt (by omega) (by omega) (by omega) (show (3 : Int) ≠ 1 by decide) rfl, HJ3.out, HL3.out, hn3, hw3⟩
                case measure => simp [intOf]; omega
              · have HJ3 := Lib.hid hJx3
                clear hJx3 hy hR
                gi_wp2
                go_wp2
                refine noGoto_r (bodyPost_ret (results_none rfl _ _ _) rfl ?_)
                exact ⟨⟨_, rfl⟩, .inr ⟨pre ++ [⟨3, (s.extract k (k + 2)), 0, k, 0⟩], came_snoc (k := (k + 2)) (HCM.out.other hlt (by omega) (by omega) (by omega) (show (3 : Int) ≠ 1 by decide) rfl), HJ3.out⟩⟩
            · have h61b : (b61 == 61) = false := by rw [beq_eq_false_iff_ne]; exact h61
              have hsl := slice_text s k (k + 1) (by omega) (by omega) k (k + 1) rfl (by omega)
              go_upto_region 38 with (go_at_call 127; refine (CAT.out _).mono ?_; rintro e w' ⟨rfl, rfl⟩)
              have hbW := (Below.refl wr.heap.size wr).alloc (Nat.le_refl _) (.cells #[.int .i64 3, .string (s.extract k (k + 1)), .int .i64 0, .int .i64 k, .int .i64 0] 153)
              have hblk := Go.heap_alloc_new wr (.cells #[.int .i64 3, .string (s.extract k (k + 1)), .int .i64 0, .int .i64 k, .int .i64 0] 153)
              have hnW := Nat.le_trans hnr hbW.size
              have hlen := HCM.out.len
              obtain ⟨fn, tmps, assign, body, hy, hR⟩ := HY.out pre ⟨3, (s.extract k (k + 1)), 0, k, 0⟩ _ (HJ.out _ _ _ none HJS.out (grown_of_below hbW) (fun r e => by cases e)) (by omega)
              simp only [encF] at hy
              refine (wpIn_wide (n := n)).1 ?_
              gi_wp2
              refine ⟨fun _ => by omega, hR.mono ?_⟩
              rintro e W3 (⟨rfl, hJ3, hk3⟩ | ⟨rfl, hJx3⟩)
              · have e4 := cell_of_row _ _ 4 _ _ _ (hk3.typ _ _ _ hblk)
                have hn3 : n₀ ≤ W3.heap.size := Nat.le_trans hnW hk3.size
                have hl3 := ((HLR.out.below hbW HLR.out.lt HLR.out.lc HLR.out.la).keep hk3 ht hc ha)
                have hw3 := Nat.le_trans (Nat.le_trans hWr hbW.size) hk3.size
                have HJ3 := Lib.hid hJ3
                have HL3 := Lib.hid hl3
                clear hJ3 hk3 hy hR hl3 hbW hblk
                gi_wp2
                go_wp2
                go_roundw
                case rel => exact ⟨(k + 1), pre ++ [⟨3, (s.extract k (k + 1)), 0, k, 0⟩], by go_num, HCM.out.other hlt (by omega) (by omega) (by omega) (show (3 : Int) ≠ 1 by decide) rfl, HJ3.out, HL3.out, hn3, hw3⟩
                case measure => simp [intOf]; omega
              · have HJ3 := Lib.hid hJx3
                clear hJx3 hy hR
                gi_wp2
                go_wp2
                refine noGoto_r (bodyPost_ret (results_none rfl _ _ _) rfl ?_)
                exact ⟨⟨_, rfl⟩, .inr ⟨pre ++ [⟨3, (s.extract k (k + 1)), 0, k, 0⟩], came_snoc (k := (k + 1)) (HCM.out.other hlt (by omega) (by omega) (by omega) (show (3 : Int) ≠ 1 by decide) rfl), HJ3.out⟩⟩
          · have hlt1 : decide ((k : Int) + 1 < (s.size : Int)) = false := by simp; omega
            have hsl := slice_text s k (k + 1) (by omega) (by omega) k (k + 1) rfl (by omega)
            go_upto_region 38 with (go_at_call 127; refine (CAT.out _).mono ?_; rintro e w' ⟨rfl, rfl⟩)
            have hbW := (Below.refl wr.heap.size wr).alloc (Nat.le_refl _) (.cells #[.int .i64 3, .string (s.extract k (k + 1)), .int .i64 0, .int .i64 k, .int .i64 0] 153)
            have hblk := Go.heap_alloc_new wr (.cells #[.int .i64 3, .string (s.extract k (k + 1)), .int .i64 0, .int .i64 k, .int .i64 0] 153)
            have hnW := Nat.le_trans hnr hbW.size
            have hlen := HCM.out.len
            obtain ⟨fn, tmps, assign, body, hy, hR⟩ := HY.out pre ⟨3, (s.extract k (k + 1)), 0, k, 0⟩ _ (HJ.out _ _ _ none HJS.out (grown_of_below hbW) (fun r e => by cases e)) (by omega)
            simp only [encF] at hy
            refine (wpIn_wide (n := n)).1 ?_
            gi_wp2
            refine ⟨fun _ => by omega, hR.mono ?_⟩
            rintro e W3 (⟨rfl, hJ3, hk3⟩ | ⟨rfl, hJx3⟩)
            · have e4 := cell_of_row _ _ 4 _ _ _ (hk3.typ _ _ _ hblk)
              have hn3 : n₀ ≤ W3.heap.size := Nat.le_trans hnW hk3.size
              have hl3 := ((HLR.out.below hbW HLR.out.lt HLR.out.lc HLR.out.la).keep hk3 ht hc ha)
              have hw3 := Nat.le_trans (Nat.le_trans hWr hbW.size) hk3.size
              have HJ3 := Lib.hid hJ3
              have HL3 := Lib.hid hl3
              clear hJ3 hk3 hy hR hl3 hbW hblk
              gi_wp2
              go_wp2
              go_roundw
              case rel => exact ⟨(k + 1), pre ++ [⟨3, (s.extract k (k + 1)), 0, k, 0⟩], by go_num, HCM.out.other hlt (by omega) (by omega) (by omega) (show (3 : Int) ≠ 1 by decide) rfl, HJ3.out, HL3.out, hn3, hw3⟩
              case measure => simp [intOf]; omega
            · have HJ3 := Lib.hid hJx3
              clear hJx3 hy hR
              gi_wp2
              go_wp2
              refine noGoto_r (bodyPost_ret (results_none rfl _ _ _) rfl ?_)
              exact ⟨⟨_, rfl⟩, .inr ⟨pre ++ [⟨3, (s.extract k (k + 1)), 0, k, 0⟩], came_snoc (k := (k + 1)) (HCM.out.other hlt (by omega) (by omega) (by omega) (show (3 : Int) ≠ 1 by decide) rfl), HJ3.out⟩⟩
        by_cases h8 : c = 8
        · subst h8
          have CAT := Lib.hid (at_here HLR.out k 8 hck)
          have hnn := not_name_at HCM.out hlt (by omega)
          have HNN := Lib.hid hnn
          clear hnn
          by_cases hk1 : k + 1 < s.size
          · have hsi : (k : Int) + 1 = ((k + 1 : Nat) : Int) := by omega
            have e61 : ∃ b, ((s[k + 1]'hk1).toNat : Int) = b := ⟨_, rfl⟩
            obtain ⟨b61, hb61⟩ := e61
            have hlt1 : decide ((k : Int) + 1 < (s.size : Int)) = true := by simp; omega
            have hidx : ∀ w, (Instr.index 9 (.string s) (.int .i64 ((k : Int) + 1))).run Tryz.prog w = .ok (.int .u8 b61) w := fun w => by
              rw [hsi, ← hb61]
              exact index_text s (k + 1) hk1 w
            clear hsi
            by_cases h61 : b61 = 61
            · subst h61
              have hsl := slice_text s k (k + 2) (by omega) (by omega) k (k + 2) rfl (by omega)
              have hsl2 := slice_text s k (k + 2) (by omega) (by omega) k (k + 1 + 1) rfl (by omega)
              go_upto_region 38 with (go_at_call 127; refine (CAT.out _).mono ?_; rintro e w' ⟨rfl, rfl⟩)
              have hbW := (Below.refl wr.heap.size wr).alloc (Nat.le_refl _) (.cells #[.int .i64 3, .string (s.extract k (k + 2)), .int .i64 0, .int .i64 k, .int .i64 0] 153)
              have hblk := Go.heap_alloc_new wr (.cells #[.int .i64 3, .string (s.extract k (k + 2)), .int .i64 0, .int .i64 k, .int .i64 0] 153)
              have hnW := Nat.le_trans hnr hbW.size
              have hlen := HCM.out.len
              obtain ⟨fn, tmps, assign, body, hy, hR⟩ := HY.out pre ⟨3, (s.extract k (k + 2)), 0, k, 0⟩ _ (HJ.out _ _ _ none HJS.out (grown_of_below hbW) (fun r e => by cases e)) (by omega)
              simp only [encF] at hy
              refine (wpIn_wide (n := n)).1 ?_
              gi_wp2
              refine ⟨fun _ => by omega, hR.mono ?_⟩
              rintro e W3 (⟨rfl, hJ3, hk3⟩ | ⟨rfl, hJx3⟩)
              · have e4 := cell_of_row _ _ 4 _ _ _ (hk3.typ _ _ _ hblk)
                have hn3 : n₀ ≤ W3.heap.size := Nat.le_trans hnW hk3.size
                have hl3 := ((HLR.out.below hbW HLR.out.lt HLR.out.lc HLR.out.la).keep hk3 ht hc ha)
                have hw3 := Nat.le_trans (Nat.le_trans hWr hbW.size) hk3.size
                have HJ3 := Lib.hid hJ3
                have HL3 := Lib.hid hl3
                clear hJ3 hk3 hy hR hl3 hbW hblk
                gi_wp2
                go_wp2
                go_roundw
                case rel => exact ⟨(k + 2), pre ++ [⟨3, (s.extract k (k + 2)), 0, k, 0⟩], by go_num, HCM.out.other hlt (by omega) (by omega) (by omega) (show (3 : Int) ≠ 1 by decide) rfl, HJ3.out, HL3.out, hn3, hw3⟩
                case measure => simp [intOf]; omega
              · have HJ3 := Lib.hid hJx3
                clear hJx3 hy hR
                gi_wp2
                go_wp2
                refine noGoto_r (bodyPost_ret (results_none rfl _ _ _) rfl ?_)
                exact ⟨⟨_, rfl⟩, .inr ⟨pre ++ [⟨3, (s.extract k (k + 2)), 0, k, 0⟩], came_snoc (k := (k + 2)) (HCM.out.other hlt (by omega) (by omega) (by omega) (show (3 : Int) ≠ 1 by decide) rfl), HJ3.out⟩⟩
            · have h61b : (b61 == 61) = false := by rw [beq_eq_false_iff_ne]; exact h61
              have hsl := slice_text s k (k + 1) (by omega) (by omega) k (k + 1) rfl (by omega)
              go_upto_region 38 with (go_at_call 127; refine (CAT.out _).mono ?_; rintro e w' ⟨rfl, rfl⟩)
              have hbW := (Below.refl wr.heap.size wr).alloc (Nat.le_refl _) (.cells #[.int .i64 3, .string (s.extract k (k + 1)), .int .i64 0, .int .i64 k, .int .i64 3] 153)
              have hblk := Go.heap_alloc_new wr (.cells #[.int .i64 3, .string (s.extract k (k + 1)), .int .i64 0, .int .i64 k, .int .i64 3] 153)
              have hnW := Nat.le_trans hnr hbW.size
              have hlen := HCM.out.len
              obtain ⟨fn, tmps, assign, body, hy, hR⟩ := HY.out pre ⟨3, (s.extract k (k + 1)), 0, k, 3⟩ _ (HJ.out _ _ _ none HJS.out (grown_of_below hbW) (fun r e => by cases e)) (by omega)
              simp only [encF] at hy
              refine (wpIn_wide (n := n)).1 ?_
              gi_wp2
              refine ⟨fun _ => by omega, hR.mono ?_⟩
              rintro e W3 (⟨rfl, hJ3, hk3⟩ | ⟨rfl, hJx3⟩)
              · have e4 := cell_of_row _ _ 4 _ _ _ (hk3.typ _ _ _ hblk)
                have HJ3 := Lib.hid hJ3
                clear hJ3 hk3 hy hR
                gi_wp2
                go_wp2
                refine noGoto_r (bodyPost_ret (results_none rfl _ _ _) rfl ?_)
                exact ⟨⟨_, rfl⟩, .inl ⟨_, HCM.out.bad hlt HNN.out (show (3 : Int) ≠ 0 by decide), HJ3.out⟩⟩
              · have HJ3 := Lib.hid hJx3
                clear hJx3 hy hR
                gi_wp2
                go_wp2
                refine noGoto_r (bodyPost_ret (results_none rfl _ _ _) rfl ?_)
                exact ⟨⟨_, rfl⟩, .inr ⟨_, HCM.out.bad hlt HNN.out (show (3 : Int) ≠ 0 by decide), HJ3.out⟩⟩
          · have hlt1 : decide ((k : Int) + 1 < (s.size : Int)) = false := by simp; omega
            have hsl := slice_text s k (k + 1) (by omega) (by omega) k (k + 1) rfl (by omega)
            go_upto_region 38 with (go_at_call 127; refine (CAT.out _).mono ?_; rintro e w' ⟨rfl, rfl⟩)
            have hbW := (Below.refl wr.heap.size wr).alloc (Nat.le_refl _) (.cells #[.int .i64 3, .string (s.extract k (k + 1)), .int .i64 0, .int .i64 k, .int .i64 3] 153)
            have hblk := Go.heap_alloc_new wr (.cells #[.int .i64 3, .string (s.extract k (k + 1)), .int .i64 0, .int .i64 k, .int .i64 3] 153)
            have hnW := Nat.le_trans hnr hbW.size
            have hlen := HCM.out.len
            obtain ⟨fn, tmps, assign, body, hy, hR⟩ := HY.out pre ⟨3, (s.extract k (k + 1)), 0, k, 3⟩ _ (HJ.out _ _ _ none HJS.out (grown_of_below hbW) (fun r e => by cases e)) (by omega)
            simp only [encF] at hy
            refine (wpIn_wide (n := n)).1 ?_
            gi_wp2
            refine ⟨fun _ => by omega, hR.mono ?_⟩
            rintro e W3 (⟨rfl, hJ3, hk3⟩ | ⟨rfl, hJx3⟩)
            · have e4 := cell_of_row _ _ 4 _ _ _ (hk3.typ _ _ _ hblk)
              have HJ3 := Lib.hid hJ3
              clear hJ3 hk3 hy hR
              gi_wp2
              go_wp2
              refine noGoto_r (bodyPost_ret (results_none rfl _ _ _) rfl ?_)
              exact ⟨⟨_, rfl⟩, .inl ⟨_, HCM.out.bad hlt HNN.out (show (3 : Int) ≠ 0 by decide), HJ3.out⟩⟩
            · have HJ3 := Lib.hid hJx3
              clear hJx3 hy hR
              gi_wp2
              go_wp2
              refine noGoto_r (bodyPost_ret (results_none rfl _ _ _) rfl ?_)
              exact ⟨⟨_, rfl⟩, .inr ⟨_, HCM.out.bad hlt HNN.out (show (3 : Int) ≠ 0 by decide), HJ3.out⟩⟩
        by_cases h0 : c = 0
        · subst h0
          have CAT := Lib.hid (at_here HLR.out k 0 hck)
          have hnn := not_name_at HCM.out hlt (by omega)
          have HNN := Lib.hid hnn
          clear hnn
          have hsl := slice_text s k k (by omega) (by omega) k k rfl rfl
          go_upto_region 38 with (go_at_call 127; refine (CAT.out _).mono ?_; rintro e w' ⟨rfl, rfl⟩)
          have hbW := (Below.refl wr.heap.size wr).alloc (Nat.le_refl _) (.cells #[.int .i64 0, .string ByteArray.empty, .int .i64 0, .int .i64 k, .int .i64 3] 153)
          have hblk := Go.heap_alloc_new wr (.cells #[.int .i64 0, .string ByteArray.empty, .int .i64 0, .int .i64 k, .int .i64 3] 153)
          have hnW := Nat.le_trans hnr hbW.size
          have hlen := HCM.out.len
          obtain ⟨fn, tmps, assign, body, hy, hR⟩ := HY.out pre ⟨0, ByteArray.empty, 0, k, 3⟩ _ (HJ.out _ _ _ none HJS.out (grown_of_below hbW) (fun r e => by cases e)) (by omega)
          simp only [encF] at hy
          refine (wpIn_wide (n := n)).1 ?_
          gi_wp2
          refine ⟨fun _ => by omega, hR.mono ?_⟩
          rintro e W3 (⟨rfl, hJ3, hk3⟩ | ⟨rfl, hJx3⟩)
          · have e4 := cell_of_row _ _ 4 _ _ _ (hk3.typ _ _ _ hblk)
            have HJ3 := Lib.hid hJ3
            clear hJ3 hk3 hy hR
            gi_wp2
            go_wp2
            refine noGoto_r (bodyPost_ret (results_none rfl _ _ _) rfl ?_)
            exact ⟨⟨_, rfl⟩, .inl ⟨_, HCM.out.bad hlt HNN.out (show (3 : Int) ≠ 0 by decide), HJ3.out⟩⟩
          · have HJ3 := Lib.hid hJx3
            clear hJx3 hy hR
            gi_wp2
            go_wp2
            refine noGoto_r (bodyPost_ret (results_none rfl _ _ _) rfl ?_)
            exact ⟨⟨_, rfl⟩, .inr ⟨_, HCM.out.bad hlt HNN.out (show (3 : Int) ≠ 0 by decide), HJ3.out⟩⟩
        by_cases h5 : c = 5
        · subst h5
          have CAT := Lib.hid (at_here HLR.out k 5 hck)
          have hnn := not_name_at HCM.out hlt (by omega)
          have HNN := Lib.hid hnn
          clear hnn
          have hsl := slice_text s k k (by omega) (by omega) k k rfl rfl
          go_upto_region 38 with (go_at_call 127; refine (CAT.out _).mono ?_; rintro e w' ⟨rfl, rfl⟩)
          have hbW := (Below.refl wr.heap.size wr).alloc (Nat.le_refl _) (.cells #[.int .i64 0, .string ByteArray.empty, .int .i64 0, .int .i64 k, .int .i64 3] 153)
          have hblk := Go.heap_alloc_new wr (.cells #[.int .i64 0, .string ByteArray.empty, .int .i64 0, .int .i64 k, .int .i64 3] 153)
          have hnW := Nat.le_trans hnr hbW.size
          have hlen := HCM.out.len
          obtain ⟨fn, tmps, assign, body, hy, hR⟩ := HY.out pre ⟨0, ByteArray.empty, 0, k, 3⟩ _ (HJ.out _ _ _ none HJS.out (grown_of_below hbW) (fun r e => by cases e)) (by omega)
          simp only [encF] at hy
          refine (wpIn_wide (n := n)).1 ?_
          gi_wp2
          refine ⟨fun _ => by omega, hR.mono ?_⟩
          rintro e W3 (⟨rfl, hJ3, hk3⟩ | ⟨rfl, hJx3⟩)
          · have e4 := cell_of_row _ _ 4 _ _ _ (hk3.typ _ _ _ hblk)
            have HJ3 := Lib.hid hJ3
            clear hJ3 hk3 hy hR
            gi_wp2
            go_wp2
            refine noGoto_r (bodyPost_ret (results_none rfl _ _ _) rfl ?_)
            exact ⟨⟨_, rfl⟩, .inl ⟨_, HCM.out.bad hlt HNN.out (show (3 : Int) ≠ 0 by decide), HJ3.out⟩⟩
          · have HJ3 := Lib.hid hJx3
            clear hJx3 hy hR
            gi_wp2
            go_wp2
            refine noGoto_r (bodyPost_ret (results_none rfl _ _ _) rfl ?_)
            exact ⟨⟨_, rfl⟩, .inr ⟨_, HCM.out.bad hlt HNN.out (show (3 : Int) ≠ 0 by decide), HJ3.out⟩⟩
        omega
      · have := cls_le (bt s k)
        unfold at' at hc9
        split at hc9 <;> omega
    · obtain rfl : k = s.size := by have := hcm.le; omega
      have hcd : decide ((s.size : Int) < (s.size : Int)) = false := by simp
      have hcame := came_of hcm
      have HC := Lib.hid hcame
      have HJS := Lib.hid hJs
      clear hcame hcm hJs hJ hY h0 hL hLr ct
      go_wp2
      refine noGoto_n ?_
      go_end0
      exact ⟨⟨_, rfl⟩, .inl ⟨pre, HC.out, HJS.out⟩⟩
end Go.Proofs.YtficjcomefaocaaGreatDoor
