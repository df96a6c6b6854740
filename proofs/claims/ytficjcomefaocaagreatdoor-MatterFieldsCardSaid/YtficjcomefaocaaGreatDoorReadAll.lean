/- MERGED (SplitL, ReadA, ReadB, ReadC, ReadD, ParP, ParL): SPLITTING at a byte, in plain Lean (for seats without the calendar: ParsePlain's first half). -/
import Derived.Lib.Split
import Derived.Lib.SplitLaws
import Derived.Lib.Atoi
import Derived.Laws.RangeAny
import Derived.Laws.RangeString
import Derived.Test.YtficjcomefaocaaGreatDoorBaseA
import Derived.Test.YtficjcomefaocaaGreatDoorTextC
import Derived.Test.YtficjcomefaocaaGreatDoorMove
import Derived.Lib.AtoiAllCases
import Derived.Lib.AtoiErrMem
import Derived.WalkSmall
import Derived.Lib.AtoiTie
/- SPLITTING at a byte, in plain Lean (for seats without the calendar: ParsePlain's first half). -/
namespace Go.Proofs.YtficjcomefaocaaGreatDoor
namespace Cal

/-- a list parted at a byte -/
def splitL (c : UInt8) : List UInt8 → List (List UInt8)
  | [] => [[]]
  | b :: l => if b = c then [] :: splitL c l else match splitL c l with
    | [] => [[b]]
    | h :: t => (b :: h) :: t
theorem splitL_ne (c : UInt8) (l : List UInt8) : splitL c l ≠ [] := by
  cases l with
  | nil => simp [splitL]
  | cons b l =>
    rw [splitL]
    split
    · simp
    · split <;> simp
theorem splitL_none (c : UInt8) (l : List UInt8) (h : c ∉ l) : splitL c l = [l] := by
  induction l with
  | nil => rfl
  | cons b l ih =>
    simp only [List.mem_cons, not_or] at h
    rw [splitL, if_neg (fun e => h.1 e.symm), ih h.2]
theorem splitL_app (c : UInt8) (p l : List UInt8) (h : c ∉ p) : splitL c (p ++ c :: l) = p :: splitL c l := by
  induction p with
  | nil => simp [splitL]
  | cons b p ih =>
    simp only [List.mem_cons, not_or] at h
    rw [List.cons_append, splitL, if_neg (fun e => h.1 e.symm), ih h.2]
/-- the pieces put together again -/
def joinL (c : UInt8) : List (List UInt8) → List UInt8
  | [] => []
  | [p] => p
  | p :: q :: r => p ++ c :: joinL c (q :: r)
theorem joinL_split (c : UInt8) (l : List UInt8) : joinL c (splitL c l) = l := by
  induction l with
  | nil => rfl
  | cons b l ih =>
    have hne := splitL_ne c l
    rw [splitL]
    cases hs : splitL c l with
    | nil => exact absurd hs hne
    | cons h t =>
      rw [hs] at ih
      by_cases hb : b = c
      · rw [if_pos hb, joinL, ih, hb]; rfl
      · rw [if_neg hb]
        simp only
        cases t with
        | nil => simp only [joinL] at ih ⊢; rw [ih]
        | cons q r => simp only [joinL] at ih ⊢; rw [List.cons_append, ih]
theorem splitL_mem (c : UInt8) (l : List UInt8) : ∀ p ∈ splitL c l, c ∉ p := by
  induction l with
  | nil => intro p hp; simp [splitL] at hp; subst hp; simp
  | cons b l ih =>
    have hne := splitL_ne c l
    rw [splitL]
    cases hs : splitL c l with
    | nil => exact absurd hs hne
    | cons h t =>
      rw [hs] at ih
      by_cases hb : b = c
      · rw [if_pos hb]
        intro p hp
        rcases List.mem_cons.1 hp with rfl | hp
        · simp
        · exact ih p hp
      · rw [if_neg hb]
        intro p hp
        rcases List.mem_cons.1 hp with rfl | hp
        · simp only [List.mem_cons, not_or]
          exact ⟨fun e => hb e.symm, ih h List.mem_cons_self⟩
        · exact ih p (List.mem_cons_of_mem _ hp)
theorem splitL_three {c : UInt8} {l p q r : List UInt8} : splitL c l = [p, q, r] ↔ (l = p ++ c :: (q ++ c :: r) ∧ c ∉ p ∧ c ∉ q ∧ c ∉ r) := by
  constructor
  · intro h
    have hj := joinL_split c l
    have hm := splitL_mem c l
    rw [h] at hj hm
    exact ⟨hj.symm, hm p (by simp), hm q (by simp), hm r (by simp)⟩
  · rintro ⟨rfl, hp, hq, hr⟩
    rw [splitL_app c p _ hp, splitL_app c q _ hq, splitL_none c r hr]

theorem index_none (c : UInt8) (l : List UInt8) (h : c ∉ l) : Lib.index l [c] = -1 := by
  induction l with
  | nil => rfl
  | cons b l ih =>
    simp only [List.mem_cons, not_or] at h
    have hb : (c == b) = false := by rw [beq_eq_false_iff_ne]; exact h.1
    rw [Lib.index]
    simp [List.isPrefixOf, hb, ih h.2]
theorem splitK_splitL (c : UInt8) (l : List UInt8) : Lib.splitK [c] 0 (Lib.count l [c]) l = splitL c l := by
  induction l with
  | nil => rfl
  | cons b l ih =>
    by_cases hb : b = c
    · subst hb
      rw [Lib.count_cons_eq, show 1 + Lib.count l [b] = Lib.count l [b] + 1 by omega, Lib.splitK, splitL, if_pos rfl]
      have hi : Lib.index (b :: l) [b] = 0 := by simp [Lib.index, List.isPrefixOf]
      rw [hi]
      simpa using ih
    · have hbc : (c == b) = false := by rw [beq_eq_false_iff_ne]; exact fun e => hb e.symm
      rw [Lib.count_cons_ne b c l hb, splitL, if_neg hb]
      have hi : Lib.index (b :: l) [c] = if Lib.index l [c] == -1 then -1 else Lib.index l [c] + 1 := by
        simp [Lib.index, List.isPrefixOf, hbc]
      cases hk : Lib.count l [c] with
      | zero =>
        have hm : c ∉ l := by
          rw [Lib.count_one] at hk
          exact List.count_eq_zero.1 hk
        rw [splitL_none c l hm]
        rfl
      | succ k =>
        rw [hk] at ih
        have hm : c ∈ l := by
          rw [Lib.count_one] at hk
          exact List.count_pos_iff.1 (by omega)
        rw [Lib.splitK] at ih ⊢
        rw [hi]
        by_cases hn : Lib.index l [c] == -1
        · rw [if_pos hn] at ih ⊢
          rw [← ih]
          simp
        · rw [if_neg hn] at ih ⊢
          have hge := Lib.index_ge l [c]
          have hn2 : Lib.index l [c] ≠ -1 := by simpa using hn
          rw [if_neg (by simp; omega), ← ih]
          simp only
          rw [show (Lib.index l [c] + 1).toNat = (Lib.index l [c]).toNat + 1 by omega]
          simp
end Cal
end Go.Proofs.YtficjcomefaocaaGreatDoor

/- THE READER of matter.Parse: how it lies, its methods word and number. -/
namespace Go.Proofs.YtficjcomefaocaaGreatDoor
open Go.RowKit Go.Maps
open Lexer

/-- a reader with its lines -/
structure Scan where
  words : List ByteArray
  wrong : Bool
  lines : List ByteArray
def Scan.word (s : Scan) : ByteArray × Scan := match s.words with
  | [] => (⟨#[]⟩, ⟨[], true, s.lines⟩)
  | a :: r => (a, ⟨r, s.wrong, s.lines⟩)
/-- the number that Atoi gives; is there an error -/
def numV (b : ByteArray) : Int := match Lib.atoiAll b.data.toList with
  | .ok v => v
  | .«syntax» => 0
  | .range => Lib.atoiSat b.data.toList
def numE (b : ByteArray) : Bool := match Lib.atoiAll b.data.toList with
  | .ok _ => false
  | _ => true
def Scan.number (s : Scan) : Int × Scan := (numV s.word.1, ⟨s.word.2.words, s.word.2.wrong || numE s.word.1, s.word.2.lines⟩)
theorem numV_wf (b : ByteArray) : (Lit.int .i64 (numV b)).wf = true := by
  apply WalkArith.wf_i64
  unfold numV
  split
  · rename_i v h
    unfold Lib.atoiAll at h
    split at h
    · cases h
    · simp only at h
      split at h
      · cases h
      · cases h
      · split at h
        · cases h
        · split at h
          · cases h
          · simp only [Lib.NumEnd.ok.injEq] at h
            subst h
            split <;> omega
  · omega
  · exact Lib.atoiSat_bounds _

/-- a slice of texts, as the heap holds it -/
def RW (w : World) (v : Value) (L : List ByteArray) : Prop :=
  ∃ A cap, v = .slice A L.length cap ∧ L.length ≤ cap ∧ L.length ≤ 1000001 ∧ (∀ s ∈ L, s.size ≤ 1000000) ∧ (L = [] ∨ ∃ b off cs, A = some ⟨b, off, none⟩ ∧ w.heap[b]? = some (.cells cs 9 (0, 0)) ∧ ∀ k, k < L.length → cs[off + k]? = some (.string (L.getD k ByteArray.empty)))
/-- all rows of this type stand -/
def KT (t : TypeId) (w w' : World) : Prop := ∀ (k : Nat) (cs : Array Value) (fz : Nat × Nat), w.heap[k]? = some (Obj.cells cs t fz) → w'.heap[k]? = some (Obj.cells cs t fz)
theorem KT.of_grown {t t' : TypeId} {w w' : World} {S : Nat} {cs : Array Value} {fz : Nat × Nat} (h : w.grownBy w' (some S)) (hS : w.heap[S]? = some (.cells cs t' fz)) (hne : t ≠ t') : KT t w w' := fun k cs' fz' hk => by
  rw [h.block k (Array.getElem?_eq_some_iff.1 hk).1 (fun e => ?_)]
  · exact hk
  · cases e
    rw [hS] at hk
    simp only [Option.some.injEq, Obj.cells.injEq] at hk
    exact hne hk.2.1.symm
theorem KT.of_below {t : TypeId} {w w' : World} (h : Below w.heap.size w w') : KT t w w' := fun k _ _ hk => by
  rw [h.block k (Array.getElem?_eq_some_iff.1 hk).1]; exact hk
theorem RW.kept {w w' : World} {v : Value} {L : List ByteArray} (h : RW w v L) (hk : KT 9 w w') : RW w' v L := by
  obtain ⟨A, cap, hv, hc, hl, hs, h⟩ := h
  refine ⟨A, cap, hv, hc, hl, hs, ?_⟩
  rcases h with h | ⟨b, off, cs, ha, hb, hcell⟩
  · exact .inl h
  · exact .inr ⟨b, off, cs, ha, hk _ _ _ hb, hcell⟩
theorem RW.first {w : World} {v : Value} {a : ByteArray} {r : List ByteArray} (h : RW w v (a :: r)) : ∃ b off cap, v = .slice (some ⟨b, off, none⟩) (r.length + 1) cap ∧ r.length + 1 ≤ cap ∧ w.cell? ⟨b, off, none⟩ = some (.string a) ∧ b < w.heap.size ∧ (∀ fz cs, w.heap[b]? = some (.cells cs 86 fz) → False) ∧
    (cap = 1 → RW w (.slice (some ⟨b, off, none⟩) r.length (cap - 1)) r) ∧ (cap ≠ 1 → RW w (.slice (some ⟨b, off + 1, none⟩) r.length (cap - 1)) r) := by
  obtain ⟨A, cap, hv, hc, hl, hs, h⟩ := h
  rcases h with h | ⟨b, off, cs, rfl, hb, hcell⟩
  · cases h
  · simp only [List.length_cons] at hv hc hl hcell
    refine ⟨b, off, cap, hv, hc, ?_, (Array.getElem?_eq_some_iff.1 hb).1, fun fz cs' h2 => ?_, fun h1 => ?_, fun h1 => ?_⟩
    · rw [cell_of_row w b off _ _ _ hb]
      simpa using hcell 0 (by omega)
    · rw [hb] at h2
      simp only [Option.some.injEq, Obj.cells.injEq] at h2
      exact absurd h2.2.1 (by decide)
    · have : r = [] := List.eq_nil_of_length_eq_zero (by omega)
      subst this
      exact ⟨_, _, rfl, by simp, by simp, by simp, .inl rfl⟩
    · refine ⟨_, _, rfl, by omega, by omega, fun s hs' => hs s (List.mem_cons_of_mem _ hs'), .inr ⟨b, off + 1, cs, rfl, hb, fun k hk => ?_⟩⟩
      have := hcell (k + 1) (by omega)
      rw [show off + 1 + k = off + (k + 1) by omega, this]
      simp

/-- the scanner's block -/
structure SR (w : World) (S : Nat) (st : Scan) : Prop where
  h : ∃ wv lv, w.heap[S]? = some (.cells #[wv, .bool st.wrong, lv] 86 (0, 0)) ∧ RW w wv st.words ∧ RW w lv st.lines
theorem SR.lt {w : World} {S : Nat} {st : Scan} (h : SR w S st) : S < w.heap.size := by
  obtain ⟨⟨_, _, h, _⟩⟩ := h
  exact (Array.getElem?_eq_some_iff.1 h).1
theorem SR.kt {w w' : World} {S : Nat} {st : Scan} (h : SR w S st) (hg : w.grownBy w' (some S)) : KT 9 w w' := by
  obtain ⟨⟨_, _, h, _⟩⟩ := h
  exact KT.of_grown hg h (by decide)
theorem SR.stay {w w' : World} {S : Nat} {st : Scan} (h : SR w S st) (hk : KT 9 w w') (hs : KT 86 w w') : SR w' S st := by
  obtain ⟨⟨wv, lv, h, h1, h2⟩⟩ := h
  exact ⟨⟨wv, lv, hs _ _ _ h, h1.kept hk, h2.kept hk⟩⟩
theorem SR.below {w w' : World} {S : Nat} {st : Scan} (h : SR w S st) (hb : Below w.heap.size w w') : SR w' S st := h.stay (KT.of_below hb) (KT.of_below hb)
theorem heap_set (w : World) (S i : Nat) (cs : Array Value) (t : TypeId) (fz : Nat × Nat) (v : Value) (h : w.heap[S]? = some (.cells cs t fz)) : (w.setCell ⟨S, i, none⟩ v).heap[S]? = some (.cells (cs.setIfInBounds i v) t fz) := by
  simp [World.setCell, Array.getElem?_modify, h]

set_option maxHeartbeats 2000000 in
set_option maxRecDepth 100000 in
theorem word_any (S : Nat) (st : Scan) (w : World) (h : SR w S st) :
    Calls Tryz.prog 41 #[.pointer (some ⟨S, 0, none⟩)] w fun e w' => e = .returned (.string st.word.1) ∧ SR w' S st.word.2 ∧ w.grownBy w' (some S) := by
  have hlt := h.lt
  have hkt := fun w' hg => h.kt (w' := w') hg
  obtain ⟨words, wrong, lines⟩ := st
  obtain ⟨⟨wv, lv, hb, hw, hl⟩⟩ := h
  simp only at hb hw hl
  have c0 : w.cell? ⟨S, 0, none⟩ = some wv := by rw [cell_of_row w S 0 _ _ _ hb]; rfl
  have f0 : w.frozen? ⟨S, 0, none⟩ = false := Lib.frozen_of_heap hb 0
  have f1 : w.frozen? ⟨S, 1, none⟩ = false := Lib.frozen_of_heap hb 1
  have c1 : w.cell? ⟨S, 1, none⟩ = some (.bool wrong) := by rw [cell_of_row w S 1 _ _ _ hb]; rfl
  have hset := fun i v => heap_set w S i _ _ _ v hb
  have hgr := fun i v => grownBy_setCellAt w S i v
  have HB := Lib.hid hset
  have HG := Lib.hid hgr
  have HKT := Lib.hid hkt
  have HW := Lib.hid hw
  have HL := Lib.hid hl
  clear hset hgr hkt
  cases words with
  | nil =>
    obtain ⟨A, cap, rfl, _⟩ := hw
    clear hb hl
    simp only [List.length_nil] at c0 HB HW
    go_enter Tryz.func41, Tryz.ntmps41
    go_wp2
    go_ret
    refine ⟨rfl, ⟨⟨_, _, HB.out 1 _, HW.out.kept (HKT.out _ (HG.out _ _)), HL.out.kept (HKT.out _ (HG.out _ _))⟩⟩, HG.out _ _⟩
  | cons a r =>
    obtain ⟨b, off, cap, rfl, hc, hx, hbl, hns, h1, h2⟩ := hw.first
    have hne : b ≠ S := fun e => hns _ _ (by rw [e]; exact hb)
    have H1 := Lib.hid h1
    have H2 := Lib.hid h2
    clear hb hl hw hns h1 h2 HW
    by_cases hcap : cap = 1
    · subst hcap
      have : r = [] := List.eq_nil_of_length_eq_zero (by omega)
      subst this
      simp only [List.length_nil] at c0 HB H1 H2
      go_enter Tryz.func41, Tryz.ntmps41
      go_wp2
      go_ret
      refine ⟨rfl, ⟨⟨_, _, HB.out 0 _, (H1.out trivial).kept (HKT.out _ (HG.out _ _)), HL.out.kept (HKT.out _ (HG.out _ _))⟩⟩, HG.out _ _⟩
    · have hcb : (cap = 1) = False := by simpa using hcap
      have g1 : (((r.length : Int) + 1) == 0) = false := by rw [beq_eq_false_iff_ne]; omega
      have g2 : (1 : Int) ≤ (r.length : Int) + 1 := by omega
      go_enter Tryz.func41, Tryz.ntmps41
      go_wp2
      go_ret
      refine ⟨rfl, ⟨⟨_, _, HB.out 0 _, ?_, HL.out.kept (HKT.out _ (HG.out _ _))⟩⟩, HG.out _ _⟩
      exact (H2.out hcap).kept (HKT.out _ (HG.out _ _))
end Go.Proofs.YtficjcomefaocaaGreatDoor

/- WALKS of matter's reader.number, reader.rest, scanner.next. -/
namespace Go.Proofs.YtficjcomefaocaaGreatDoor
open Go.RowKit Go.Maps
open Lexer Cal

theorem grown_below {w w' : World} {B S : Nat} (h : w.grownBy w' (some S)) (hS : B ≤ S) (hB : B ≤ w.heap.size) : Below B w w' := (Below.refl B w).grown h hB (fun k hk => by cases hk; exact hS)
theorem grown_then {w w' w'' : World} {row : Option Nat} (h : w.grownBy w' row) (hb : Below w'.heap.size w' w'') : w.grownBy w'' row :=
  h.andThen (row' := none) ⟨hb.os, hb.tape, hb.output, hb.size, fun k hk _ => hb.block k hk⟩ (fun j hj => by cases hj)
theorem SR.size {w : World} {S : Nat} {st : Scan} (h : SR w S st) : st.word.1.size ≤ 1000000 := by
  obtain ⟨⟨wv, lv, _, ⟨_, _, _, _, _, hs, _⟩, _⟩⟩ := h
  obtain ⟨words, wrong, lines⟩ := st
  cases words with
  | nil => exact Nat.zero_le _
  | cons a r => exact hs a List.mem_cons_self

/-- Atoi at every text -/
theorem atoi_any (b : ByteArray) (w : World) (B : Nat) (hs : b.size ≤ 1000000) (hE : Env B w) :
    Calls Tryz.prog 85 #[.string b] w fun e w' => ∃ ev, e = .returned (.tuple #[.int .i64 (numV b), ev]) ∧ ((numE b = false ∧ ev = .nilIface) ∨ (numE b = true ∧ ∃ N, ev = .iface 167 (.pointer (some ⟨N, 0, none⟩)))) ∧ Below w.heap.size w w' := by
  obtain ⟨_, _, ⟨e2, h2, k2⟩, ⟨e3, h3, k3⟩⟩ := hE w (Below.refl _ _)
  cases ha : Lib.atoiAll b.data.toList with
  | ok v =>
    refine (Tryz.strconv_Atoi_ok b (by omega) v ha w).mono ?_
    rintro e w' ⟨rfl, hw⟩
    refine ⟨_, by rw [show numV b = v by unfold numV; rw [ha]], .inl ⟨by unfold numE; rw [ha], rfl⟩, ?_⟩
    rcases hw with rfl | ⟨t, rfl⟩
    · exact Below.refl _ _
    · exact Lib.bytesWorld_below _ _ _
  | «syntax» =>
    refine (Tryz.strconv_Atoi_syntax b (by omega) ha e2 w h2 k2).mono ?_
    rintro e w' ⟨N, rfl, _, _, hb⟩
    exact ⟨_, by rw [show numV b = 0 by unfold numV; rw [ha]], .inr ⟨by unfold numE; rw [ha], N, rfl⟩, hb⟩
  | range =>
    refine (Tryz.strconv_Atoi_range b (by omega) ha e3 w h3 k3).mono ?_
    rintro e w' ⟨N, rfl, _, _, hb⟩
    exact ⟨_, by rw [show numV b = Lib.atoiSat b.data.toList by unfold numV; rw [ha]], .inr ⟨by unfold numE; rw [ha], N, rfl⟩, hb⟩

set_option maxHeartbeats 2000000 in
set_option maxRecDepth 100000 in
theorem number_any (S : Nat) (st : Scan) (w : World) (B : Nat) (h : SR w S st) (hE : Env B w) (hB : B ≤ S) :
    Calls Tryz.prog 42 #[.pointer (some ⟨S, 0, none⟩)] w fun e w' => e = .returned (.int .i64 st.number.1) ∧ SR w' S st.number.2 ∧ w.grownBy w' (some S) := by
  have hBw : B ≤ w.heap.size := Nat.le_trans hB (Nat.le_of_lt h.lt)
  have h1 := word_any S st w h
  have hsz := h.size
  have hE2 : ∀ w', w.grownBy w' (some S) → Env B w' := fun w' hg => hE.on (grown_below hg hB hBw)
  unfold Scan.number
  obtain ⟨a, ha⟩ : ∃ a, a = st.word.1 := ⟨_, rfl⟩
  obtain ⟨st1, hst1⟩ : ∃ a, a = st.word.2 := ⟨_, rfl⟩
  rw [← ha] at hsz h1
  rw [← hst1] at h1
  simp only []
  rw [← ha, ← hst1]
  obtain ⟨words, wrong, lines⟩ := st1
  have hat := fun w' hg => atoi_any a w' B hsz (hE2 w' hg)
  obtain ⟨E, hEe⟩ : ∃ E, E = numE a := ⟨_, rfl⟩
  rw [← hEe] at hat ⊢
  have HAT := Lib.hid hat
  clear hEe hat
  clear hE hE2 h ha hst1
  go_enter Tryz.func42, Tryz.ntmps42
  go_wp2_with fail
  refine h1.mono ?_
  rintro e w1 ⟨rfl, s1, g1⟩
  have h2 := HAT.out w1 g1
  have S1 := Lib.hid s1
  have G1 := Lib.hid g1
  clear s1 g1 h1
  go_wp2_with fail
  refine h2.mono ?_
  rintro e w2 ⟨ev, rfl, hev, b2⟩
  have s2 := S1.out.below b2
  have G2 := Lib.hid (grown_then G1.out b2)
  have hkt := fun w' hg => s2.kt (w' := w') hg
  clear h2 b2
  obtain ⟨⟨wv, lv, hb, hw, hl⟩⟩ := s2
  simp only at hb hw hl
  have c1 : w2.cell? ⟨S, 1, none⟩ = some (.bool wrong) := by rw [cell_of_row w2 S 1 _ _ _ hb]; rfl
  have f1 : w2.frozen? ⟨S, 1, none⟩ = false := Lib.frozen_of_heap hb 1
  have hset := fun i v => heap_set w2 S i _ _ _ v hb
  have hgr := fun i v => grownBy_setCellAt w2 S i v
  have HB := Lib.hid hset
  have HG := Lib.hid hgr
  have HKT := Lib.hid hkt
  have HW := Lib.hid hw
  have HL := Lib.hid hl
  clear hset hgr hkt hb hw hl
  rcases hev with ⟨rfl, rfl⟩ | ⟨rfl, N, rfl⟩ <;> cases wrong <;>
   (go_wp2
    go_ret
    exact ⟨rfl, ⟨⟨_, _, HB.out 1 _, HW.out.kept (HKT.out _ (HG.out _ _)), HL.out.kept (HKT.out _ (HG.out _ _))⟩⟩, G2.out.andThen (HG.out _ _) (fun j hj => .inr hj)⟩)
end Go.Proofs.YtficjcomefaocaaGreatDoor

/- WALKS of matter's reader.rest, scanner.next. -/
namespace Go.Proofs.YtficjcomefaocaaGreatDoor
open Go.RowKit Go.Maps
open Lexer Cal

/-- rows of another type than that of a row that was appended to -/
theorem KT.of_own {t e : TypeId} {w w' : World} {base size n : Nat} {v : Value} {xs : List Value} (h : w.ownsRow base e size v n xs) (hg : w.grownBy w' v.ownBlock) (hne : t ≠ e) : KT t w w' := fun k cs' fz' hk => by
  rw [hg.block k (Array.getElem?_eq_some_iff.1 hk).1 (fun he => ?_)]
  · exact hk
  · rcases h.2 with ⟨rfl, _⟩ | ⟨g, cap, cur, rfl, _, hgg, _⟩
    · cases he
    · simp only [Value.ownBlock, Option.some.injEq] at he
      subst he
      rw [hk] at hgg
      simp only [Option.some.injEq, Obj.cells.injEq] at hgg
      exact hne hgg.2.1
/-- append of m elements out of a fresh block, in a plain region: what turns is the row -/
theorem wpList_appG (w : World) {ops : Array Oper} {rest : List Oper} {o : Oper} {a : Act} {Q : Exit → Act → World → Prop} (hgd : o.guard = none) (s x : Operand) (t : TypeId)
    (ho : o.op = .call { callee := .builtin .append, args := #[s, x], argTypes := #[t, t] })
    (base : Nat) (e : TypeId) (i : TypeInfo) (z : Value) (size bytes : Nat) (ht : Tryz.prog.underlying t = some (.slice e)) (hi : Tryz.prog.info? e = some i) (hz : i.zero = some z)
    (hsize : i.size = size) (hby : i.bytes = bytes) (hzs : z.cells.size = size) (hsz : 0 < size)
    (v : Value) (n m : Nat) (xs : List Value) (hs : a.eval s = v) (hown : w.ownsRow base e size v n xs) (B : Nat) (hm : 0 < m) (hx : a.eval x = .slice (some ⟨B, 0, none⟩) m m)
    (cs : Array Value) (tt : TypeId) (fr : Nat × Nat) (hl : cs.toList.length = m * size) (hb : w.heap[B]? = some (.cells cs tt fr)) (h1 : ∀ u ∈ cs.toList, u.oneCell' = true) (hn : n + m ≤ 2000000) (hb2 : bytes ≤ 1000) (hbase : base ≤ w.heap.size)
    (h : ∀ g cap w', w'.ownsRow base e size (.slice (some ⟨g, 0, none⟩) (n + m) cap) (n + m) (xs ++ cs.toList) → w.grownBy w' v.ownBlock → wpList Tryz.prog ops Q rest (a.put o.dst (.slice (some ⟨g, 0, none⟩) (n + m) cap)) w') :
    wpList Tryz.prog ops Q (o :: rest) a w :=
  wpList_append_lies _ hgd s x t ho base e i z size bytes ht hi hz hsize hby hzs hsz v n xs hs hown ⟨B, 0, none⟩ m m cs.toList hx hl (World.news_of_block hb) h1 hm (by unfold maxLen; omega)
    (Nat.le_trans (Nat.mul_le_mul hn hb2) (by decide)) hbase w.heap.size rfl (fun g cap w' h2 h3 _ _ => h g cap w' h2 h3)
theorem KT.trans {t : TypeId} {a b c : World} (h : KT t a b) (k : KT t b c) : KT t a c := fun i cs fz hi => k i cs fz (h i cs fz hi)
theorem KT.alloc {t : TypeId} (w : World) (o : Obj) : KT t w (w.alloc o) := KT.of_below ((Below.refl _ _).alloc (Nat.le_refl _) _)
theorem grown_alloc {w w' : World} {row : Option Nat} (h : w.grownBy w' row) (o : Obj) : w.grownBy (w'.alloc o) row := h.trans (World.grownBy_alloc _ _ _)
theorem grown_own {w a b : World} {row : Option Nat} {base e size n : Nat} {v : Value} {xs : List Value} (h : w.grownBy a row) (hown : a.ownsRow base e size v n xs) (hb : w.heap.size ≤ base) (hg : a.grownBy b v.ownBlock) : w.grownBy b row :=
  h.andThen hg (fun j hj => .inl (Nat.le_trans hb (own_block_ge hown j hj)))
theorem own_grown {w w' : World} {base e size n S : Nat} {v : Value} {xs : List Value} (hown : w.ownsRow base e size v n xs) (hg : w.grownBy w' (some S)) (hS : S < base) : w'.ownsRow base e size v n xs :=
  hown.kept hg (by
    cases hv : v.ownBlock with
    | none => exact .inl rfl
    | some k => exact .inr fun e => by have := own_block_ge hown k hv; simp at e; omega)

theorem word_words (st : Scan) (a : ByteArray) (r : List ByteArray) (h : st.words = a :: r) : st.number = (numV a, ⟨r, st.wrong || numE a, st.lines⟩) := by
  obtain ⟨words, wrong, lines⟩ := st
  simp only at h
  subst h
  rfl

set_option maxHeartbeats 2000000 in
set_option maxRecDepth 100000 in
theorem rest_any (S : Nat) (st : Scan) (w : World) (B : Nat) (h : SR w S st) (hE : Env B w) (hB : B ≤ S) :
    Calls Tryz.prog 44 #[.pointer (some ⟨S, 0, none⟩)] w fun e w' => ∃ v, e = .returned v ∧ w'.ownsRow w.heap.size 3 1 v st.words.length ((st.words.map numV).map (Value.int .i64)) ∧ SR w' S ⟨[], st.wrong || st.words.any numE, st.lines⟩ ∧ w.grownBy w' (some S) := by
  have hBw : B ≤ w.heap.size := Nat.le_trans hB (Nat.le_of_lt h.lt)
  have hE2 : ∀ w', w.grownBy w' (some S) → Env B w' := fun w' hg => hE.on (grown_below hg hB hBw)
  obtain ⟨i0, hi, hz0, hz1, hz2⟩ := info_parts infoI
  have hlen : st.words.length ≤ 1000001 := by obtain ⟨⟨wv, lv, _, ⟨_, _, _, _, hl, _, _⟩, _⟩⟩ := h; exact hl
  have hSlt := h.lt
  have HE2 := Lib.hid hE2
  have H := Lib.hid h
  clear hE hE2 h
  go_enter Tryz.func44, Tryz.ntmps44
  go_wp2
  go_loopw [3] (fun v wr => ∃ (ps qs : List ByteArray) (wrong : Bool), st.words = ps ++ qs ∧ wr.ownsRow w.heap.size 3 1 v ps.length ((ps.map numV).map (Value.int .i64)) ∧ SR wr S ⟨qs, wrong, st.lines⟩ ∧ (wrong || qs.any numE) = (st.wrong || st.words.any numE) ∧ w.grownBy wr (some S)) (fun v _ => st.words.length - (match v with | .slice _ n _ => n | _ => 0))
  case atStart => exact ⟨[], st.words, st.wrong, rfl, World.ownsRow_nil _ _ _ _, H.out, rfl, World.grownBy.refl _ _⟩
  case round =>
    obtain ⟨ps, qs, wrong, hps, hown, hsr, hwr, hg⟩ := hrel
    obtain ⟨⟨wv, lv, hb, hw, hl⟩⟩ := id hsr
    simp only at hb hw hl
    have c0 : wr.cell? ⟨S, 0, none⟩ = some wv := by rw [cell_of_row wr S 0 _ _ _ hb]; rfl
    have hpl : ps.length + qs.length = st.words.length := by rw [hps]; simp
    obtain ⟨A, cap, rfl, _⟩ := hw
    cases qs with
    | nil =>
      have HPS := Lib.hid hps
      have HOWN := Lib.hid hown
      have HSR := Lib.hid hsr
      have HWR := Lib.hid hwr
      have HG := Lib.hid hg
      clear hps hown hsr hwr hg hb hl
      simp only [List.length_nil] at c0
      go_wp2
      go_ret
      have e1 : st.words = ps := by rw [HPS.out]; simp
      refine ⟨_, rfl, by rw [e1]; simpa using HOWN.out, ?_, HG.out⟩
      have e3 : (st.wrong || st.words.any numE) = wrong := by rw [← HWR.out]; simp
      rw [e3]
      exact HSR.out
    | cons a r =>
      have hnum := number_any S ⟨a :: r, wrong, st.lines⟩ wr B hsr (HE2.out _ hg) hB
      rw [word_words _ a r rfl] at hnum
      have g1 : (0 : Int) < (r.length : Int) + 1 := by omega
      have hown2 := fun w' hg' => own_grown (w' := w') hown hg' hSlt
      have hvn : ∃ A c, u3 = .slice A ps.length c := by
        rcases hown.2 with ⟨rfl, h0⟩ | ⟨g, c, _, rfl, _⟩
        · exact ⟨_, _, by rw [h0]⟩
        · exact ⟨_, _, rfl⟩
      obtain ⟨vA, vc, rfl⟩ := hvn
      have HPS := Lib.hid hps
      have HOWN := Lib.hid hown2
      have HWR := Lib.hid hwr
      have HG := Lib.hid hg
      clear hps hown hown2 hsr hwr hg hb hl
      simp only [List.length_cons] at c0 hpl
      go_wp2_with fail
      refine hnum.mono ?_
      rintro e w2 ⟨rfl, s2, g2⟩
      have hown2 := HOWN.out _ g2
      have HOWN2 := Lib.hid hown2
      have S2 := Lib.hid s2
      have G2 := Lib.hid (HG.out.trans g2)
      clear hown2 s2 g2 hnum
      have hle2 : w.heap.size ≤ w2.heap.size := G2.out.size
      go_wp2_with (at_builtin; refine wpList_appG _ rfl (.tmp 10) (.tmp 13) 22 rfl w.heap.size 3 i0 (.int .i64 0) 1 8 Tryz.underlying22 hi hz0 hz1 hz2 rfl (by decide) _ ps.length 1 _ rfl (HOWN2.out.alloc _) w2.heap.size (by decide) rfl #[.int .i64 (numV a)] 3 (0, 0) rfl (Go.heap_alloc_new _ _) (fun u hu => by simp at hu; subst hu; rfl) (by omega) (by decide) (Nat.le_trans hle2 (le_alloc _ _)) ?_; intro g cap' w5 hown5 hg5)
      have s5 : SR w5 S ⟨r, wrong || numE a, st.lines⟩ := S2.out.stay ((KT.alloc _ _).trans (KT.of_own (HOWN2.out.alloc _) hg5 (by decide))) ((KT.alloc _ _).trans (KT.of_own (HOWN2.out.alloc _) hg5 (by decide)))
      have g5 : w.grownBy w5 (some S) := grown_own (grown_alloc G2.out _) (HOWN2.out.alloc _) (Nat.le_refl _) hg5
      have S5 := Lib.hid s5
      have G5 := Lib.hid g5
      have HOWN5 := Lib.hid hown5
      clear s5 g5 hown5 hg5
      go_wp2
      go_roundw
      case rel =>
        refine ⟨ps ++ [a], r, wrong || numE a, by rw [HPS.out]; simp, ?_, S5.out, ?_, G5.out⟩
        · simpa using HOWN5.out
        · rw [← HWR.out]; simp [Bool.or_assoc]
      case measure => simp; omega

/-- a text's pieces -/
def splitW (c : UInt8) (s : ByteArray) : List ByteArray := (splitL c s.data.toList).map fun l => ⟨l.toArray⟩
theorem splitL_len (c : UInt8) (l : List UInt8) : (splitL c l).length = l.count c + 1 := by
  induction l with
  | nil => rfl
  | cons b l ih =>
    rw [splitL]
    by_cases hb : b = c
    · rw [if_pos hb, hb, List.length_cons, ih, List.count_cons_self]
    · rw [if_neg hb, List.count_cons_of_ne hb]
      cases hs : splitL c l with
      | nil => exact absurd hs (splitL_ne c l)
      | cons p r => rw [hs] at ih; simpa using ih
theorem splitB_W (c : UInt8) (s : ByteArray) : Lib.splitB ⟨#[c]⟩ 0 (Lib.countB s ⟨#[c]⟩) s = splitW c s := by
  have hd := Lib.splitB_data ⟨#[c]⟩ 0 (Lib.countB s ⟨#[c]⟩) s
  have hk : Lib.splitK [c] 0 (Lib.countB s ⟨#[c]⟩) s.data.toList = splitL c s.data.toList := splitK_splitL c s.data.toList
  have : (Lib.splitB ⟨#[c]⟩ 0 (Lib.countB s ⟨#[c]⟩) s).map (fun x : ByteArray => (⟨x.data.toList.toArray⟩ : ByteArray)) = splitW c s := by
    have e := congrArg (List.map fun l : List UInt8 => (⟨l.toArray⟩ : ByteArray)) (hd.trans hk)
    rw [List.map_map] at e
    exact e
  rw [← this]
  simp
theorem splitW_len (c : UInt8) (s : ByteArray) : (splitW c s).length = Lib.countB s ⟨#[c]⟩ + 1 := by
  unfold splitW
  rw [List.length_map, splitL_len, ← Lib.count_one]
theorem splitL_size (c : UInt8) (l : List UInt8) : ∀ p ∈ splitL c l, p.length ≤ l.length := by
  induction l with
  | nil => intro p hp; simp [splitL] at hp; subst hp; simp
  | cons b l ih =>
    intro p hp
    rw [splitL] at hp
    by_cases hb : b = c
    · rw [if_pos hb] at hp
      rcases List.mem_cons.1 hp with rfl | hp
      · simp
      · have := ih p hp; simp only [List.length_cons]; omega
    · rw [if_neg hb] at hp
      cases hs : splitL c l with
      | nil => exact absurd hs (splitL_ne c l)
      | cons h t =>
        rw [hs] at hp ih
        simp only at hp
        rcases List.mem_cons.1 hp with rfl | hp
        · have := ih h List.mem_cons_self; simp only [List.length_cons]; omega
        · have := ih p (List.mem_cons_of_mem _ hp); simp only [List.length_cons]; omega
theorem splitW_size (c : UInt8) (s : ByteArray) : ∀ p ∈ splitW c s, p.size ≤ s.size := by
  intro p hp
  simp only [splitW, List.mem_map] at hp
  obtain ⟨l, hl, rfl⟩ := hp
  have := splitL_size c _ l hl
  rw [Lib.size_eq, Lib.size_eq]
  exact this
theorem splitW_le (c : UInt8) (s : ByteArray) : (splitW c s).length ≤ s.size + 1 := by
  unfold splitW
  rw [List.length_map, splitL_len, Lib.size_eq]
  have := List.count_le_length (a := c) (l := s.data.toList)
  omega
theorem split_any (c : UInt8) (s : ByteArray) (w : World) (B : Nat) (hE : Env B w) (hs : s.size ≤ 1000000) :
    Calls Tryz.prog 39 #[.string s, .string ⟨#[c]⟩] w fun e w' => ∃ v, e = .returned v ∧ RW w' v (splitW c s) ∧ Below w.heap.size w w' := by
  obtain ⟨_, ⟨m, hm⟩, _, _⟩ := hE w (Below.refl _ _)
  refine (Tryz.strings_Split s ⟨#[c]⟩ m w (by omega) hm (Nat.le_refl 1)).mono ?_
  rintro e w' ⟨rfl, rfl⟩
  refine ⟨_, rfl, ?_, (Below.refl _ _).alloc (Nat.le_refl _) _⟩
  rw [splitB_W, ← splitW_len]
  have hle := splitW_le c s
  refine ⟨_, _, rfl, Nat.le_refl _, by omega, fun p hp => Nat.le_trans (splitW_size c s p hp) hs, .inr ⟨_, 0, _, rfl, Go.heap_alloc_new _ _, fun k hk => ?_⟩⟩
  rw [List.getD_eq_getElem?_getD]
  simp [hk]
/-- the next line -/
def Scan.next (s : Scan) : Bool × Scan := match s.lines with
  | [] => (false, ⟨s.words, s.wrong || !s.words.isEmpty, []⟩)
  | l :: r => (true, ⟨splitW 32 l, s.wrong || !s.words.isEmpty, r⟩)
end Go.Proofs.YtficjcomefaocaaGreatDoor

/- WALK of matter's scanner.next. -/
namespace Go.Proofs.YtficjcomefaocaaGreatDoor
open Go.RowKit Go.Maps
open Lexer Cal

set_option maxHeartbeats 2000000 in
set_option maxRecDepth 100000 in
theorem next_any (S : Nat) (st : Scan) (w : World) (B : Nat) (h : SR w S st) (hE : Env B w) (hB : B ≤ S) :
    Calls Tryz.prog 43 #[.pointer (some ⟨S, 0, none⟩)] w fun e w' => e = .returned (.bool st.next.1) ∧ SR w' S st.next.2 ∧ w.grownBy w' (some S) := by
  have hBw : B ≤ w.heap.size := Nat.le_trans hB (Nat.le_of_lt h.lt)
  have hE2 : ∀ w', w.grownBy w' (some S) → Env B w' := fun w' hg => hE.on (grown_below hg hB hBw)
  have hkt := fun w' hg => h.kt (w' := w') hg
  have hSlt := h.lt
  obtain ⟨words, wrong, lines⟩ := st
  obtain ⟨⟨wv, lv, hb, hw, hl⟩⟩ := h
  simp only at hb hw hl
  have c0 : w.cell? ⟨S, 0, none⟩ = some wv := by rw [cell_of_row w S 0 _ _ _ hb]; rfl
  have c1 : w.cell? ⟨S, 1, none⟩ = some (.bool wrong) := by rw [cell_of_row w S 1 _ _ _ hb]; rfl
  have c2 : w.cell? ⟨S, 2, none⟩ = some lv := by rw [cell_of_row w S 2 _ _ _ hb]; rfl
  have f1 : w.frozen? ⟨S, 1, none⟩ = false := Lib.frozen_of_heap hb 1
  obtain ⟨X, hX⟩ : ∃ X, X = (wrong || !words.isEmpty) := ⟨_, rfl⟩
  have hb1 := heap_set w S 1 _ _ _ (.bool X) hb
  have hg1 := grownBy_setCellAt w S 1 (.bool X)
  have hw1 := hw.kept (hkt _ hg1)
  have hl1 := hl.kept (hkt _ hg1)
  have hb1' : (w.setCell ⟨S, 1, none⟩ (.bool X)).heap[S]? = some (.cells #[wv, .bool X, lv] 86 (0, 0)) := hb1
  have hE1 := hE2 _ hg1
  have HB1 := Lib.hid hb1'
  have HW1 := Lib.hid hw1
  have HL1 := Lib.hid hl1
  have HG1 := Lib.hid hg1
  have HX := Lib.hid hX
  have HE1 := Lib.hid hE1
  obtain ⟨A, cap, rfl, _⟩ := hw
  obtain ⟨A2, cap2, rfl, _⟩ := hl
  have gw : decide ((0 : Int) < (words.length : Int)) = !words.isEmpty := by
    cases words with
    | nil => rfl
    | cons a r => simp
  have gn : decide (0 < words.length) = !words.isEmpty := by
    cases words with
    | nil => rfl
    | cons a r => simp
  clear hb1 hb1' hw1 hl1 hg1 hE1 hb hkt hE hE2 hX
  go_enter Tryz.func43, Tryz.ntmps43
  go_upto_region 1 with fail
  go_cut [17] (fun s17 wx => s17 = .bool X ∧ wx = w.setCell ⟨S, 1, none⟩ (.bool X))
  case first =>
    obtain ⟨Y, hY⟩ : ∃ Y, Y = words.isEmpty := ⟨_, rfl⟩
    have hx := HX.out
    rw [← hY] at hx gw gn
    clear hY
    cases wrong <;> cases Y <;> simp only [Bool.or_true, Bool.not_true, Bool.not_false, Bool.or_false] at hx gw gn <;> subst hx <;> (go_wp2_with fail; go_meet; first | exact ⟨rfl, rfl⟩ | exact ⟨by rw [gn], by rw [gn]⟩)
  case rest =>
    obtain ⟨rfl, rfl⟩ := hcut
    have c2' : (w.setCell ⟨S, 1, none⟩ (.bool X)).cell? ⟨S, 2, none⟩ = some (.slice A2 lines.length cap2) := by rw [cell_of_row _ S 2 _ _ _ HB1.out]; rfl
    clear c0 c1 c2 f1 gw gn
    cases lines with
    | nil =>
      simp only [List.length_nil] at c2'
      go_wp2
      go_ret
      refine ⟨rfl, ⟨⟨_, _, ?_, HW1.out, HL1.out⟩⟩, HG1.out⟩
      have e : (Scan.next ⟨words, wrong, []⟩).2.wrong = X := HX.out.symm
      rw [e]
      exact HB1.out
    | cons a r =>
      have hl2 := HL1.out
      obtain ⟨b, off, cap', hv, hc, hx, hbl, hns, h1, h2⟩ := hl2.first
      have hsz : a.size ≤ 1000000 := by obtain ⟨_, _, _, _, _, hs, _⟩ := hl2; exact hs a List.mem_cons_self
      simp only [List.length_cons, Value.slice.injEq] at hv
      obtain ⟨rfl, _, rfl⟩ := hv
      have hspl := split_any 32 a _ B HE1.out hsz
      have HSP := Lib.hid hspl
      have g1 : (((r.length : Int) + 1) == 0) = false := by rw [beq_eq_false_iff_ne]; omega
      have g2 : (1 : Int) ≤ (r.length : Int) + 1 := by omega
      have H1 := Lib.hid h1
      have H2 := Lib.hid h2
      have hne : b ≠ S := fun e => hns (0, 0) _ (by rw [e]; exact HB1.out)
      clear hl2 hns h1 h2 hspl HL1
      simp only [List.length_cons] at c2' HB1
      go_wp2_with fail
      refine HSP.out.mono ?_
      rintro e w3 ⟨v3, rfl, hw3, b3⟩
      obtain ⟨A3, cap3, rfl, _⟩ := id hw3
      have hb3 : w3.heap[S]? = some (.cells #[.slice A words.length cap, .bool X, .slice (some ⟨b, off, none⟩) (r.length + 1) cap2] 86 (0, 0)) := by
        rw [b3.block S (Array.getElem?_eq_some_iff.1 HB1.out).1]; exact HB1.out
      have hlt3 : b ≠ S := hne
      have q0 : w3.cell? ⟨b, off, none⟩ = some (.string a) := (b3.cell (p := ⟨b, off, none⟩) hbl).trans hx
      have p0 : w3.cell? ⟨S, 0, none⟩ = some (.slice A words.length cap) := by rw [cell_of_row _ S 0 _ _ _ hb3]; rfl
      have p2 : w3.cell? ⟨S, 2, none⟩ = some (.slice (some ⟨b, off, none⟩) (r.length + 1) cap2) := by rw [cell_of_row _ S 2 _ _ _ hb3]; rfl
      have p3 : w3.frozen? ⟨S, 0, none⟩ = false := Lib.frozen_of_heap hb3 0
      have p4 : w3.frozen? ⟨S, 2, none⟩ = false := Lib.frozen_of_heap hb3 2
      have hb4 := fun v => heap_set w3 S 0 _ _ _ v hb3
      have hb5 := fun v u => heap_set (w3.setCell ⟨S, 0, none⟩ v) S 2 _ _ _ u (hb4 v)
      have hg4 := fun v u => (grownBy_setCellAt w3 S 0 v).trans (grownBy_setCellAt (w3.setCell ⟨S, 0, none⟩ v) S 2 u)
      have hk4 := fun v u => KT.of_grown (t := 9) (hg4 v u) hb3 (by decide)
      have hg5 := fun v u => (grown_then HG1.out b3).trans (hg4 v u)
      have hk3 : KT 9 (w.setCell ⟨S, 1, none⟩ (.bool X)) w3 := KT.of_below b3
      have H1' : cap2 = 1 → RW w3 (.slice (some ⟨b, off, none⟩) r.length (cap2 - 1)) r := fun h => (H1.out h).kept hk3
      have H2' : cap2 ≠ 1 → RW w3 (.slice (some ⟨b, off + 1, none⟩) r.length (cap2 - 1)) r := fun h => (H2.out h).kept hk3
      have HW3 := Lib.hid hw3
      have HB5 := Lib.hid hb5
      have HK4 := Lib.hid hk4
      have HG5 := Lib.hid hg5
      have H1'' := Lib.hid H1'
      have H2'' := Lib.hid H2'
      have e : (Scan.next ⟨words, wrong, a :: r⟩).2 = ⟨splitW 32 a, X, r⟩ := by rw [HX.out]; rfl
      have HEQ := Lib.hid e
      clear hw3 hb4 hb5 hg4 hk4 hg5 hk3 H1' H2' H1 H2 HSP HB1 HW1 HG1 HE1 HX b3 hb3 hx hbl c2' e
      by_cases hcap : cap2 = 1
      · subst hcap
        obtain rfl : r = [] := List.eq_nil_of_length_eq_zero (by omega)
        simp only [List.length_nil] at p2 HB5 H1'' H2'' HK4 HG5
        go_wp2
        go_ret
        refine ⟨rfl, ?_, HG5.out _ _⟩
        rw [HEQ.out]
        exact ⟨⟨_, _, HB5.out _ _, HW3.out.kept (HK4.out _ _), (H1''.out trivial).kept (HK4.out _ _)⟩⟩
      · have hcb : (cap2 = 1) = False := by simpa using hcap
        go_wp2
        go_ret
        refine ⟨rfl, ?_, HG5.out _ _⟩
        rw [HEQ.out]
        exact ⟨⟨_, _, HB5.out _ _, HW3.out.kept (HK4.out _ _), (H2''.out hcap).kept (HK4.out _ _)⟩⟩
end Go.Proofs.YtficjcomefaocaaGreatDoor

/- WHAT matter.Parse reads, in plain Lean; how what it builds lies. -/
namespace Go.Proofs.YtficjcomefaocaaGreatDoor
open Go.RowKit Go.Maps
open Lexer Cal

def nilV : Value := .slice none 0 0
/-- a limit, a matter, without the slices' places -/
def Lim.norm (x : Lim) : Lim := { x with sv := nilV }
def Mat.norm (m : Mat) : Mat := { m with cv := nilV, mv := nilV, rv := nilV, lv := nilV, limits := m.limits.map Lim.norm }
/-- pairs of numbers; is something wrong -/
def stopsL : List ByteArray → List (Int × Int) × Bool
  | [] => ([], false)
  | [a] => ([(numV a, 0)], true)
  | a :: b :: r => ((numV a, numV b) :: (stopsL r).1, numE a || numE b || (stopsL r).2)
def bRight : ByteArray := ⟨#[114, 105, 103, 104, 116]⟩
/-- a line of a right -/
def rightS (s : Scan) : (ByteArray × Int) × Scan := ((s.word.1, s.word.2.number.1), s.word.2.number.2)
/-- a line of a limit: its head -/
def limS (s : Scan) : ByteArray × Int × Int × Int × Scan :=
  (s.word.1, s.word.2.number.1, s.word.2.number.2.number.1, s.word.2.number.2.number.2.number.1, s.word.2.number.2.number.2.number.2)
def limX (s : Scan) : Lim := ⟨(limS s).1, (limS s).2.1, (limS s).2.2.1, (limS s).2.2.2.1, nilV, (stopsL (limS s).2.2.2.2.words).1⟩
/-- the further lines -/
def loopL : List ByteArray → List ByteArray → Bool → List (ByteArray × Int) → List Lim → Bool × List (ByteArray × Int) × List Lim
  | [], ws, wr, R, L => (wr || !ws.isEmpty, R, L)
  | l :: r, ws, wr, R, L =>
    let s : Scan := ⟨splitW 32 l, wr || !ws.isEmpty, r⟩
    if s.word.1 = bRight then loopL r (rightS s.word.2).2.words (rightS s.word.2).2.wrong (R ++ [(rightS s.word.2).1]) L
    else loopL r [] ((limS s.word.2).2.2.2.2.wrong || (stopsL (limS s.word.2).2.2.2.2.words).2) R (L ++ [limX s.word.2])
/-- the three first lines -/
structure Head where
  id : ByteArray
  opened : Int
  proc : ByteArray
  stage : Int
  cs : List Int
  mo : List Int
  st : Scan
def headS (s0 : Scan) : Head :=
  let a := s0.next.2.word.2
  let b := a.word.2.number.2.word.2.number.2
  let c := b.next.2.word.2
  let d : Scan := ⟨[], c.wrong || c.words.any numE, c.lines⟩
  let f := d.next.2.word.2
  ⟨a.word.1, a.word.2.number.1, a.word.2.number.2.word.1, a.word.2.number.2.word.2.number.1, c.words.map numV, f.words.map numV, ⟨[], f.wrong || f.words.any numE, f.lines⟩⟩
def start (text : ByteArray) : Scan := ⟨[], false, splitW 10 ⟨(Lib.trimSuffix text.data.toList [10]).toArray⟩⟩
/-- what is read -/
def loose (text : ByteArray) : Bool × Mat :=
  let h := headS (start text)
  let o := loopL h.st.lines h.st.words h.st.wrong [] []
  (o.1, ⟨h.id, h.opened, nilV, h.cs, h.proc, h.stage, nilV, h.mo, nilV, o.2.1, nilV, o.2.2⟩)
/-- is it accepted -/
def okP (text : ByteArray) : Prop := (loose text).1 = false ∧ formedB (loose text).2 = true ∧ textL (loose text).2 = text.data.toList

theorem word_lines (s : Scan) : s.word.2.lines = s.lines := by
  obtain ⟨words, wrong, lines⟩ := s
  cases words <;> rfl
theorem number_lines (s : Scan) : s.number.2.lines = s.lines := word_lines s
theorem word_len (s : Scan) : s.word.2.words.length = s.words.length - 1 := by
  obtain ⟨words, wrong, lines⟩ := s
  cases words <;> rfl

/-- a slice of numbers, as the heap holds it -/
def RH (w : World) (v : Value) (L : List Int) : Prop :=
  L.length ≤ 1000001 ∧ (∀ x ∈ L, (Lit.int .i64 x).wf = true) ∧ ∃ base, w.ownsRow base 3 1 v L.length (L.map (Value.int .i64))
/-- a slice of pairs, as the heap holds it -/
def RHP (w : World) (v : Value) (L : List (Int × Int)) : Prop := L.length ≤ 1000001 ∧ ∃ base, w.ownsRow base 77 2 v L.length (news L.length (csP L))
theorem own_kt {w w' : World} {base e size n : Nat} {v : Value} {xs : List Value} (h : w.ownsRow base e size v n xs) (hk : KT e w w') : w'.ownsRow base e size v n xs := by
  refine ⟨h.1, ?_⟩
  rcases h.2 with h | ⟨g, cap, cur, hv, hb, hg, h⟩
  · exact .inl h
  · exact .inr ⟨g, cap, cur, hv, hb, hk _ _ _ hg, h⟩
theorem RH.kt {w w' : World} {v : Value} {L : List Int} (h : RH w v L) (hk : KT 3 w w') : RH w' v L := by
  obtain ⟨h1, h2, b, h3⟩ := h
  exact ⟨h1, h2, b, own_kt h3 hk⟩
theorem RHP.kt {w w' : World} {v : Value} {L : List (Int × Int)} (h : RHP w v L) (hk : KT 77 w w') : RHP w' v L := by
  obtain ⟨h1, b, h3⟩ := h
  exact ⟨h1, b, own_kt h3 hk⟩
theorem newsI_map (L : List Int) : L.map (Value.int .i64) = news L.length (csI L) := by
  apply List.ext_getElem?
  intro i
  by_cases h : i < L.length
  · have h1 := news_get (n := L.length) (c := 1) (cs := csI L) (k := i) (i := 0) (u := .int .i64 (L.getD i 0)) (fun _ => rfl) h rfl
    simp only [Nat.mul_one, Nat.add_zero] at h1
    rw [h1, getD_eq L 0 h]
    simp [h]
  · have h2 : (news L.length (csI L)).length = L.length * 1 := news_len (fun _ => rfl)
    rw [List.getElem?_eq_none (by simp; omega), List.getElem?_eq_none (by omega)]
theorem RH.ri {w : World} {v : Value} {L : List Int} (h : RH w v L) : RI w w.heap.size v L := by
  obtain ⟨h1, h2, b, h3⟩ := h
  rw [newsI_map] at h3
  exact RI.of_rg (RG.of_own (fun _ => rfl) h3 (by omega)) (by omega) h2
theorem RHP.rp {w : World} {v : Value} {L : List (Int × Int)} (h : RHP w v L) : RP w w.heap.size v L := by
  obtain ⟨h1, b, h3⟩ := h
  exact RP.of_rg (RG.of_own (fun _ => rfl) h3 (by omega))
def csL (L : List Lim) (k : Nat) : List Value := [.string (L.getD k lim0).id, .int .i64 (L.getD k lim0).N, .int .i64 (L.getD k lim0).U, .int .i64 (L.getD k lim0).f, (L.getD k lim0).sv]
/-- what Parse has built -/
structure PB (w : World) (base : Nat) (m : Mat) : Prop where
  cs : RH w m.cv m.case_
  mo : RH w m.mv m.moved
  rr : w.ownsRow base 41 2 m.rv m.rights.length (news m.rights.length (csR m.rights))
  rn : m.rights.length ≤ 1000001
  rs : ∀ x ∈ m.rights, x.1.size ≤ 1000000
  ll : w.ownsRow base 65 5 m.lv m.limits.length (news m.limits.length (csL m.limits))
  ln : m.limits.length ≤ 1000001
  ls : ∀ x ∈ m.limits, x.id.size ≤ 1000000 ∧ RHP w x.sv x.stops
  si : m.id.size ≤ 1000000
  sp : m.proc.size ≤ 1000000
/-- no row of what is built turns -/
structure KB (w w' : World) : Prop where
  i : KT 3 w w'
  r : KT 41 w w'
  l : KT 65 w w'
  s : KT 77 w w'
theorem KB.trans {a b c : World} (h : KB a b) (k : KB b c) : KB a c := ⟨h.i.trans k.i, h.r.trans k.r, h.l.trans k.l, h.s.trans k.s⟩
theorem KB.below {w w' : World} (h : Below w.heap.size w w') : KB w w' := ⟨KT.of_below h, KT.of_below h, KT.of_below h, KT.of_below h⟩
theorem KB.of {w w' : World} {S : Nat} {t : TypeId} {cs : Array Value} {fz : Nat × Nat} (hg : w.grownBy w' (some S)) (hS : w.heap[S]? = some (.cells cs t fz)) (h1 : 3 ≠ t) (h2 : 41 ≠ t) (h3 : 65 ≠ t) (h4 : 77 ≠ t) : KB w w' :=
  ⟨KT.of_grown hg hS h1, KT.of_grown hg hS h2, KT.of_grown hg hS h3, KT.of_grown hg hS h4⟩
theorem PB.kb {w w' : World} {base : Nat} {m : Mat} (h : PB w base m) (hk : KB w w') : PB w' base m :=
  ⟨h.cs.kt hk.i, h.mo.kt hk.i, own_kt h.rr hk.r, h.rn, h.rs, own_kt h.ll hk.l, h.ln, fun x hx => ⟨(h.ls x hx).1, (h.ls x hx).2.kt hk.s⟩, h.si, h.sp⟩
theorem PB.mr {w : World} {base : Nat} {m : Mat} (h : PB w base m) : MR w w.heap.size m :=
  ⟨h.cs.ri, h.mo.ri, ⟨RG.of_own (fun _ => rfl) h.rr (by have := h.rn; omega), fun x hx => Nat.le_trans (h.rs x hx) (by decide)⟩, ⟨RG.of_own (fun _ => rfl) h.ll (by have := h.ln; omega), fun x hx => Nat.le_trans (h.ls x hx).1 (by decide), fun x hx => (h.ls x hx).2.rp⟩, Nat.le_trans h.si (by decide), Nat.le_trans h.sp (by decide)⟩
theorem SR.kb {w w' : World} {S : Nat} {st : Scan} (h : SR w S st) (hg : w.grownBy w' (some S)) : KB w w' := by
  obtain ⟨⟨_, _, h, _⟩⟩ := h
  exact KB.of hg h (by decide) (by decide) (by decide) (by decide)
theorem SR.km {w w' : World} {S : Nat} {st : Scan} (h : SR w S st) (hg : w.grownBy w' (some S)) : KT 27 w w' := by
  obtain ⟨⟨_, _, h, _⟩⟩ := h
  exact KT.of_grown hg h (by decide)
end Go.Proofs.YtficjcomefaocaaGreatDoor

/- WHAT IS READ OF A MATTER'S TEXT IS THE MATTER (plain Lean). -/
namespace Go.Proofs.YtficjcomefaocaaGreatDoor
open Go.RowKit Go.Maps
open Lexer Cal

theorem numF_app (l r : List UInt8) : ∀ acc, numF acc (l ++ r) = numF (numF acc l) r := by
  intro acc; simp [numF, List.foldl_append]
theorem dec_num : ∀ u : Nat, Lib.decDigits u ≠ [] ∧ digL (Lib.decDigits u) = true ∧ numL (Lib.decDigits u) = (u : Int) := by
  intro u
  induction u using Nat.strongRecOn with
  | ind u ih =>
    have hd : ∀ v : Nat, v < 10 → (UInt8.ofNat (48 + v)).toNat = 48 + v := fun v hv => by
      rw [UInt8.toNat_ofNat']; omega
    rw [Lib.decDigits]
    by_cases h : u < 10
    · rw [dif_pos h]
      refine ⟨by simp, digL_iff.2 fun b hb => ?_, ?_⟩
      · rw [List.mem_singleton.1 hb, digB_iff, hd u h]; omega
      · simp only [numL, numF, List.foldl_cons, List.foldl_nil, hd u h]; omega
    · rw [dif_neg h]
      obtain ⟨h1, h2, h3⟩ := ih (u / 10) (by omega)
      refine ⟨by simp, digL_iff.2 fun b hb => ?_, ?_⟩
      · rcases List.mem_append.1 hb with hb | hb
        · exact digL_iff.1 h2 b hb
        · rw [List.mem_singleton.1 hb, digB_iff, hd _ (by omega)]; omega
      · rw [numL, numF_app]
        rw [numL] at h3
        rw [h3]
        simp only [numF, List.foldl_cons, List.foldl_nil, hd (u % 10) (by omega)]; omega
theorem itoa_dec {n : Int} (h : 0 ≤ n) : Lib.itoa n = Lib.decDigits n.toNat := by
  unfold Lib.itoa; rw [if_neg (by omega)]
theorem itoa_dig {n : Int} (h : 0 ≤ n) : Lib.itoa n ≠ [] ∧ digL (Lib.itoa n) = true ∧ numL (Lib.itoa n) = n := by
  rw [itoa_dec h]
  obtain ⟨h1, h2, h3⟩ := dec_num n.toNat
  exact ⟨h1, h2, by rw [h3]; omega⟩
theorem numF_lower (l : List UInt8) (h : digL l = true) : ∀ acc : Int, 0 ≤ acc → acc * 10 ^ l.length ≤ numF acc l := by
  induction l with
  | nil => intro acc _; simp [numF]
  | cons b l ih =>
    intro acc ha
    simp only [digL, List.all_cons, Bool.and_eq_true] at h
    have hb := digB_iff.1 h.1
    have h1 := ih h.2 (10 * acc + ((b.toNat : Int) - 48)) (by omega)
    have e : numF acc (b :: l) = numF (10 * acc + ((b.toNat : Int) - 48)) l := rfl
    rw [e, List.length_cons, Int.pow_succ]
    refine Int.le_trans ?_ h1
    have hp : (0 : Int) ≤ 10 ^ l.length := Int.pow_nonneg (by decide)
    calc acc * (10 ^ l.length * 10) = (10 * acc) * 10 ^ l.length := by rw [Int.mul_comm (10 ^ l.length) 10, ← Int.mul_assoc, Int.mul_comm acc 10]
      _ ≤ (10 * acc + ((b.toNat : Int) - 48)) * 10 ^ l.length := Int.mul_le_mul_of_nonneg_right (by omega) hp
theorem dec_head : ∀ u : Nat, ∃ b r, Lib.decDigits u = b :: r ∧ (u ≠ 0 → 49 ≤ b.toNat) ∧ (u = 0 → r = []) := by
  intro u
  induction u using Nat.strongRecOn with
  | ind u ih =>
    rw [Lib.decDigits]
    by_cases h : u < 10
    · rw [dif_pos h]
      refine ⟨_, _, rfl, fun h0 => ?_, fun _ => rfl⟩
      rw [UInt8.toNat_ofNat']; omega
    · rw [dif_neg h]
      obtain ⟨b, r, h1, h2, h3⟩ := ih (u / 10) (by omega)
      rw [h1]
      exact ⟨b, r ++ [UInt8.ofNat (48 + u % 10)], rfl, fun _ => h2 (by omega), fun h0 => by omega⟩
/-- a numeral of at most seven digits -/
theorem itoa_short {n : Int} (h0 : 0 ≤ n) (h1 : n < 10000000) : (Lib.itoa n).length ≤ 7 := by
  obtain ⟨_, hd, hn⟩ := itoa_dig h0
  obtain ⟨b, r, e, hb, hr⟩ := dec_head n.toNat
  rw [← itoa_dec h0] at e
  by_cases hz : n.toNat = 0
  · rw [e, hr hz]; simp
  · have hb1 := hb hz
    rw [e] at hd hn ⊢
    simp only [digL, List.all_cons, Bool.and_eq_true] at hd
    have h2 := numF_lower r hd.2 ((b.toNat : Int) - 48) (by omega)
    have e2 : numL (b :: r) = numF (10 * 0 + ((b.toNat : Int) - 48)) r := rfl
    rw [e2] at hn
    simp only [Int.mul_zero, Int.zero_add] at hn
    rw [hn] at h2
    by_cases hl : (b :: r).length ≤ 7
    · exact hl
    · exfalso
      simp only [List.length_cons] at hl
      have hp : (10 : Int) ^ 7 ≤ 10 ^ r.length := by
        obtain ⟨k, hk⟩ : ∃ k, r.length = 7 + k := ⟨r.length - 7, by omega⟩
        rw [hk, Int.pow_add]
        have : (1 : Int) ≤ 10 ^ k := by
          have : (0 : Int) < 10 ^ k := Int.pow_pos (by decide)
          omega
        calc (10 : Int) ^ 7 = 10 ^ 7 * 1 := by simp
          _ ≤ 10 ^ 7 * 10 ^ k := Int.mul_le_mul_of_nonneg_left this (by decide)
      have h3 : (1 : Int) * 10 ^ r.length ≤ ((b.toNat : Int) - 48) * 10 ^ r.length := Int.mul_le_mul_of_nonneg_right (by omega) (Int.pow_nonneg (by decide))
      have e7 : (10 : Int) ^ 7 = 10000000 := by decide
      omega

/-- a word as bytes -/
def bw (l : List UInt8) : ByteArray := ⟨l.toArray⟩
theorem bw_list (l : List UInt8) : (bw l).data.toList = l := rfl
theorem bw_ba (s : ByteArray) : bw s.data.toList = s := rfl
theorem numVE {n : Int} (h : numB n = true) : numV (bw (Lib.itoa n)) = n ∧ numE (bw (Lib.itoa n)) = false := by
  have hn := of_decide_eq_true h
  obtain ⟨h1, h2, h3⟩ := itoa_dig hn.1
  have hl := itoa_short hn.1 (by omega)
  have ha : Lib.atoiAll (bw (Lib.itoa n)).data.toList = .ok n := by
    rw [bw_list, Lib.atoiAll_short _ (by omega), atoi_num _ h1 h2, h3]; rfl
  unfold numV numE
  rw [ha]
  exact ⟨rfl, rfl⟩
theorem itoa_no {n : Int} (h : numB n = true) (c : UInt8) (hc : digB c = false) : c ∉ Lib.itoa n := by
  have hn := of_decide_eq_true h
  obtain ⟨_, h2, _⟩ := itoa_dig hn.1
  intro hm
  rw [digL_iff.1 h2 c hm] at hc
  cases hc
theorem name_no {s : ByteArray} (h : nameB s = true) (c : UInt8) (hc : c = 32 ∨ c = 10) : c ∉ s.data.toList := by
  unfold nameB at h
  have h' : nameS s := by simpa using h
  obtain ⟨_, _, h3⟩ := (nameS_iff s).1 h'
  intro hm
  obtain ⟨i, hi, e⟩ := List.getElem_of_mem hm
  have hi2 : i < s.size := by rw [Lib.size_eq]; exact hi
  have h4 := h3 i hi2
  have e2 : bt s i = c.toNat := by
    unfold bt
    rw [List.getD_eq_getElem?_getD, List.getElem?_eq_getElem hi, e]; rfl
  rw [e2] at h4
  unfold okN at h4
  rcases hc with rfl | rfl
  · simp at h4
  · simp at h4

theorem splitL_join (c : UInt8) : ∀ ws : List (List UInt8), ws ≠ [] → (∀ p ∈ ws, c ∉ p) → splitL c (joinL c ws) = ws
  | [], h, _ => absurd rfl h
  | [p], _, h => splitL_none c p (h p (by simp))
  | p :: q :: r, _, h => by
    rw [joinL, splitL_app c p _ (h p (by simp)), splitL_join c (q :: r) (by simp) (fun x hx => h x (List.mem_cons_of_mem _ hx))]
theorem joinL_app (c : UInt8) : ∀ (ws : List (List UInt8)) (x : List UInt8), ws ≠ [] → joinL c (ws ++ [x]) = joinL c ws ++ c :: x
  | [], _, h => absurd rfl h
  | [p], _, _ => rfl
  | p :: q :: r, x, _ => by
    have e := joinL_app c (q :: r) x (by simp)
    show joinL c (p :: q :: (r ++ [x])) = _
    rw [joinL, joinL]
    rw [List.cons_append] at e
    rw [e]; simp
theorem joinL_nums (ws : List (List UInt8)) (h : ws ≠ []) : ∀ L : List Int, joinL 32 (ws ++ L.map Lib.itoa) = joinL 32 ws ++ numsL L := by
  intro L
  induction L generalizing ws with
  | nil => simp [numsL]
  | cons x L ih =>
    have e := ih (ws ++ [Lib.itoa x]) (by simp)
    rw [joinL_app 32 ws _ h] at e
    simpa [numsL] using e
theorem join_lines (c : UInt8) : ∀ ls : List (List UInt8), ls ≠ [] → ls.flatMap (fun l => l ++ [c]) = joinL c ls ++ [c]
  | [], h => absurd rfl h
  | [p], _ => by simp [joinL]
  | p :: q :: r, _ => by
    have e := join_lines c (q :: r) (by simp)
    rw [List.flatMap_cons, e, joinL]; simp
theorem trim_end (l : List UInt8) (c : UInt8) : Lib.trimSuffix (l ++ [c]) [c] = l := by
  unfold Lib.trimSuffix
  have hs : Lib.hasSuffix (l ++ [c]) [c] = true := by simp [Lib.hasSuffix, List.isSuffixOf]
  rw [if_pos hs]; simp

/-- the lines' words -/
def wMatter : List UInt8 := [109, 97, 116, 116, 101, 114]
def wRight : List UInt8 := [114, 105, 103, 104, 116]
def wLimit : List UInt8 := [108, 105, 109, 105, 116]
def hW (m : Mat) : List (List UInt8) := [wMatter, m.id.data.toList, Lib.itoa m.opened, m.proc.data.toList] ++ [m.stage].map Lib.itoa
def cW (m : Mat) : List (List UInt8) := [sCase] ++ m.case_.map Lib.itoa
def mW (m : Mat) : List (List UInt8) := [sMoved] ++ m.moved.map Lib.itoa
def rW (x : ByteArray × Int) : List (List UInt8) := [wRight, x.1.data.toList] ++ [x.2].map Lib.itoa
def lW (x : Lim) : List (List UInt8) := [wLimit, x.id.data.toList] ++ (limNs x).map Lib.itoa
def linesW (m : Mat) : List (List (List UInt8)) := hW m :: cW m :: mW m :: (m.rights.map rW ++ m.limits.map lW)
theorem textL_lines (m : Mat) : textL m = ((linesW m).map (joinL 32)).flatMap fun l => l ++ [10] := by
  have hh : headL m = joinL 32 (hW m) ++ [10] := by
    unfold hW headL lineL
    rw [joinL_nums _ (by simp)]
    simp [joinL, headF, wMatter, sMatter]
  have hc : lineL sCase m.case_ = joinL 32 (cW m) ++ [10] := by
    unfold cW lineL
    rw [joinL_nums _ (by simp)]
    simp [joinL]
  have hm : lineL sMoved m.moved = joinL 32 (mW m) ++ [10] := by
    unfold mW lineL
    rw [joinL_nums _ (by simp)]
    simp [joinL]
  have hr : ∀ x, rightL x = joinL 32 (rW x) ++ [10] := fun x => by
    unfold rW rightL lineL
    rw [joinL_nums _ (by simp)]
    simp [joinL, sRight, wRight]
  have hl : ∀ x, limitL x = joinL 32 (lW x) ++ [10] := fun x => by
    unfold lW limitL lineL
    rw [joinL_nums _ (by simp)]
    simp [joinL, sLimit, wLimit]
  have hR : m.rights.flatMap rightL = ((m.rights.map rW).map (joinL 32)).flatMap fun l => l ++ [10] := by
    rw [List.map_map, List.flatMap_map]; exact congrArg (fun f => m.rights.flatMap f) (funext hr)
  have hL : m.limits.flatMap limitL = ((m.limits.map lW).map (joinL 32)).flatMap fun l => l ++ [10] := by
    rw [List.map_map, List.flatMap_map]; exact congrArg (fun f => m.limits.flatMap f) (funext hl)
  unfold textL textB linesW
  rw [hh, hc, hm, hR, hL]
  simp only [List.map_cons, List.flatMap_cons, List.map_append, List.flatMap_append, List.append_assoc]
/-- no word holds a space or a line's end -/
theorem linesW_no {m : Mat} (h : FM m) (c : UInt8) (hc : c = 32 ∨ c = 10) : ∀ ws ∈ linesW m, ws ≠ [] ∧ ∀ p ∈ ws, c ∉ p := by
  have hd : digB c = false := by rcases hc with rfl | rfl <;> rfl
  have hn : ∀ L : List Int, (∀ x ∈ L, numB x = true) → ∀ p ∈ L.map Lib.itoa, c ∉ p := fun L hL p hp => by
    obtain ⟨x, hx, rfl⟩ := List.mem_map.1 hp
    exact itoa_no (hL x hx) c hd
  intro ws hws
  simp only [linesW, List.mem_cons, List.mem_append, List.mem_map] at hws
  rcases hws with rfl | rfl | rfl | ⟨x, hx, rfl⟩ | ⟨x, hx, rfl⟩
  · refine ⟨by simp [hW], fun p hp => ?_⟩
    rcases List.mem_append.1 hp with hp | hp
    · simp only [List.mem_cons, List.not_mem_nil, or_false] at hp
      rcases hp with rfl | rfl | rfl | rfl
      · rcases hc with rfl | rfl <;> decide
      · exact name_no h.id c hc
      · exact itoa_no h.op c hd
      · exact name_no h.proc c hc
    · exact hn _ (by intro x hx; rw [List.mem_singleton.1 hx]; exact stage_num h) p hp
  · refine ⟨by simp [cW], fun p hp => ?_⟩
    rcases List.mem_append.1 hp with hp | hp
    · rw [List.mem_singleton.1 hp]; rcases hc with rfl | rfl <;> decide
    · exact hn _ h.cs p hp
  · refine ⟨by simp [mW], fun p hp => ?_⟩
    rcases List.mem_append.1 hp with hp | hp
    · rw [List.mem_singleton.1 hp]; rcases hc with rfl | rfl <;> decide
    · exact hn _ h.mo p hp
  · have hr := h.ri x hx
    refine ⟨by simp [rW], fun p hp => ?_⟩
    rcases List.mem_append.1 hp with hp | hp
    · simp only [List.mem_cons, List.not_mem_nil, or_false] at hp
      rcases hp with rfl | rfl
      · rcases hc with rfl | rfl <;> decide
      · exact name_no hr.1 c hc
    · exact hn _ (by intro y hy; rw [List.mem_singleton.1 hy]; exact hr.2.2) p hp
  · have hl := limB_iff.1 (h.li x hx)
    refine ⟨by simp [lW], fun p hp => ?_⟩
    rcases List.mem_append.1 hp with hp | hp
    · simp only [List.mem_cons, List.not_mem_nil, or_false] at hp
      rcases hp with rfl | rfl
      · rcases hc with rfl | rfl <;> decide
      · exact name_no hl.id c hc
    · exact hn _ hl.ns p hp
theorem joinL_mem (c d : UInt8) (hcd : d ≠ c) : ∀ ws : List (List UInt8), (∀ p ∈ ws, d ∉ p) → d ∉ joinL c ws
  | [], _ => by simp [joinL]
  | [p], h => h p (by simp)
  | p :: q :: r, h => by
    have e := joinL_mem c d hcd (q :: r) (fun x hx => h x (List.mem_cons_of_mem _ hx))
    rw [joinL]
    intro hm
    rcases List.mem_append.1 hm with hm | hm
    · exact h p (by simp) hm
    · rcases List.mem_cons.1 hm with hm | hm
      · exact hcd hm
      · exact e hm
/-- the lines as the scanner has them -/
theorem start_lines {m : Mat} (h : FM m) {text : ByteArray} (ht : text.data.toList = textL m) : start text = ⟨[], false, (linesW m).map fun ws => bw (joinL 32 ws)⟩ := by
  unfold start
  have hne : (linesW m).map (joinL 32) ≠ [] := by simp [linesW]
  have e : Lib.trimSuffix text.data.toList [10] = joinL 10 ((linesW m).map (joinL 32)) := by
    rw [ht, textL_lines, join_lines 10 _ hne, trim_end]
  have e2 : splitL 10 (joinL 10 ((linesW m).map (joinL 32))) = (linesW m).map (joinL 32) := splitL_join 10 _ hne fun p hp => by
    obtain ⟨ws, hws, rfl⟩ := List.mem_map.1 hp
    exact joinL_mem 32 10 (by decide) ws (linesW_no h 10 (.inr rfl) ws hws).2
  unfold splitW
  rw [e]
  show Scan.mk [] false ((splitL 10 (joinL 10 ((linesW m).map (joinL 32)))).map _) = _
  rw [e2, List.map_map]
  rfl
theorem split_words {m : Mat} (h : FM m) {ws : List (List UInt8)} (hws : ws ∈ linesW m) : splitW 32 (bw (joinL 32 ws)) = ws.map bw := by
  obtain ⟨h1, h2⟩ := linesW_no h 32 (.inl rfl) ws hws
  unfold splitW
  rw [bw_list, splitL_join 32 ws h1 h2]
  rfl
theorem nums_read {L : List Int} (h : ∀ x ∈ L, numB x = true) : ((L.map Lib.itoa).map bw).map numV = L ∧ ((L.map Lib.itoa).map bw).any numE = false := by
  induction L with
  | nil => exact ⟨rfl, rfl⟩
  | cons x L ih =>
    obtain ⟨h1, h2⟩ := ih fun y hy => h y (List.mem_cons_of_mem _ hy)
    obtain ⟨h3, h4⟩ := numVE (h x List.mem_cons_self)
    simp only [List.map_cons, List.any_cons, h3, h4, h1, h2, Bool.or_false, and_self]
theorem stops_read : ∀ L : List (Int × Int), (∀ s ∈ L, numB s.1 = true ∧ numB s.2 = true) → stopsL (((L.flatMap fun s => [s.1, s.2]).map Lib.itoa).map bw) = (L, false)
  | [], _ => rfl
  | s :: L, h => by
    obtain ⟨h1, h2⟩ := h s List.mem_cons_self
    obtain ⟨a1, a2⟩ := numVE h1
    obtain ⟨b1, b2⟩ := numVE h2
    have e := stops_read L fun x hx => h x (List.mem_cons_of_mem _ hx)
    simp only [List.flatMap_cons, List.cons_append, List.nil_append, List.map_cons, stopsL, e, a1, a2, b1, b2, Bool.or_false]
theorem FL.stn {x : Lim} (h : FL x) : ∀ s ∈ x.stops, numB s.1 = true ∧ numB s.2 = true := fun s hs => by
  have := h.st s hs
  exact ⟨decide_eq_true ⟨by omega, by omega⟩, decide_eq_true ⟨by omega, by omega⟩⟩
theorem loop_limits {m : Mat} (h : FM m) : ∀ (P Q : List Lim) (R : List (ByteArray × Int)), (∀ x ∈ P, x ∈ m.limits) → loopL ((P.map lW).map fun ws => bw (joinL 32 ws)) [] false R Q = (false, R, Q ++ P.map Lim.norm)
  | [], Q, R, _ => by simp [loopL]
  | x :: P, Q, R, hP => by
    have hx := hP x List.mem_cons_self
    have hl := limB_iff.1 (h.li x hx)
    have hw : splitW 32 (bw (joinL 32 (lW x))) = (lW x).map bw := split_words h (by simp only [linesW, List.mem_cons, List.mem_append, List.mem_map]; exact .inr (.inr (.inr (.inr ⟨x, hx, rfl⟩))))
    obtain ⟨n1, n2⟩ := numVE hl.n
    obtain ⟨u1, u2⟩ := numVE (hl.ns x.U (by simp [limNs]))
    obtain ⟨f1, f2⟩ := numVE hl.f
    have hst := stops_read x.stops hl.stn
    have ih := loop_limits h P (Q ++ [x.norm]) R fun y hy => hP y (List.mem_cons_of_mem _ hy)
    have hne : bw wLimit ≠ bRight := by intro e; exact absurd (congrArg (fun s : ByteArray => s.data.toList) e) (by decide)
    rw [List.map_cons, List.map_cons, loopL]
    simp only [hw]
    simp only [lW, limNs, List.cons_append, List.nil_append, List.map_cons, Scan.word, if_neg hne, limX, limS, Scan.number, n1, n2, u1, u2, f1, f2, hst, Bool.or_false, List.isEmpty_nil, Bool.not_true, bw_ba]
    rw [show (⟨x.id, x.N, x.U, x.f, nilV, x.stops⟩ : Lim) = x.norm from rfl, ih]
    simp
theorem loop_rights {m : Mat} (h : FM m) (T : List ByteArray) : ∀ (P R : List (ByteArray × Int)), (∀ x ∈ P, x ∈ m.rights) → loopL (((P.map rW).map fun ws => bw (joinL 32 ws)) ++ T) [] false R [] = loopL T [] false (R ++ P) []
  | [], R, _ => by simp
  | x :: P, R, hP => by
    have hx := hP x List.mem_cons_self
    have hr := h.ri x hx
    have hw : splitW 32 (bw (joinL 32 (rW x))) = (rW x).map bw := split_words h (by simp only [linesW, List.mem_cons, List.mem_append, List.mem_map]; exact .inr (.inr (.inr (.inl ⟨x, hx, rfl⟩))))
    obtain ⟨n1, n2⟩ := numVE hr.2.2
    have ih := loop_rights h T P (R ++ [x]) fun y hy => hP y (List.mem_cons_of_mem _ hy)
    have he : bw wRight = bRight := rfl
    rw [List.map_cons, List.map_cons, List.cons_append, loopL]
    simp only [hw]
    simp only [rW, List.cons_append, List.nil_append, List.map_cons, List.map_nil, Scan.word, if_pos he, rightS, Scan.number, n1, n2, Bool.or_false, List.isEmpty_nil, Bool.not_true, bw_ba]
    rw [ih]
    simp
/-- what is read of a formed matter's text -/
theorem loose_text {m : Mat} (h : FM m) {text : ByteArray} (ht : text.data.toList = textL m) : loose text = (false, m.norm) := by
  have hs := start_lines h ht
  have w1 : splitW 32 (bw (joinL 32 (hW m))) = [bw wMatter, m.id, bw (Lib.itoa m.opened), m.proc, bw (Lib.itoa m.stage)] := split_words h (by simp [linesW])
  have w2 : splitW 32 (bw (joinL 32 (cW m))) = bw sCase :: (m.case_.map Lib.itoa).map bw := split_words h (by simp [linesW])
  have w3 : splitW 32 (bw (joinL 32 (mW m))) = bw sMoved :: (m.moved.map Lib.itoa).map bw := split_words h (by simp [linesW])
  obtain ⟨o1, o2⟩ := numVE h.op
  obtain ⟨s1, s2⟩ := numVE (stage_num h)
  obtain ⟨c1, c2⟩ := nums_read h.cs
  obtain ⟨m1, m2⟩ := nums_read h.mo
  have hh : headS (start text) = ⟨m.id, m.opened, m.proc, m.stage, m.case_, m.moved, ⟨[], false, (m.rights.map rW ++ m.limits.map lW).map fun ws => bw (joinL 32 ws)⟩⟩ := by
    rw [hs]
    simp only [headS, linesW, List.map_cons, Scan.next, w1, w2, w3, Scan.word, Scan.number, o1, o2, s1, s2, c1, c2, m1, m2, Bool.or_false, List.isEmpty_nil, Bool.not_true]
  unfold loose
  simp only [hh]
  have hl := loop_rights h ((m.limits.map lW).map fun ws => bw (joinL 32 ws)) m.rights [] (fun _ h => h)
  rw [List.map_append, hl, loop_limits h m.limits [] _ (fun _ h => h)]
  simp [Mat.norm]
theorem limitL_norm (x : Lim) : limitL x.norm = limitL x := rfl
theorem textL_norm (m : Mat) : textL m.norm = textL m := by
  unfold textL
  show textB m ++ (m.rights.flatMap rightL ++ (m.limits.map Lim.norm).flatMap limitL) = _
  rw [List.flatMap_map]
  rfl
theorem formedB_norm (m : Mat) : formedB m.norm = formedB m := by
  have h : diffB (fun x : Lim => limB x.id x.N x.U x.f x.stops) (fun x => x.id) (m.limits.map Lim.norm) = diffB (fun x : Lim => limB x.id x.N x.U x.f x.stops) (fun x => x.id) m.limits := by
    rw [Bool.eq_iff_iff, diffB_iff, diffB_iff]
    simp only [List.mem_map, forall_exists_index, and_imp, forall_apply_eq_imp_iff₂, List.map_map, List.length_map]
    rfl
  unfold formedB
  simp only [Mat.norm]
  rw [h]
  rfl
/-- what Parse accepts -/
theorem okP_iff (text : ByteArray) : okP text ↔ ∃ m, formedB m = true ∧ textL m = text.data.toList := by
  constructor
  · rintro ⟨_, h2, h3⟩
    exact ⟨_, h2, h3⟩
  · rintro ⟨m, h1, h2⟩
    have := loose_text (formed_fm h1) h2.symm
    refine ⟨by rw [this], by rw [this]; exact (formedB_norm m).trans h1, by rw [this]; exact (textL_norm m).trans h2⟩
theorem textL_inj {m n : Mat} (hm : formedB m = true) (hn : formedB n = true) (h : textL m = textL n) : m.norm = n.norm := by
  have e1 := loose_text (formed_fm hm) (text := bw (textL m)) rfl
  have e2 := loose_text (formed_fm hn) (text := bw (textL m)) h
  rw [e1] at e2
  exact (Prod.mk.inj e2).2
end Go.Proofs.YtficjcomefaocaaGreatDoor
