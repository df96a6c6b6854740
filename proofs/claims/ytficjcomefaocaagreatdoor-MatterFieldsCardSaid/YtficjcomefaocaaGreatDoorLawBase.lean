/- MERGED (LawA, MatPut): WHAT THE LAWS OF MATTER SHARE: the examples' procedure; a matter in a variable; the examples in plain Lean. -/
import Derived.Test.YtficjcomefaocaaGreatDoorRfC
import Derived.Test.YtficjcomefaocaaGreatDoorParB
/- WHAT THE LAWS OF MATTER SHARE: the examples' procedure; a matter in a variable; the examples in plain Lean. -/
namespace Go.Proofs.YtficjcomefaocaaGreatDoor
open Go.RowKit Go.Maps
open Lexer

/-- a matter in the variable q -/
structure Held (w : World) (q : Nat) (m : Mat) : Prop where
  box : MBox q m w
  lt : q < w.heap.size
  mr : MR w w.heap.size m
theorem Held.go {w w' : World} {q : Nat} {m : Mat} (h : Held w q m) (hb : Below w.heap.size w w') : Held w' q m := ⟨h.box.below hb h.lt, Nat.lt_of_lt_of_le h.lt hb.size, h.mr.go hb⟩
theorem Held.new {w : World} {m : Mat} (h : MR w w.heap.size m) : Held (w.alloc (.cells m.cells 27)) w.heap.size m := ⟨MBox.new w m, by simp, h.go ((Below.refl _ _).alloc (Nat.le_refl _) _)⟩

def bOld : ByteArray := ⟨#[111, 108, 100]⟩
def bFiled : ByteArray := ⟨#[102, 105, 108, 101, 100]⟩
def bHeard : ByteArray := ⟨#[104, 101, 97, 114, 100]⟩
def bDecided : ByteArray := ⟨#[100, 101, 99, 105, 100, 101, 100]⟩
def bM1 : ByteArray := ⟨#[109, 49]⟩
def bAppeal : ByteArray := ⟨#[97, 112, 112, 101, 97, 108]⟩
/-- the examples' procedure -/
def exP (sv mv : Value) : Prc := ⟨bOld, sv, [bFiled, bHeard, bDecided], mv, [(0, 1), (1, 2)]⟩
set_option maxHeartbeats 1000000 in
set_option maxRecDepth 100000 in
theorem procedure_any (w : World) : Calls Tryz.prog 29 #[] w fun e w' => ∃ A a B b, e = .returned (.agg #[.string bOld, .slice (some A) 3 a, .slice (some B) 2 b]) ∧ PR w' w'.heap.size (exP (.slice (some A) 3 a) (.slice (some B) 2 b)) ∧ Below w.heap.size w w' := by
  go_enter Tryz.func29, Tryz.ntmps29
  go_wp2
  refine bodyPost_ret (v := .agg #[.string bOld, .slice (some ⟨w.heap.size + 1, 0, none⟩) 3 3, .slice (some ⟨w.heap.size + 1 + 1, 0, none⟩) 2 2]) (by simp [results, Tryz.results29, go_sem, bOld]) rfl ⟨_, _, _, _, rfl, ⟨⟨⟨_, _, rfl, by simp [exP], .inr ⟨_, 0, rfl, by simp <;> omega, fun k hk j x hx => ?_⟩⟩, ?_⟩, ⟨_, _, rfl, by simp [exP], .inr ⟨_, 0, rfl, by simp, fun k hk => ?_⟩⟩, ?_, ?_⟩, (((Below.refl _ _).alloc (Nat.le_refl _) _).alloc (by simp) _).alloc (by simp; omega) _⟩
  · have hj : j = 0 := by
      have := (List.getElem?_eq_some_iff.1 hx).1
      simp only [List.length_cons, List.length_nil] at this; omega
    subst hj
    simp only [List.getElem?_cons_zero, Option.some.injEq] at hx
    subst hx
    rcases (show k = 0 ∨ k = 1 ∨ k = 2 by simp only [exP, List.length_cons, List.length_nil] at hk; omega) with rfl | rfl | rfl <;> simp [go_sem, exP, bFiled, bHeard, bDecided]
  · intro s hs
    simp only [exP, List.mem_cons, List.not_mem_nil, or_false] at hs
    rcases hs with rfl | rfl | rfl <;> decide
  · rcases (show k = 0 ∨ k = 1 by simp only [exP, List.length_cons, List.length_nil] at hk; omega) with rfl | rfl <;> simp [go_sem, exP]
  · intro x hx
    simp only [exP, List.mem_cons, List.not_mem_nil, or_false] at hx
    rcases hx with rfl | rfl <;> exact ⟨by decide, by decide⟩
  · show bOld.size ≤ 140737488355328; decide

theorem nameB_dec {s : ByteArray} (h : (decide (0 < s.size) && (decide (s.size ≤ 24) && (letB (bt s 0) && (List.range s.size).all fun k => wordB (bt s k)))) = true) : nameB s = true := by
  simp only [Bool.and_eq_true, decide_eq_true_eq, List.all_eq_true, List.mem_range] at h
  exact nameB_word.2 h
theorem nOld : nameB bOld = true := nameB_dec (by decide)
theorem nFiled : nameB bFiled = true := nameB_dec (by decide)
theorem nHeard : nameB bHeard = true := nameB_dec (by decide)
theorem nDecided : nameB bDecided = true := nameB_dec (by decide)
theorem nM1 : nameB bM1 = true := nameB_dec (by decide)
theorem nAppeal : nameB bAppeal = true := nameB_dec (by decide)
/-- the examples' matter, as it goes on -/
def exM (cv : Value) (stage : Int) (mv : Value) (mo : List Int) (rv : Value) (ri : List (ByteArray × Int)) : Mat := ⟨bM1, 5, cv, [20, 0], bOld, stage, mv, mo, rv, ri, .slice none 0 0, []⟩
theorem exP_proper (sv mv : Value) : properB (exP sv mv) = true := by
  unfold properB
  simp only [Bool.and_eq_true, decide_eq_true_eq, diffB_iff]
  refine ⟨nOld, by show 0 < 3; decide, ⟨fun x hx => ?_, by show ([bFiled, bHeard, bDecided].map fun s => s).Nodup; decide, by show 3 ≤ 60; decide⟩, fun x hx => ?_, by show ([((0 : Int), (1 : Int)), (1, 2)].map fun x => x).Nodup; decide, by show 2 ≤ 60; decide⟩
  · simp only [exP, List.mem_cons, List.not_mem_nil, or_false] at hx
    rcases hx with rfl | rfl | rfl
    · exact nFiled
    · exact nHeard
    · exact nDecided
  · simp only [exP, List.mem_cons, List.not_mem_nil, or_false] at hx
    rcases hx with rfl | rfl
    · show moveB 3 (0, 1) = true; decide
    · show moveB 3 (1, 2) = true; decide
theorem exM_formed (cv mv rv : Value) (stage : Int) (mo : List Int) (ri : List (ByteArray × Int)) (h : (stage = 0 ∧ mo = [] ∧ ri = []) ∨ (stage = 1 ∧ mo = [7] ∧ ri = []) ∨ (stage = 1 ∧ mo = [7] ∧ ri = [(bAppeal, 7)])) : formedB (exM cv stage mv mo rv ri) = true := by
  have hc : ∀ x ∈ [(20 : Int), 0], numB x = true := by decide
  rcases h with ⟨rfl, rfl, rfl⟩ | ⟨rfl, rfl, rfl⟩ | ⟨rfl, rfl, rfl⟩
  · exact fm_formed ⟨nM1, nOld, by show numB 5 = true; decide, by show (0 : Int) ≤ 0; decide, by show (0 : Int) < 60; decide, hc, by show 2 ≤ 60; decide, by show daysB 5 [] = true; decide, by show ∀ x ∈ ([] : List Int), numB x = true; decide, by simp [exM], by simp [exM], by simp [exM], by simp [exM], by simp [exM], by simp [exM], by simp [exM]⟩
  · exact fm_formed ⟨nM1, nOld, by show numB 5 = true; decide, by show (0 : Int) ≤ 1; decide, by show (1 : Int) < 60; decide, hc, by show 2 ≤ 60; decide, by show daysB 5 [7] = true; decide, by show ∀ x ∈ ([7] : List Int), numB x = true; decide, by simp [exM], by simp [exM], by simp [exM], by simp [exM], by simp [exM], by simp [exM], by simp [exM]⟩
  · refine fm_formed ⟨nM1, nOld, by show numB 5 = true; decide, by show (0 : Int) ≤ 1; decide, by show (1 : Int) < 60; decide, hc, by show 2 ≤ 60; decide, by show daysB 5 [7] = true; decide, by show ∀ x ∈ ([7] : List Int), numB x = true; decide, by simp [exM], fun x hx => ?_, by simp [exM], by simp [exM], by simp [exM], by simp [exM], by simp [exM]⟩
    rw [List.mem_singleton.1 hx]
    exact ⟨nAppeal, by show (5 : Int) ≤ 7; decide, by show numB 7 = true; decide⟩
theorem ex1 (cv mv rv sv pv v : Value) : moveE (exM cv 0 mv [] rv []) (exP sv pv) 1 7 = 0 ∧ moveM (exM cv 0 mv [] rv []) (exP sv pv) 1 7 v = exM cv 1 v [7] rv [] := by
  have e : moveE (exM cv 0 mv [] rv []) (exP sv pv) 1 7 = 0 := by
    unfold moveE
    rw [exM_formed cv mv rv 0 [] [] (.inl ⟨rfl, rfl, rfl⟩), exP_proper]
    simp [exM, exP, dayB, earlyB]
  refine ⟨e, ?_⟩
  unfold moveM
  rw [if_pos e]
  rfl
theorem ex2 (cv mv rv sv pv v : Value) : moveE (exM cv 1 mv [7] rv []) (exP sv pv) 2 6 = 24 ∧ moveM (exM cv 1 mv [7] rv []) (exP sv pv) 2 6 v = zeroM := by
  have e : moveE (exM cv 1 mv [7] rv []) (exP sv pv) 2 6 = 24 := by
    unfold moveE
    rw [exM_formed cv mv rv 1 [7] [] (.inr (.inl ⟨rfl, rfl, rfl⟩)), exP_proper]
    simp [exM, exP, dayB, earlyB]
  refine ⟨e, ?_⟩
  unfold moveM
  rw [if_neg (by rw [e]; decide)]
theorem ex3 (cv mv rv sv pv v : Value) : moveE (exM cv 0 mv [] rv []) (exP sv pv) 2 7 = 12 ∧ moveM (exM cv 0 mv [] rv []) (exP sv pv) 2 7 v = zeroM := by
  have e : moveE (exM cv 0 mv [] rv []) (exP sv pv) 2 7 = 12 := by
    unfold moveE
    rw [exM_formed cv mv rv 0 [] [] (.inl ⟨rfl, rfl, rfl⟩), exP_proper]
    simp [exM, exP, dayB]
  refine ⟨e, ?_⟩
  unfold moveM
  rw [if_neg (by rw [e]; decide)]
theorem ex4 (cv mv rv sv pv v : Value) : moveE (exM cv 0 mv [] rv []) (exP sv pv) 3 7 = 11 ∧ moveM (exM cv 0 mv [] rv []) (exP sv pv) 3 7 v = zeroM := by
  have e : moveE (exM cv 0 mv [] rv []) (exP sv pv) 3 7 = 11 := by
    unfold moveE
    rw [exM_formed cv mv rv 0 [] [] (.inl ⟨rfl, rfl, rfl⟩), exP_proper]
    simp [exM, exP, dayB]
  refine ⟨e, ?_⟩
  unfold moveM
  rw [if_neg (by rw [e]; decide)]
theorem ex5 (cv mv rv v : Value) : grantE (exM cv 1 mv [7] rv []) bAppeal 7 = 0 ∧ grantM (exM cv 1 mv [7] rv []) bAppeal 7 v = exM cv 1 mv [7] v [(bAppeal, 7)] := by
  have e : grantE (exM cv 1 mv [7] rv []) bAppeal 7 = 0 := by
    unfold grantE
    rw [exM_formed cv mv rv 1 [7] [] (.inr (.inl ⟨rfl, rfl, rfl⟩)), nAppeal]
    simp [exM, dayB, hasB]
  refine ⟨e, ?_⟩
  unfold grantM
  rw [if_pos e]
  rfl
theorem ex6 (cv mv rv v : Value) : grantE (exM cv 1 mv [7] rv [(bAppeal, 7)]) bAppeal 8 = 9 ∧ grantM (exM cv 1 mv [7] rv [(bAppeal, 7)]) bAppeal 8 v = zeroM := by
  have h : hasB (exM cv 1 mv [7] rv [(bAppeal, 7)]) bAppeal 1000000 = true := by
    unfold hasB
    rw [List.any_eq_true]
    exact ⟨(bAppeal, 7), List.mem_singleton.2 rfl, oneB_iff.2 ⟨rfl, by decide⟩⟩
  have e : grantE (exM cv 1 mv [7] rv [(bAppeal, 7)]) bAppeal 8 = 9 := by
    unfold grantE
    rw [exM_formed cv mv rv 1 [7] [(bAppeal, 7)] (.inr (.inr ⟨rfl, rfl, rfl⟩)), nAppeal, h]
    simp [dayB]
  refine ⟨e, ?_⟩
  unfold grantM
  rw [if_neg (by rw [e]; decide)]
/-- the text of the chapter's example -/
def exT : ByteArray := ⟨#[109, 97, 116, 116, 101, 114, 32, 109, 49, 32, 53, 32, 111, 108, 100, 32, 49, 10, 99, 97, 115, 101, 32, 50, 48, 32, 48, 10, 109, 111, 118, 101, 100, 32, 55, 10, 114, 105, 103, 104, 116, 32, 97, 112, 112, 101, 97, 108, 32, 55, 10]⟩
theorem itoa_one {n : Nat} (h : n < 10) : Lib.itoa (n : Int) = [UInt8.ofNat (48 + n)] := by rw [itoa_dec (by omega), Int.toNat_natCast, Lib.decDigits, dif_pos h]
theorem ex7 (cv mv rv : Value) : (⟨(textL (exM cv 1 mv [7] rv [(bAppeal, 7)])).toArray⟩ : ByteArray) = exT := by
  have i1 : Lib.itoa 1 = [49] := itoa_one (n := 1) (by decide)
  have i0 : Lib.itoa 0 = [48] := itoa_one (n := 0) (by decide)
  have i5 : Lib.itoa 5 = [53] := itoa_one (n := 5) (by decide)
  have i7 : Lib.itoa 7 = [55] := itoa_one (n := 7) (by decide)
  have i20 : Lib.itoa 20 = [50, 48] := by
    rw [itoa_dec (by decide), show (20 : Int).toNat = 20 from rfl, Lib.decDigits, dif_neg (by decide), show 20 / 10 = 2 from rfl, Lib.decDigits, dif_pos (by decide)]; rfl
  have e : textL (exM cv 1 mv [7] rv [(bAppeal, 7)]) = exT.data.toList := by
    simp only [textL, textB, headL, headF, lineL, numsL, rightL, exM, i0, i1, i5, i7, i20, List.flatMap_cons, List.flatMap_nil]
    rfl
  rw [e]
theorem ex8 (cv mv rv : Value) : hasB (exM cv 1 mv [7] rv [(bAppeal, 7)]) bAppeal 7 = true ∧ hasB (exM cv 1 mv [7] rv [(bAppeal, 7)]) bAppeal 6 = false := by
  constructor
  · unfold hasB
    rw [List.any_eq_true]
    exact ⟨(bAppeal, 7), List.mem_singleton.2 rfl, oneB_iff.2 ⟨rfl, by decide⟩⟩
  · unfold hasB
    rw [List.any_eq_false]
    intro x hx
    rw [List.mem_singleton.1 hx, oneB_no (by rintro ⟨_, h⟩; exact absurd h (by decide))]
    decide
def zeroP : Prc := ⟨⟨#[]⟩, .slice none 0 0, [], .slice none 0 0, []⟩
theorem zeroP_no : properB zeroP = false := by
  have : nameB zeroP.name = false := by
    rw [Bool.eq_false_iff, ne_eq, nameB_word]
    rintro ⟨h, _⟩; exact absurd h (by decide)
  unfold properB
  rw [this]; rfl
theorem zeroP_pr (w : World) (B : Nat) : PR w B zeroP := ⟨⟨rg_nil _ _ _ _ _ _, by simp [zeroP]⟩, ⟨none, 0, rfl, by simp [zeroP], .inl rfl⟩, by simp [zeroP], by show (⟨#[]⟩ : ByteArray).size ≤ 140737488355328; decide⟩
end Go.Proofs.YtficjcomefaocaaGreatDoor

/- A MATTER stored into a variable that was made earlier. -/
namespace Go.Proofs.YtficjcomefaocaaGreatDoor
open Go.RowKit Go.Maps
open Lexer

theorem eight_blk (w : World) (b : Nat) (v1 v2 v3 v4 v5 v6 v7 v8 : Value) : w.grownBy (eightW w b v1 v2 v3 v4 v5 v6 v7 v8) (some b) := eight_grown w b v1 v2 v3 v4 v5 v6 v7 v8
theorem RI.put {w w' : World} {X B : Nat} {v : Value} {L : List Int} (h : RI w X v L) (hg : w.grownBy w' (some B)) (hne : ∀ k, v.ownBlock = some k → k ≠ B) : RI w' X v L := by
  obtain ⟨A, cap, rfl, hl, hw, h⟩ := h
  refine ⟨A, cap, rfl, hl, hw, ?_⟩
  rcases h with h | ⟨b, off, rfl, hB, hc⟩
  · exact .inl h
  · refine .inr ⟨b, off, rfl, hB, fun k hk => ?_⟩
    have h0 := hc k hk
    rw [hg.cell_far ⟨b, off + k, none⟩ (block_lt_of_cell h0) (by simp only [ne_eq, Option.some.injEq]; exact hne b rfl)]
    exact h0
theorem RG.put {w w' : World} {X B : Nat} {v : Value} {n c : Nat} {cs : Nat → List Value} (h : RG w X v n c cs) (hg : w.grownBy w' (some B)) (hne : ∀ k, v.ownBlock = some k → k ≠ B) : RG w' X v n c cs := by
  obtain ⟨A, cap, rfl, hl, h⟩ := h
  refine ⟨A, cap, rfl, hl, ?_⟩
  rcases h with h | ⟨b, off, rfl, hB, hc⟩
  · exact .inl h
  · refine .inr ⟨b, off, rfl, hB, fun k hk j x hx => ?_⟩
    have h0 := hc k hk j x hx
    rw [hg.cell_far ⟨b, off + k * c + j, none⟩ (block_lt_of_cell h0) (by simp only [ne_eq, Option.some.injEq]; exact hne b rfl)]
    exact h0
/-- the variable's cells -/
theorem zero8 {w : World} {B : Nat} (h : w.heap[B]? = some (.cells zeroM.cells 27 (0, 0))) :
    (w.cell? ⟨B, 0, none⟩ = some (.string ⟨#[]⟩) ∧ w.cell? ⟨B, 1, none⟩ = some (.int .i64 0) ∧ w.cell? ⟨B, 2, none⟩ = some (.slice none 0 0) ∧ w.cell? ⟨B, 3, none⟩ = some (.string ⟨#[]⟩) ∧ w.cell? ⟨B, 4, none⟩ = some (.int .i64 0) ∧ w.cell? ⟨B, 5, none⟩ = some (.slice none 0 0) ∧ w.cell? ⟨B, 6, none⟩ = some (.slice none 0 0) ∧ w.cell? ⟨B, 7, none⟩ = some (.slice none 0 0)) ∧
    (w.frozen? ⟨B, 0, none⟩ = false ∧ w.frozen? ⟨B, 1, none⟩ = false ∧ w.frozen? ⟨B, 2, none⟩ = false ∧ w.frozen? ⟨B, 3, none⟩ = false ∧ w.frozen? ⟨B, 4, none⟩ = false ∧ w.frozen? ⟨B, 5, none⟩ = false ∧ w.frozen? ⟨B, 6, none⟩ = false ∧ w.frozen? ⟨B, 7, none⟩ = false) := by
  have hc : ∀ i v, zeroM.cells[i]? = some v → w.cell? ⟨B, i, none⟩ = some v := fun i v hv => by rw [cell_of_row w B i _ _ _ h]; exact hv
  exact ⟨⟨hc 0 _ rfl, hc 1 _ rfl, hc 2 _ rfl, hc 3 _ rfl, hc 4 _ rfl, hc 5 _ rfl, hc 6 _ rfl, hc 7 _ rfl⟩, Lib.frozen_of_heap h 0, Lib.frozen_of_heap h 1, Lib.frozen_of_heap h 2, Lib.frozen_of_heap h 3, Lib.frozen_of_heap h 4, Lib.frozen_of_heap h 5, Lib.frozen_of_heap h 6, Lib.frozen_of_heap h 7⟩
theorem eight_heap {w : World} {B : Nat} {c0 c1 c2 c3 c4 c5 c6 c7 : Value} (h : w.heap[B]? = some (.cells #[c0, c1, c2, c3, c4, c5, c6, c7] 27 (0, 0))) (v1 v2 v3 v4 v5 v6 v7 v8 : Value) :
    (eightW w B v1 v2 v3 v4 v5 v6 v7 v8).heap[B]? = some (.cells #[v1, v2, v3, v4, v5, v6, v7, v8] 27 (0, 0)) := by
  have h0 : (w.setCell ⟨B, 0, none⟩ v1).heap[B]? = some (.cells #[v1, c1, c2, c3, c4, c5, c6, c7] 27 (0, 0)) := by rw [heap_set w B 0 _ _ _ v1 h]; rfl
  have h1 : ((w.setCell ⟨B, 0, none⟩ v1).setCell ⟨B, 1, none⟩ v2).heap[B]? = some (.cells #[v1, v2, c2, c3, c4, c5, c6, c7] 27 (0, 0)) := by rw [heap_set (w.setCell ⟨B, 0, none⟩ v1) B 1 _ _ _ v2 h0]; rfl
  have h2 : (((w.setCell ⟨B, 0, none⟩ v1).setCell ⟨B, 1, none⟩ v2).setCell ⟨B, 2, none⟩ v3).heap[B]? = some (.cells #[v1, v2, v3, c3, c4, c5, c6, c7] 27 (0, 0)) := by rw [heap_set ((w.setCell ⟨B, 0, none⟩ v1).setCell ⟨B, 1, none⟩ v2) B 2 _ _ _ v3 h1]; rfl
  have h3 : ((((w.setCell ⟨B, 0, none⟩ v1).setCell ⟨B, 1, none⟩ v2).setCell ⟨B, 2, none⟩ v3).setCell ⟨B, 3, none⟩ v4).heap[B]? = some (.cells #[v1, v2, v3, v4, c4, c5, c6, c7] 27 (0, 0)) := by rw [heap_set (((w.setCell ⟨B, 0, none⟩ v1).setCell ⟨B, 1, none⟩ v2).setCell ⟨B, 2, none⟩ v3) B 3 _ _ _ v4 h2]; rfl
  have h4 : (((((w.setCell ⟨B, 0, none⟩ v1).setCell ⟨B, 1, none⟩ v2).setCell ⟨B, 2, none⟩ v3).setCell ⟨B, 3, none⟩ v4).setCell ⟨B, 4, none⟩ v5).heap[B]? = some (.cells #[v1, v2, v3, v4, v5, c5, c6, c7] 27 (0, 0)) := by rw [heap_set ((((w.setCell ⟨B, 0, none⟩ v1).setCell ⟨B, 1, none⟩ v2).setCell ⟨B, 2, none⟩ v3).setCell ⟨B, 3, none⟩ v4) B 4 _ _ _ v5 h3]; rfl
  have h5 : ((((((w.setCell ⟨B, 0, none⟩ v1).setCell ⟨B, 1, none⟩ v2).setCell ⟨B, 2, none⟩ v3).setCell ⟨B, 3, none⟩ v4).setCell ⟨B, 4, none⟩ v5).setCell ⟨B, 5, none⟩ v6).heap[B]? = some (.cells #[v1, v2, v3, v4, v5, v6, c6, c7] 27 (0, 0)) := by rw [heap_set (((((w.setCell ⟨B, 0, none⟩ v1).setCell ⟨B, 1, none⟩ v2).setCell ⟨B, 2, none⟩ v3).setCell ⟨B, 3, none⟩ v4).setCell ⟨B, 4, none⟩ v5) B 5 _ _ _ v6 h4]; rfl
  have h6 : (((((((w.setCell ⟨B, 0, none⟩ v1).setCell ⟨B, 1, none⟩ v2).setCell ⟨B, 2, none⟩ v3).setCell ⟨B, 3, none⟩ v4).setCell ⟨B, 4, none⟩ v5).setCell ⟨B, 5, none⟩ v6).setCell ⟨B, 6, none⟩ v7).heap[B]? = some (.cells #[v1, v2, v3, v4, v5, v6, v7, c7] 27 (0, 0)) := by rw [heap_set ((((((w.setCell ⟨B, 0, none⟩ v1).setCell ⟨B, 1, none⟩ v2).setCell ⟨B, 2, none⟩ v3).setCell ⟨B, 3, none⟩ v4).setCell ⟨B, 4, none⟩ v5).setCell ⟨B, 5, none⟩ v6) B 6 _ _ _ v7 h5]; rfl
  have h7 : ((((((((w.setCell ⟨B, 0, none⟩ v1).setCell ⟨B, 1, none⟩ v2).setCell ⟨B, 2, none⟩ v3).setCell ⟨B, 3, none⟩ v4).setCell ⟨B, 4, none⟩ v5).setCell ⟨B, 5, none⟩ v6).setCell ⟨B, 6, none⟩ v7).setCell ⟨B, 7, none⟩ v8).heap[B]? = some (.cells #[v1, v2, v3, v4, v5, v6, v7, v8] 27 (0, 0)) := by rw [heap_set (((((((w.setCell ⟨B, 0, none⟩ v1).setCell ⟨B, 1, none⟩ v2).setCell ⟨B, 2, none⟩ v3).setCell ⟨B, 3, none⟩ v4).setCell ⟨B, 4, none⟩ v5).setCell ⟨B, 5, none⟩ v6).setCell ⟨B, 6, none⟩ v7) B 7 _ _ _ v8 h6]; rfl
  exact h7
theorem MBox.of {w : World} {B : Nat} {m : Mat} (h : w.heap[B]? = some (.cells m.cells 27 (0, 0))) : MBox B m w := by
  have hc : ∀ i v, m.cells[i]? = some v → w.cell? ⟨B, i, none⟩ = some v := fun i v hv => by rw [cell_of_row w B i _ _ _ h]; exact hv
  exact ⟨hc 0 _ rfl, hc 1 _ rfl, hc 2 _ rfl, hc 3 _ rfl, hc 4 _ rfl, hc 5 _ rfl, hc 6 _ rfl, hc 7 _ rfl⟩
theorem Held.of {w : World} {B : Nat} {m : Mat} (h : w.heap[B]? = some (.cells m.cells 27 (0, 0))) (hm : MR w w.heap.size m) : Held w B m := ⟨MBox.of h, (Array.getElem?_eq_some_iff.1 h).1, hm⟩
/-- what lay below the variable stays; a row made behind it stays -/
theorem MR.moved {W w4 w5 : World} {lo B : Nat} {m : Mat} {s : Int} {v : Value} {L : List Int} (h : MR W lo m) (hb : Below lo W w4) (hl : lo ≤ w4.heap.size) (hr : RI w4 w4.heap.size v L) (hf : Fresh (B + 1) v) (h5 : w4.grownBy w5 (some B)) (hb5 : Below lo w4 w5) :
    MR w5 w5.heap.size { m with stage := s, mv := v, moved := L } := by
  have hY := (h.below (hb.trans hb5)).more (Nat.le_trans hl h5.size)
  exact ⟨hY.cs, (hr.put h5 (fun k hk e => by have := hf k hk; omega)).more h5.size, hY.ri, hY.li, hY.si, hY.sp⟩
theorem MR.granted {W w4 w5 : World} {lo B : Nat} {m : Mat} {v : Value} {L : List (ByteArray × Int)} (h : MR W lo m) (hb : Below lo W w4) (hl : lo ≤ w4.heap.size) (hr : RR w4 w4.heap.size v L) (hf : Fresh (B + 1) v) (h5 : w4.grownBy w5 (some B)) (hb5 : Below lo w4 w5) :
    MR w5 w5.heap.size { m with rv := v, rights := L } := by
  have hY := (h.below (hb.trans hb5)).more (Nat.le_trans hl h5.size)
  exact ⟨hY.cs, hY.mo, ⟨(hr.1.put h5 (fun k hk e => by have := hf k hk; omega)).more h5.size, hr.2⟩, hY.li, hY.si, hY.sp⟩
end Go.Proofs.YtficjcomefaocaaGreatDoor
