/- WALK of matter.Parse. -/
import Derived.Test.YtficjcomefaocaaGreatDoorParA
namespace Go.Proofs.YtficjcomefaocaaGreatDoor
open Go.RowKit Go.Maps
open Lexer Cal

/-- what Parse answers -/
def Parsed (text : ByteArray) (e : Ending) (w' : World) : Prop :=
  (∃ m : Mat, okP text ∧ m.norm = (loose text).2 ∧ e = .returned (.tuple #[.agg m.cells, .int .i64 0]) ∧ MR w' w'.heap.size m) ∨ (¬ okP text ∧ e = .returned (.tuple #[.agg zeroM.cells, .int .i64 5]))

/-- how many lines the scanner has left -/
def linesN (S : Nat) (w : World) : Nat := match w.cell? ⟨S, 2, none⟩ with | some (.slice _ n _) => n | _ => 0
theorem SR.linesN {w : World} {S : Nat} {st : Scan} (h : SR w S st) : linesN S w = st.lines.length := by
  obtain ⟨⟨wv, lv, hb, _, ⟨A, c, rfl, _⟩⟩⟩ := h
  have c2 : w.cell? ⟨S, 2, none⟩ = some (.slice A st.lines.length c) := by rw [cell_of_row w S 2 _ _ _ hb]; rfl
  unfold Go.Proofs.YtficjcomefaocaaGreatDoor.linesN
  rw [c2]
def wordsN (S : Nat) (w : World) : Nat := match w.cell? ⟨S, 0, none⟩ with | some (.slice _ n _) => n | _ => 0
theorem SR.wordsN {w : World} {S : Nat} {st : Scan} (h : SR w S st) : wordsN S w = st.words.length := by
  obtain ⟨⟨wv, lv, hb, ⟨A, c, rfl, _⟩, _⟩⟩ := h
  have c2 : w.cell? ⟨S, 0, none⟩ = some (.slice A st.words.length c) := by rw [cell_of_row w S 0 _ _ _ hb]; rfl
  unfold Go.Proofs.YtficjcomefaocaaGreatDoor.wordsN
  rw [c2]
/-- append of one element out of a fresh block, at a step of a region that draws its order: what turns is the row -/
theorem step_appG (w : World) {ops : Array Oper} {o : Oper} {a : Act} {K : Act → World → Prop} {Q : Exit → Act → World → Prop} {E : Prop} (hgd : o.guard = none) (s x : Operand) (t : TypeId)
    (ho : o.op = .call { callee := .builtin .append, args := #[s, x], argTypes := #[t, t] })
    (base : Nat) (e : TypeId) (i : TypeInfo) (z : Value) (size bytes : Nat) (ht : Tryz.prog.underlying t = some (.slice e)) (hi : Tryz.prog.info? e = some i) (hz : i.zero = some z)
    (hsize : i.size = size) (hby : i.bytes = bytes) (hzs : z.cells.size = size) (hsz : 0 < size)
    (v : Value) (n : Nat) (xs : List Value) (hs : a.eval s = v) (hown : w.ownsRow base e size v n xs) (B : Nat) (hx : a.eval x = .slice (some ⟨B, 0, none⟩) 1 1)
    (cs : Array Value) (tt : TypeId) (fr : Nat × Nat) (hl : cs.toList.length = 1 * size) (hb : w.heap[B]? = some (.cells cs tt fr)) (h1 : ∀ u ∈ cs.toList, u.oneCell' = true) (hn : n + 1 ≤ 2000000) (hb2 : bytes ≤ 1000) (hbase : base ≤ w.heap.size)
    (h : ∀ g cap w', w'.ownsRow base e size (.slice (some ⟨g, 0, none⟩) (n + 1) cap) (n + 1) (xs ++ cs.toList) → w.grownBy w' v.ownBlock → K (a.put o.dst (.slice (some ⟨g, 0, none⟩) (n + 1) cap)) w') :
    if Region.wanted o (yielded ops a.tmps) = true then Oper.wp Tryz.prog o a w K Q else E :=
  step_append_lies _ hgd s x t ho base e i z size bytes ht hi hz hsize hby hzs hsz v n xs hs hown ⟨B, 0, none⟩ 1 1 cs.toList hx hl (World.news_of_block hb) h1 (by decide) (by unfold maxLen; omega)
    (Nat.le_trans (Nat.mul_le_mul hn hb2) (by decide)) hbase w.heap.size rfl (fun g cap w' h2 h3 _ _ => h g cap w' h2 h3)
theorem infoL : (Tryz.prog.info? 65).map (fun i => (i.zero, i.size, i.bytes)) = some (some (.agg #[.string ByteArray.empty, .int .i64 0, .int .i64 0, .int .i64 0, .slice none 0 0]), 5, 64) := by kernel_rfl
theorem one_right (s : ByteArray) (n : Int) : ∀ u ∈ [Value.string s, Value.int .i64 n], u.oneCell' = true := by
  intro u hu; simp at hu; rcases hu with rfl | rfl <;> rfl
theorem one_stop (a b : Int) : ∀ u ∈ [Value.int .i64 a, Value.int .i64 b], u.oneCell' = true := by
  intro u hu; simp at hu; rcases hu with rfl | rfl <;> rfl
theorem one_lim (s : ByteArray) (N U f : Int) (A : Option Addr) (n c : Nat) : ∀ u ∈ [Value.string s, .int .i64 N, .int .i64 U, .int .i64 f, .slice A n c], u.oneCell' = true := by
  intro u hu; simp at hu; rcases hu with rfl | rfl | rfl | rfl | rfl <;> rfl
theorem own_form {w : World} {base e size n : Nat} {v : Value} {xs : List Value} (h : w.ownsRow base e size v n xs) : ∃ A c, v = .slice A n c := by
  rcases h.2 with ⟨rfl, h0⟩ | ⟨g, c, _, rfl, _⟩
  · exact ⟨none, 0, by rw [h0]⟩
  · exact ⟨_, _, rfl⟩
theorem scan_eta (s : Scan) {ls : List ByteArray} (h : s.lines = ls) : s = ⟨s.words, s.wrong, ls⟩ := by subst h; rfl
theorem loopL_right {l : ByteArray} {r ws : List ByteArray} {wg : Bool} {R : List (ByteArray × Int)} {L : List Lim} {st : Scan} (h1 : st = ⟨splitW 32 l, wg || !ws.isEmpty, r⟩) (hx : st.word.1 = bRight) :
    loopL (l :: r) ws wg R L = loopL r st.word.2.word.2.number.2.words st.word.2.word.2.number.2.wrong (R ++ [(st.word.2.word.1, st.word.2.word.2.number.1)]) L := by
  subst h1
  rw [loopL]
  exact if_pos hx
theorem loopL_limit {l : ByteArray} {r ws : List ByteArray} {wg : Bool} {R : List (ByteArray × Int)} {L : List Lim} {st : Scan} (h1 : st = ⟨splitW 32 l, wg || !ws.isEmpty, r⟩) (hx : st.word.1 ≠ bRight) :
    loopL (l :: r) ws wg R L = loopL r [] ((limS st.word.2).2.2.2.2.wrong || (stopsL (limS st.word.2).2.2.2.2.words).2) R (L ++ [limX st.word.2]) := by
  subst h1
  rw [loopL]
  exact if_neg hx
theorem limS_lines (s : Scan) : (limS s).2.2.2.2.lines = s.lines := by
  show s.word.2.number.2.number.2.number.2.lines = _
  rw [number_lines, number_lines, number_lines, word_lines]
theorem stops_step (P : List (Int × Int)) (a : ByteArray) (rest ls : List ByteArray) (wg : Bool) :
    (P ++ [((⟨a :: rest, wg, ls⟩ : Scan).number.1, (⟨a :: rest, wg, ls⟩ : Scan).number.2.number.1)] ++ (stopsL (⟨a :: rest, wg, ls⟩ : Scan).number.2.number.2.words).1, (⟨a :: rest, wg, ls⟩ : Scan).number.2.number.2.wrong || (stopsL (⟨a :: rest, wg, ls⟩ : Scan).number.2.number.2.words).2) = (P ++ (stopsL (a :: rest)).1, wg || (stopsL (a :: rest)).2) := by
  cases rest with
  | nil =>
    have h0 : numV ⟨#[]⟩ = 0 := by unfold numV; rfl
    simp [Scan.number, Scan.word, stopsL, h0]
  | cons b r => simp [Scan.number, Scan.word, stopsL, Bool.or_assoc]
theorem eight_grown (w : World) (b : Nat) (v1 v2 v3 v4 v5 v6 v7 v8 : Value) : w.grownBy (eightW w b v1 v2 v3 v4 v5 v6 v7 v8) (some b) :=
  (((((((grownBy_setCellAt _ _ _ _).trans (grownBy_setCellAt _ _ _ _)).trans (grownBy_setCellAt _ _ _ _)).trans (grownBy_setCellAt _ _ _ _)).trans (grownBy_setCellAt _ _ _ _)).trans (grownBy_setCellAt _ _ _ _)).trans (grownBy_setCellAt _ _ _ _)).trans (grownBy_setCellAt _ _ _ _)
set_option maxHeartbeats 16000000 in
set_option maxRecDepth 100000 in
theorem parse_any (text : ByteArray) (w : World) (ht : text.size ≤ 1000000) (hE : Env w.heap.size w) :
    Calls Tryz.prog 13 #[.string text] w fun e w' => Parsed text e w' ∧ Below w.heap.size w w' := by
  have hg1 : decide ((1000000 : Int) < (text.size : Int)) = false := by simp; omega
  have hg1' : decide (1000000 < text.size) = false := by simp; omega
  have htr := fun w' => Tryz.strings_TrimSuffix text ⟨#[10]⟩ w' (by omega)
  obtain ⟨T, hT⟩ : ∃ T : ByteArray, T = ⟨(Lib.trimSuffix text.data.toList [10]).toArray⟩ := ⟨_, rfl⟩
  have hTs : T.size ≤ 1000000 := by
    subst hT
    have : (Lib.trimSuffix text.data.toList [10]).length ≤ text.data.toList.length := by
      unfold Lib.trimSuffix
      split
      · rw [List.length_take]; omega
      · exact Nat.le_refl _
    rw [← Lib.size_eq] at this
    rw [Lib.size_eq]
    show (Lib.trimSuffix text.data.toList [10]).toArray.toList.length ≤ _
    simpa using Nat.le_trans this ht
  have hst : start text = ⟨[], false, splitW 10 T⟩ := by rw [hT]; rfl
  have htr' : ∀ w', Calls Tryz.prog 40 #[.string text, .string ⟨#[10]⟩] w' fun e w'' => e = .returned (.string T) ∧ w'' = w' := fun w' => by rw [hT]; exact htr w'
  have b0 : Below w.heap.size w (w.alloc (.cells zeroM.cells 27)) := (Below.refl _ _).alloc (Nat.le_refl _) _
  have HTR := Lib.hid htr'
  have HST := Lib.hid hst
  have HE := Lib.hid hE
  clear hT htr htr' hst hE
  simp only [zeroM, Mat.cells] at b0
  go_enter Tryz.func13, Tryz.ntmps13
  go_wp2_with fail
  refine (HTR.out _).mono ?_
  rintro e w1 ⟨rfl, rfl⟩
  go_wp2_with fail
  refine (split_any 10 T _ w.heap.size (HE.out.on b0) hTs).mono ?_
  rintro e w2 ⟨v, rfl, hw2, b2⟩
  obtain ⟨A, cap, rfl, _⟩ := id hw2
  have b2' := b0.trans (b2.mono b0.size)
  have hR2 : w2.heap[w.heap.size]? = some (.cells zeroM.cells 27 (0, 0)) := (b2.block _ (by simp)).trans (Go.heap_alloc_new _ _)
  have hlt2 : w.heap.size < w2.heap.size := (Array.getElem?_eq_some_iff.1 hR2).1
  have hz0 : PZ w w2.heap.size ((w2.alloc (.cells #[.slice none 0 0, .bool false, .slice A (splitW 10 T).length cap] 86)).alloc (.cells #[.string ⟨#[]⟩, .int .i64 0, .slice none 0 0, .string ⟨#[]⟩, .int .i64 0, .slice none 0 0, .slice none 0 0, .slice none 0 0] 27)) (start text) #[.string ⟨#[]⟩, .int .i64 0, .slice none 0 0, .string ⟨#[]⟩, .int .i64 0, .slice none 0 0, .slice none 0 0, .slice none 0 0] := by
    have bA := ((Below.refl w2.heap.size w2).alloc (Nat.le_refl _) (.cells #[.slice none 0 0, .bool false, .slice A (splitW 10 T).length cap] 86)).alloc (by simp) (.cells zeroM.cells 27)
    refine ⟨⟨⟨_, _, (Below.heap_alloc _ _ _ (by simp)).trans (Go.heap_alloc_new _ _), ?_, ?_⟩⟩, ?_, (bA.block _ hlt2).trans hR2, b2'.trans (bA.mono (Nat.le_of_lt hlt2)), hlt2⟩
    · rw [HST.out]; exact ⟨none, 0, rfl, Nat.le_refl _, by simp, by simp, .inl rfl⟩
    · rw [HST.out]; exact hw2.kept (KT.of_below bA)
    · have := Go.heap_alloc_new (w2.alloc (.cells #[.slice none 0 0, .bool false, .slice A (splitW 10 T).length cap] 86)) (.cells zeroM.cells 27)
      rw [World.size_alloc] at this
      exact this
  have HZ0 := Lib.hid (hz0.go (Below.refl _ _).drew)
  clear hw2 b2 b2' hR2 hlt2 hz0 b0
  go_upto_region 5 with fail
  go_region
  all_goals
   go_wp2_with fail
   refine (znext HZ0.out HE.out).mono ?_
   rintro e w3 ⟨rfl, z3, _⟩
   go_wp2_with fail
   refine (zword z3).mono ?_
   rintro e w4 ⟨rfl, z4, _⟩
   clear z3
   go_wp2_with fail
   refine (zword z4).mono ?_
   rintro e w5 ⟨rfl, z5, _⟩
   go_wp2_with fail
   refine (znumber z5 HE.out).mono ?_
   rintro e w6 ⟨rfl, z6, _⟩
   go_wp2_with fail
   refine (zword z6).mono ?_
   rintro e w7 ⟨rfl, z7, _⟩
   go_wp2_with fail
   refine (znumber z7 HE.out).mono ?_
   rintro e w8 ⟨rfl, z8, _⟩
   have si := z4.sr.size
   have sp := z6.sr.size
   have wo := numV_wf (start text).next.2.word.2.word.2.word.1
   have c0 := z8.cell (i := 0) rfl
   have c1 := z8.cell (i := 1) rfl
   have c3 := z8.cell (i := 3) rfl
   have c4 := z8.cell (i := 4) rfl
   have f0 := z8.frz 0
   have f1 := z8.frz 1
   have f3 := z8.frz 3
   have f4 := z8.frz 4
   have Z9 := Lib.hid ((((z8.set 0 (.string (start text).next.2.word.2.word.1)).set 1 (.int .i64 (start text).next.2.word.2.word.2.number.1)).set 3 (.string (start text).next.2.word.2.word.2.number.2.word.1)).set 4 (.int .i64 (start text).next.2.word.2.word.2.number.2.word.2.number.1))
   clear z4 z5 z6 z7 z8 HZ0
   go_wp2_with fail
   refine (znext Z9.out HE.out).mono ?_
   rintro e w10 ⟨rfl, z10, _⟩
   go_wp2_with fail
   refine (zword z10).mono ?_
   rintro e w11 ⟨rfl, z11, _⟩
   clear z10
   have hrest := zrest z11 HE.out
   have HN := Lib.hid z11.sr.lt
   clear z11
   go_wp2_with fail
   refine hrest.mono ?_
   rintro e w12 ⟨A1, n1, p1, rfl, r12, z12, _⟩
   have c2 := z12.cell (i := 2) rfl
   have f2 := z12.frz 2
   have Z13 := Lib.hid (z12.set 2 (.slice A1 n1 p1))
   have R13 := Lib.hid (r12.kt (z12.kbset 2 (.slice A1 n1 p1)).i)
   clear z12 r12 Z9 c0 c1 c3 c4 f0 f1 f3 f4 hrest
   go_wp2_with fail
   refine (znext Z13.out HE.out).mono ?_
   rintro e w14 ⟨rfl, z14, g14⟩
   have R14 := Lib.hid (R13.out.kt (Z13.out.sr.kb g14).i)
   clear g14
   go_wp2_with fail
   refine (zword z14).mono ?_
   rintro e w15 ⟨rfl, z15, g15⟩
   have R15 := Lib.hid (R14.out.kt (z14.sr.kb g15).i)
   clear g15 z14
   have hrest := zrest z15 HE.out
   have Z15 := Lib.hid z15
   clear z15
   go_wp2_with fail
   refine hrest.mono ?_
   rintro e w16 ⟨A2, n2, p2, rfl, r16, z16, g16⟩
   have c5 := z16.cell (i := 5) rfl
   have f5 := z16.frz 5
   have Z17 := Lib.hid (z16.set 5 (.slice A2 n2 p2))
   have R16 := R15.out.kt (Z15.out.sr.kb g16).i
   have R17 := Lib.hid (r16.kt (z16.kbset 5 (.slice A2 n2 p2)).i)
   have R17' := Lib.hid (R16.kt (z16.kbset 5 (.slice A2 n2 p2)).i)
   clear z16 r16 g16 R16 hrest Z13 R13 R14 R15 Z15
   have hP : PW w w2.heap.size (w16.setCell ⟨w2.heap.size + 1, 5, none⟩ (.slice A2 n2 p2)) (headS (start text)).st ⟨(headS (start text)).id, (headS (start text)).opened, .slice A1 n1 p1, (headS (start text)).cs, (headS (start text)).proc, (headS (start text)).stage, .slice A2 n2 p2, (headS (start text)).mo, .slice none 0 0, [], .slice none 0 0, []⟩ :=
     ⟨Z17.out, R17'.out, R17.out, World.ownsRow_nil _ _ _ _, by simp, by simp, World.ownsRow_nil _ _ _ _, by simp, by simp, si, sp⟩
   have hlo : loose text = ((loopL (headS (start text)).st.lines (headS (start text)).st.words (headS (start text)).st.wrong [] []).1, ⟨(headS (start text)).id, (headS (start text)).opened, nilV, (headS (start text)).cs, (headS (start text)).proc, (headS (start text)).stage, nilV, (headS (start text)).mo, nilV, (loopL (headS (start text)).st.lines (headS (start text)).st.words (headS (start text)).st.wrong [] []).2.1, nilV, (loopL (headS (start text)).st.lines (headS (start text)).st.words (headS (start text)).st.wrong [] []).2.2⟩) := rfl
   obtain ⟨H, hH⟩ : ∃ H, H = headS (start text) := ⟨_, rfl⟩
   rw [← hH] at hP hlo
   have hln : H.st.lines.length ≤ 1000001 := by obtain ⟨⟨_, _, _, _, ⟨_, _, _, _, hl, _⟩⟩⟩ := hP.z.sr; exact hl
   have HLO := Lib.hid hlo
   have HP := Lib.hid hP
   have HLN := Lib.hid hln
   clear Z17 R17 R17' hP hlo hln si sp wo hH
   go_wp2
   go_loopw [] (fun wr => ∃ (ls ws : List ByteArray) (wg : Bool) (R : List (ByteArray × Int)) (L : List Lim) (rv lv : Value), PW w w2.heap.size wr ⟨ws, wg, ls⟩ ⟨H.id, H.opened, .slice A1 n1 p1, H.cs, H.proc, H.stage, .slice A2 n2 p2, H.mo, rv, R, lv, L⟩ ∧ loopL ls ws wg R (L.map Lim.norm) = loopL H.st.lines H.st.words H.st.wrong [] [] ∧ R.length + L.length + ls.length ≤ 1000001) (fun wr => linesN w2.heap.size wr)
   case atStart => exact ⟨_, _, _, _, _, _, _, HP.out, rfl, by simpa using HLN.out⟩
   case round =>
    obtain ⟨ls, ws, wg, R, L, rv, lv, hP, hl, hn⟩ := hrel
    cases ls with
    | nil =>
      have hPn : Calls Tryz.prog 43 #[.pointer (some ⟨w2.heap.size, 0, none⟩)] wr fun e w' => e = .returned (.bool false) ∧ PW w w2.heap.size w' ⟨ws, wg || !ws.isEmpty, []⟩ ⟨H.id, H.opened, .slice A1 n1 p1, H.cs, H.proc, H.stage, .slice A2 n2 p2, H.mo, rv, R, lv, L⟩ := pnext hP HE.out
      have HL := Lib.hid hl
      clear hP hl hn HLN HP
      go_wp2_with fail
      refine hPn.mono ?_
      rintro e w20 ⟨rfl, hP2⟩
      have hlo2 : loose text = (wg || !ws.isEmpty, Mat.norm ⟨H.id, H.opened, .slice A1 n1 p1, H.cs, H.proc, H.stage, .slice A2 n2 p2, H.mo, rv, R, lv, L⟩) := by rw [HLO.out, ← HL.out]; rfl
      obtain ⟨X, hX⟩ : ∃ X, X = (wg || !ws.isEmpty) := ⟨_, rfl⟩
      rw [← hX] at hP2 hlo2
      obtain ⟨A3, q3c, rfl⟩ : ∃ A c, rv = .slice A R.length c := own_form hP2.b.rr
      obtain ⟨A4, q4c, rfl⟩ : ∃ A c, lv = .slice A L.length c := own_form hP2.b.ll
      have hok : okP text ↔ (X = false ∧ formedB ⟨H.id, H.opened, .slice A1 n1 p1, H.cs, H.proc, H.stage, .slice A2 n2 p2, H.mo, .slice A3 R.length q3c, R, .slice A4 L.length q4c, L⟩ = true ∧ textL ⟨H.id, H.opened, .slice A1 n1 p1, H.cs, H.proc, H.stage, .slice A2 n2 p2, H.mo, .slice A3 R.length q3c, R, .slice A4 L.length q4c, L⟩ = text.data.toList) := by
        unfold okP; rw [hlo2]; exact Iff.of_eq (by rw [formedB_norm, textL_norm])
      have hMR := hP2.b.mr
      have hEn : Env w20.heap.size w20 := (hP2.z.env HE.out).more hP2.z.bl.size
      have c0 : w20.cell? ⟨w2.heap.size + 1, 0, none⟩ = some (.string H.id) := hP2.z.cell (i := 0) rfl
      have c1 : w20.cell? ⟨w2.heap.size + 1, 1, none⟩ = some (.int .i64 H.opened) := hP2.z.cell (i := 1) rfl
      have c2 : w20.cell? ⟨w2.heap.size + 1, 2, none⟩ = some (.slice A1 n1 p1) := hP2.z.cell (i := 2) rfl
      have c3 : w20.cell? ⟨w2.heap.size + 1, 3, none⟩ = some (.string H.proc) := hP2.z.cell (i := 3) rfl
      have c4 : w20.cell? ⟨w2.heap.size + 1, 4, none⟩ = some (.int .i64 H.stage) := hP2.z.cell (i := 4) rfl
      have c5 : w20.cell? ⟨w2.heap.size + 1, 5, none⟩ = some (.slice A2 n2 p2) := hP2.z.cell (i := 5) rfl
      have c6 : w20.cell? ⟨w2.heap.size + 1, 6, none⟩ = some (.slice A3 R.length q3c) := hP2.z.cell (i := 6) rfl
      have c7 : w20.cell? ⟨w2.heap.size + 1, 7, none⟩ = some (.slice A4 L.length q4c) := hP2.z.cell (i := 7) rfl
      obtain ⟨T2, hT2⟩ : ∃ T2 : ByteArray, T2 = ⟨(textL ⟨H.id, H.opened, .slice A1 n1 p1, H.cs, H.proc, H.stage, .slice A2 n2 p2, H.mo, .slice A3 R.length q3c, R, .slice A4 L.length q4c, L⟩).toArray⟩ := ⟨_, rfl⟩
      obtain ⟨F, hF⟩ : ∃ F, F = formedB ⟨H.id, H.opened, .slice A1 n1 p1, H.cs, H.proc, H.stage, .slice A2 n2 p2, H.mo, .slice A3 R.length q3c, R, .slice A4 L.length q4c, L⟩ := ⟨_, rfl⟩
      have hT : Calls Tryz.prog 11 #[.agg #[.string H.id, .int .i64 H.opened, .slice A1 n1 p1, .string H.proc, .int .i64 H.stage, .slice A2 n2 p2, .slice A3 R.length q3c, .slice A4 L.length q4c]] w20 fun e w' => e = .returned (.tuple #[.string (if F = true then T2 else ⟨#[]⟩), .int .i64 (if F = true then 0 else 1)]) ∧ Below w20.heap.size w20 w' := by
        cases F with
        | false => exact text_no ⟨H.id, H.opened, .slice A1 n1 p1, H.cs, H.proc, H.stage, .slice A2 n2 p2, H.mo, .slice A3 R.length q3c, R, .slice A4 L.length q4c, L⟩ w20 hMR hF.symm
        | true => rw [hT2]; exact text_yes ⟨H.id, H.opened, .slice A1 n1 p1, H.cs, H.proc, H.stage, .slice A2 n2 p2, H.mo, .slice A3 R.length q3c, R, .slice A4 L.length q4c, L⟩ w20 hMR hF.symm hEn
      have HP2 := Lib.hid hP2
      have HLO2 := Lib.hid hlo2
      have HOK := Lib.hid hok
      have HF := Lib.hid hF
      have HT2 := Lib.hid hT2
      have HX := Lib.hid hX
      clear hP2 hlo2 hok hMR hEn hX hPn HL hF hT2
      go_wp2_with fail
      refine hT.mono ?_
      rintro e w21 ⟨rfl, b21⟩
      have hP3 := HP2.out.go b21
      have HP3 := Lib.hid hP3
      have BL := Lib.hid hP3.z.bl
      have s1 : w21.cell? ⟨w2.heap.size, 1, none⟩ = some (.bool X) := by
        obtain ⟨⟨wv, lv, hb, _⟩⟩ := hP3.z.sr
        rw [cell_of_row _ _ 1 _ _ _ hb]; rfl
      have r0 : w21.cell? ⟨w.heap.size, 0, none⟩ = some (.string ⟨#[]⟩) := by rw [cell_of_row _ _ 0 _ _ _ hP3.z.hr]; rfl
      have r1 : w21.cell? ⟨w.heap.size, 1, none⟩ = some (.int .i64 0) := by rw [cell_of_row _ _ 1 _ _ _ hP3.z.hr]; rfl
      have r2 : w21.cell? ⟨w.heap.size, 2, none⟩ = some (.slice none 0 0) := by rw [cell_of_row _ _ 2 _ _ _ hP3.z.hr]; rfl
      have r3 : w21.cell? ⟨w.heap.size, 3, none⟩ = some (.string ⟨#[]⟩) := by rw [cell_of_row _ _ 3 _ _ _ hP3.z.hr]; rfl
      have r4 : w21.cell? ⟨w.heap.size, 4, none⟩ = some (.int .i64 0) := by rw [cell_of_row _ _ 4 _ _ _ hP3.z.hr]; rfl
      have r5 : w21.cell? ⟨w.heap.size, 5, none⟩ = some (.slice none 0 0) := by rw [cell_of_row _ _ 5 _ _ _ hP3.z.hr]; rfl
      have r6 : w21.cell? ⟨w.heap.size, 6, none⟩ = some (.slice none 0 0) := by rw [cell_of_row _ _ 6 _ _ _ hP3.z.hr]; rfl
      have r7 : w21.cell? ⟨w.heap.size, 7, none⟩ = some (.slice none 0 0) := by rw [cell_of_row _ _ 7 _ _ _ hP3.z.hr]; rfl
      have g0 : w21.frozen? ⟨w.heap.size, 0, none⟩ = false := Lib.frozen_of_heap hP3.z.hr 0
      have g1 : w21.frozen? ⟨w.heap.size, 1, none⟩ = false := Lib.frozen_of_heap hP3.z.hr 1
      have g2 : w21.frozen? ⟨w.heap.size, 2, none⟩ = false := Lib.frozen_of_heap hP3.z.hr 2
      have g3 : w21.frozen? ⟨w.heap.size, 3, none⟩ = false := Lib.frozen_of_heap hP3.z.hr 3
      have g4 : w21.frozen? ⟨w.heap.size, 4, none⟩ = false := Lib.frozen_of_heap hP3.z.hr 4
      have g5 : w21.frozen? ⟨w.heap.size, 5, none⟩ = false := Lib.frozen_of_heap hP3.z.hr 5
      have g6 : w21.frozen? ⟨w.heap.size, 6, none⟩ = false := Lib.frozen_of_heap hP3.z.hr 6
      have g7 : w21.frozen? ⟨w.heap.size, 7, none⟩ = false := Lib.frozen_of_heap hP3.z.hr 7
      have d0 : w21.cell? ⟨w2.heap.size + 1, 0, none⟩ = some (.string H.id) := hP3.z.cell (i := 0) rfl
      have d1 : w21.cell? ⟨w2.heap.size + 1, 1, none⟩ = some (.int .i64 H.opened) := hP3.z.cell (i := 1) rfl
      have d2 : w21.cell? ⟨w2.heap.size + 1, 2, none⟩ = some (.slice A1 n1 p1) := hP3.z.cell (i := 2) rfl
      have d3 : w21.cell? ⟨w2.heap.size + 1, 3, none⟩ = some (.string H.proc) := hP3.z.cell (i := 3) rfl
      have d4 : w21.cell? ⟨w2.heap.size + 1, 4, none⟩ = some (.int .i64 H.stage) := hP3.z.cell (i := 4) rfl
      have d5 : w21.cell? ⟨w2.heap.size + 1, 5, none⟩ = some (.slice A2 n2 p2) := hP3.z.cell (i := 5) rfl
      have d6 : w21.cell? ⟨w2.heap.size + 1, 6, none⟩ = some (.slice A3 R.length q3c) := hP3.z.cell (i := 6) rfl
      have d7 : w21.cell? ⟨w2.heap.size + 1, 7, none⟩ = some (.slice A4 L.length q4c) := hP3.z.cell (i := 7) rfl
      clear c0 c1 c2 c3 c4 c5 c6 c7 b21 hP3 hT
      cases F with
      | false =>
        simp only [Bool.false_eq_true, if_false]
        cases X with
        | true =>
          go_wp2
          refine bodyPost_ret (v := .tuple #[.agg #[.string ⟨#[]⟩, .int .i64 0, .slice none 0 0, .string ⟨#[]⟩, .int .i64 0, .slice none 0 0, .slice none 0 0, .slice none 0 0], .int .i64 5]) (by simp [results, Tryz.results13, go_sem, r0, r1, r2, r3, r4, r5, r6, r7]) rfl ?_
          exact ⟨.inr ⟨fun h => absurd (HOK.out.1 h).1 (by decide), rfl⟩, eight_below BL.out w.heap.size (Nat.le_refl _) _ _ _ _ _ _ _ _⟩
        | false =>
          go_wp2
          refine bodyPost_ret (v := .tuple #[.agg #[.string ⟨#[]⟩, .int .i64 0, .slice none 0 0, .string ⟨#[]⟩, .int .i64 0, .slice none 0 0, .slice none 0 0, .slice none 0 0], .int .i64 5]) (by simp [results, Tryz.results13, go_sem, r0, r1, r2, r3, r4, r5, r6, r7]) rfl ?_
          exact ⟨.inr ⟨fun h => absurd (HF.out.trans (HOK.out.1 h).2.1) (by decide), rfl⟩, eight_below BL.out w.heap.size (Nat.le_refl _) _ _ _ _ _ _ _ _⟩
      | true =>
        simp only [if_true]
        cases X with
        | true =>
          go_wp2
          refine bodyPost_ret (v := .tuple #[.agg #[.string ⟨#[]⟩, .int .i64 0, .slice none 0 0, .string ⟨#[]⟩, .int .i64 0, .slice none 0 0, .slice none 0 0, .slice none 0 0], .int .i64 5]) (by simp [results, Tryz.results13, go_sem, r0, r1, r2, r3, r4, r5, r6, r7]) rfl ?_
          exact ⟨.inr ⟨fun h => absurd (HOK.out.1 h).1 (by decide), rfl⟩, eight_below BL.out w.heap.size (Nat.le_refl _) _ _ _ _ _ _ _ _⟩
        | false =>
          by_cases he : T2 = text
          · have hyes : okP text := HOK.out.2 ⟨rfl, HF.out.symm, by rw [← he, HT2.out]⟩
            have HY := Lib.hid hyes
            have heq : (T2.toList == text.toList) = true := by rw [he]; simp
            have hneq : (T2.toList != text.toList) = false := by rw [he]; simp
            clear he hyes
            go_wp2
            refine bodyPost_ret (v := .tuple #[.agg #[.string H.id, .int .i64 H.opened, .slice A1 n1 p1, .string H.proc, .int .i64 H.stage, .slice A2 n2 p2, .slice A3 R.length q3c, .slice A4 L.length q4c], .int .i64 0]) (by simp [results, Tryz.results13, go_sem, r0, r1, r2, r3, r4, r5, r6, r7]) rfl ?_
            refine ⟨.inl ⟨⟨H.id, H.opened, .slice A1 n1 p1, H.cs, H.proc, H.stage, .slice A2 n2 p2, H.mo, .slice A3 R.length q3c, R, .slice A4 L.length q4c, L⟩, HY.out, by rw [HLO2.out], rfl, ?_⟩, eight_below BL.out w.heap.size (Nat.le_refl _) _ _ _ _ _ _ _ _⟩
            exact (HP3.out.b.kb (KB.of (eight_grown w21 w.heap.size _ _ _ _ _ _ _ _) HP3.out.z.hr (by decide) (by decide) (by decide) (by decide))).mr
          · have hno : ¬ okP text := fun h => he (by
              have := (HOK.out.1 h).2.2
              rw [HT2.out, this])
            have HN := Lib.hid hno
            have heq : (T2.toList == text.toList) = false := str_ne he
            have hneq : (T2.toList != text.toList) = true := by simp only [bne, heq]; rfl
            clear he hno
            go_wp2
            refine bodyPost_ret (v := .tuple #[.agg #[.string ⟨#[]⟩, .int .i64 0, .slice none 0 0, .string ⟨#[]⟩, .int .i64 0, .slice none 0 0, .slice none 0 0, .slice none 0 0], .int .i64 5]) (by simp [results, Tryz.results13, go_sem, r0, r1, r2, r3, r4, r5, r6, r7]) rfl ?_
            exact ⟨.inr ⟨fun h => HN.out h, rfl⟩, eight_below BL.out w.heap.size (Nat.le_refl _) _ _ _ _ _ _ _ _⟩
    | cons l r =>
      have hPn : Calls Tryz.prog 43 #[.pointer (some ⟨w2.heap.size, 0, none⟩)] wr fun e w' => e = .returned (.bool true) ∧ PW w w2.heap.size w' ⟨splitW 32 l, wg || !ws.isEmpty, r⟩ ⟨H.id, H.opened, .slice A1 n1 p1, H.cs, H.proc, H.stage, .slice A2 n2 p2, H.mo, rv, R, lv, L⟩ := pnext hP HE.out
      have HL := Lib.hid hl
      have hmz := hP.z.sr.linesN
      have HMZ := Lib.hid hmz
      clear hP hl HLN HP hmz
      go_wp2_with fail
      refine hPn.mono ?_
      rintro e w20 ⟨rfl, hP2⟩
      obtain ⟨st1, hst1⟩ : ∃ s, s = (⟨splitW 32 l, wg || !ws.isEmpty, r⟩ : Scan) := ⟨_, rfl⟩
      rw [← hst1] at hP2
      have hPw := pword hP2
      obtain ⟨x, hx⟩ : ∃ x, x = st1.word.1 := ⟨_, rfl⟩
      obtain ⟨st2, hst2⟩ : ∃ s, s = st1.word.2 := ⟨_, rfl⟩
      rw [← hx, ← hst2] at hPw
      have HST1 := Lib.hid hst1
      have HX := Lib.hid hx
      have HST2 := Lib.hid hst2
      clear hst1 hx hst2 hP2 hPn
      go_wp2_with fail
      refine hPw.mono ?_
      rintro e w21 ⟨rfl, hP3⟩
      have HP3 := Lib.hid hP3
      clear hP3 hPw
      by_cases hb : x = bRight
      · have HB := Lib.hid hb
        obtain ⟨c, hc⟩ : ∃ c, c = decide (x = bRight) := ⟨_, rfl⟩
        clear hb
        have hbx : x = ⟨#[114, 105, 103, 104, 116]⟩ := HB.out
        subst hbx
        go_upto_region 17 with fail
        have c6 : w21.cell? ⟨w2.heap.size + 1, 6, none⟩ = some rv := HP3.out.z.cell (i := 6) rfl
        have f6 := HP3.out.z.frz 6
        have HP4 := Lib.hid (HP3.out.go (Below.refl _ _).drew)
        obtain ⟨i0, hi, hz0, hz1, hz2⟩ := info_parts infoR
        have hn1 : R.length + 1 ≤ 1000001 := by simp only [List.length_cons] at hn; omega
        go_region_law
         (first
           | (go_simp; go_at_call 41; refine (pword HP4.out).mono ?_; rintro e w22 ⟨rfl, hP5⟩; have q5 : w22.cell? ⟨w2.heap.size + 1, 6, none⟩ = some rv := hP5.z.cell (i := 6) rfl; dsimp only)
           | (go_simp; go_at_call 42; refine (pnumber hP5 HE.out).mono ?_; rintro e w23 ⟨rfl, hP6⟩; have hr6 : w23.ownsRow (w2.heap.size + 2) 41 2 rv R.length (news R.length (csR R)) := hP6.b.rr; have hb6 := hP6.z.lt; have q6 : w23.cell? ⟨w2.heap.size + 1, 6, none⟩ = some rv := hP6.z.cell (i := 6) rfl; dsimp only)
           | (refine step_appG _ (by rfl) (.tmp 68) (.tmp 74) 24 (by rfl) (w2.heap.size + 2) 41 i0 (.agg #[.string ByteArray.empty, .int .i64 0]) 2 24 Tryz.underlying24 hi hz0 hz1 hz2 rfl (by decide) rv R.length (news R.length (csR R)) (by rfl) (hr6.alloc _) w23.heap.size (by rfl) #[.string st2.word.1, .int .i64 st2.word.2.number.1] 41 (0, 0) rfl (Go.heap_alloc_new _ _) (one_right _ _) (by omega) (by decide) (Nat.le_trans hb6 (le_alloc _ _)) ?_; intro g cap w5 hown5 hg5; have hz7 := (hP6.z.go ((Below.refl _ _).alloc (Nat.le_refl _) _)).own (hr6.alloc _) hg5 (Nat.le_add_right _ _) (by decide) (by decide) (by decide); have q7 : w5.cell? ⟨w2.heap.size + 1, 6, none⟩ = some rv := hz7.cell (i := 6) rfl; have g7 := hz7.frz 6)
           | fail)
        all_goals
          have hnm : st2.word.1.size ≤ 1000000 := HP4.out.z.sr.size
          have hfin := hP6.right _ hg5 hown5 hn1 hnm
          have hlines : st2.word.2.number.2.lines = r := by rw [number_lines, word_lines, HST2.out, word_lines, HST1.out]
          have hloop := (loopL_right (R := R) (L := L.map Lim.norm) HST1.out (HX.out.symm.trans HB.out)).symm.trans HL.out
          rw [← HST2.out] at hloop
          rw [scan_eta _ hlines] at hfin
          have HF := Lib.hid hfin
          have HLOOP := Lib.hid hloop
          clear hfin hloop hown5 hg5 hz7 hr6 hP6 hP5 hnm hlines
          go_wp2_with fail
          go_roundw
          case rel => exact ⟨_, _, _, _, _, _, _, HF.out, HLOOP.out, by simp only [List.length_append, List.length_cons, List.length_nil] at hn ⊢; omega⟩
          case measure => rw [HMZ.out, HF.out.z.sr.linesN]; simp
      · have hne : (x.toList == [114, 105, 103, 104, 116]) = false := by
          have := str_ne hb
          rwa [show bRight.toList = [114, 105, 103, 104, 116] by rw [Lib.toList_data]; rfl] at this
        have HB := Lib.hid hb
        clear hb
        go_wp2_with fail
        refine (pword HP3.out).mono ?_
        rintro e w22 ⟨rfl, hP4⟩
        go_wp2_with fail
        refine (pnumber hP4 HE.out).mono ?_
        rintro e w23 ⟨rfl, hP5⟩
        go_wp2_with fail
        refine (pnumber hP5 HE.out).mono ?_
        rintro e w24 ⟨rfl, hP6⟩
        go_wp2_with fail
        refine (pnumber hP6 HE.out).mono ?_
        rintro e w25 ⟨rfl, hP7⟩
        have hid : st2.word.1.size ≤ 1000000 := HP3.out.z.sr.size
        have hlines : (limS st2).2.2.2.2.lines = r := by rw [limS_lines, HST2.out, word_lines, HST1.out]
        have hws : (limS st2).2.2.2.2.words.length ≤ 1000001 := by obtain ⟨⟨_, _, _, ⟨_, _, _, _, hl, _⟩, _⟩⟩ := hP7.z.sr; exact hl
        have hX : PX w w2.heap.size w25 (w25.alloc (.cells #[.string (limS st2).1, .int .i64 (limS st2).2.1, .int .i64 (limS st2).2.2.1, .int .i64 (limS st2).2.2.2.1, .slice none 0 0] 65)) (limS st2).2.2.2.2 ⟨H.id, H.opened, .slice A1 n1 p1, H.cs, H.proc, H.stage, .slice A2 n2 p2, H.mo, rv, R, lv, L⟩ ⟨(limS st2).1, (limS st2).2.1, (limS st2).2.2.1, (limS st2).2.2.2.1, .slice none 0 0, []⟩ := PX.new hP7
        have hloop := (loopL_limit (R := R) (L := L.map Lim.norm) HST1.out (fun e => HB.out (HX.out.trans e))).symm.trans HL.out
        rw [← HST2.out] at hloop
        have hbX := hP7.b
        have hwf1 := numV_wf
        rw [scan_eta _ hlines] at hX
        have HX0 := Lib.hid hX
        have HLOOP := Lib.hid hloop
        have HBX := Lib.hid hbX
        have HID := Lib.hid hid
        have HWS := Lib.hid hws
        have hS2 := hP7.z.lt
        clear hX hloop hbX hid hws hP4 hP5 hP6 hP7 HP3 hlines
        go_wp2
        go_loopw [] (fun wr => ∃ (ws2 : List ByteArray) (wg2 : Bool) (P : List (Int × Int)) (sv : Value), PX w w2.heap.size w25 wr ⟨ws2, wg2, r⟩ ⟨H.id, H.opened, .slice A1 n1 p1, H.cs, H.proc, H.stage, .slice A2 n2 p2, H.mo, rv, R, lv, L⟩ ⟨(limS st2).1, (limS st2).2.1, (limS st2).2.2.1, (limS st2).2.2.2.1, sv, P⟩ ∧ (P ++ (stopsL ws2).1, wg2 || (stopsL ws2).2) = ((stopsL (limS st2).2.2.2.2.words).1, (limS st2).2.2.2.2.wrong || (stopsL (limS st2).2.2.2.2.words).2) ∧ P.length + ws2.length ≤ 1000001) (fun wr => wordsN w2.heap.size wr)
        case atStart => exact ⟨_, _, [], _, HX0.out, rfl, by simpa using HWS.out⟩
        case round =>
          obtain ⟨ws2, wg2, P, sv, hX, hst, hn2⟩ := hrel
          have hcw : ∃ A c, wr.cell? ⟨w2.heap.size, 0, none⟩ = some (.slice A ws2.length c) := by
            obtain ⟨⟨wv, lv, hb, ⟨A, c, rfl, _⟩, _⟩⟩ := hX.z.sr
            exact ⟨A, c, by rw [cell_of_row _ _ 0 _ _ _ hb]; rfl⟩
          obtain ⟨A3, c3, k0⟩ := hcw
          have HMW := Lib.hid hX.z.sr.wordsN
          have HX2 := Lib.hid hX
          have HSTP := Lib.hid hst
          clear hX hst HX0
          cases ws2 with
          | nil =>
            simp only [List.length_nil] at k0
            have hpw := HX2.out.pw HBX.out (by show P.length ≤ 1000001; simp only [List.length_nil] at hn2; omega)
            have hrel2 := HSTP.out
            simp only [stopsL, List.append_nil, Bool.or_false, Prod.mk.injEq] at hrel2
            have hPl : P.length ≤ 1000001 := by simp only [List.length_nil] at hn2; omega
            have c7 : wr.cell? ⟨w2.heap.size + 1, 7, none⟩ = some lv := HX2.out.z.cell (i := 7) rfl
            have f7 := HX2.out.z.frz 7
            obtain ⟨A4, c4, rfl⟩ : ∃ A c, sv = .slice A P.length c := own_form HX2.out.own
            have x0 : wr.cell? ⟨w25.heap.size, 0, none⟩ = some (.string (limS st2).1) := HX2.out.cell (i := 0) rfl
            have x1 : wr.cell? ⟨w25.heap.size, 1, none⟩ = some (.int .i64 (limS st2).2.1) := HX2.out.cell (i := 1) rfl
            have x2 : wr.cell? ⟨w25.heap.size, 2, none⟩ = some (.int .i64 (limS st2).2.2.1) := HX2.out.cell (i := 2) rfl
            have x3 : wr.cell? ⟨w25.heap.size, 3, none⟩ = some (.int .i64 (limS st2).2.2.2.1) := HX2.out.cell (i := 3) rfl
            have x4 : wr.cell? ⟨w25.heap.size, 4, none⟩ = some (.slice A4 P.length c4) := HX2.out.cell (i := 4) rfl
            have hll : wr.ownsRow (w2.heap.size + 2) 65 5 lv L.length (news L.length (csL L)) := hpw.1.b.ll
            have hlt := hpw.1.z.lt
            obtain ⟨i0, hi, hz0, hz1, hz2⟩ := info_parts infoL
            have hn1 : L.length + 1 ≤ 1000001 := by simp only [List.length_cons] at hn; omega
            have HPW := Lib.hid hpw
            have HREL := Lib.hid hrel2
            have HLL := Lib.hid hll
            clear hpw hrel2 hll
            go_wp2_with (at_builtin; refine wpList_appG _ rfl (.tmp 105) (.tmp 107) 25 rfl (w2.heap.size + 2) 65 i0 (.agg #[.string ByteArray.empty, .int .i64 0, .int .i64 0, .int .i64 0, .slice none 0 0]) 5 64 Tryz.underlying25 hi hz0 hz1 hz2 rfl (by decide) lv L.length 1 (news L.length (csL L)) rfl (HLL.out.alloc _) wr.heap.size (by decide) rfl #[.string (limS st2).1, .int .i64 (limS st2).2.1, .int .i64 (limS st2).2.2.1, .int .i64 (limS st2).2.2.2.1, .slice A4 P.length c4] 65 (0, 0) rfl (Go.heap_alloc_new _ _) (one_lim _ _ _ _ _ _ _) (by omega) (by decide) (Nat.le_trans hlt (le_alloc _ _)) ?_; intro g cap w5 hown5 hg5; have hz7 := (HPW.out.1.z.go ((Below.refl _ _).alloc (Nat.le_refl _) _)).own (HLL.out.alloc _) hg5 (Nat.le_add_right _ _) (by decide) (by decide) (by decide); have q7 : w5.cell? ⟨w2.heap.size + 1, 7, none⟩ = some lv := hz7.cell (i := 7) rfl; have g7 := hz7.frz 7; have hfin := HPW.out.1.limit (x := ⟨(limS st2).1, (limS st2).2.1, (limS st2).2.2.1, (limS st2).2.2.2.1, .slice A4 P.length c4, P⟩) _ hg5 hown5 hn1 HID.out HPW.out.2; have HF := Lib.hid hfin; clear hfin hz7 hown5 hg5)
            have hx : (⟨(limS st2).1, (limS st2).2.1, (limS st2).2.2.1, (limS st2).2.2.2.1, nilV, P⟩ : Lim) = limX st2 := by rw [HREL.out.1]; rfl
            have hlp : loopL r [] wg2 R ((L ++ [(⟨(limS st2).1, (limS st2).2.1, (limS st2).2.2.1, (limS st2).2.2.2.1, .slice A4 P.length c4, P⟩ : Lim)]).map Lim.norm) = loopL H.st.lines H.st.words H.st.wrong [] [] := by
              rw [HREL.out.2, List.map_append, List.map_singleton, show Lim.norm ⟨(limS st2).1, (limS st2).2.1, (limS st2).2.2.1, (limS st2).2.2.2.1, .slice A4 P.length c4, P⟩ = limX st2 from hx]
              exact HLOOP.out
            have HLP := Lib.hid hlp
            clear hx hlp
            go_wp2_with fail
            go_roundw
            case rel => exact ⟨_, _, _, _, _, _, _, HF.out, HLP.out, by simp only [List.length_append, List.length_cons, List.length_nil] at hn ⊢; omega⟩
            case measure => rw [HMZ.out, HF.out.z.sr.linesN]; simp
          | cons a rest =>
            have g1 : (0 : Int) < (rest.length : Int) + 1 := by omega
            simp only [List.length_cons] at k0 hn2
            go_upto_region 20 with fail
            have c4 : wr.cell? ⟨w25.heap.size, 4, none⟩ = some sv := HX2.out.cell (i := 4) rfl
            have HX3 := Lib.hid (HX2.out.go (Below.refl _ _).drew)
            obtain ⟨i0, hi, hz0, hz1, hz2⟩ := info_parts infoP
            go_region_law
             (first
               | (go_simp; go_at_call 42; refine (xnumber HX3.out HE.out).mono ?_; rintro e w26 ⟨rfl, hX4⟩; have q5 : w26.cell? ⟨w25.heap.size, 4, none⟩ = some sv := hX4.cell (i := 4) rfl; dsimp only)
               | (go_simp; go_at_call 42; refine (xnumber hX4 HE.out).mono ?_; rintro e w27 ⟨rfl, hX5⟩; have hr6 : w27.ownsRow (w25.heap.size + 1) 77 2 sv P.length (news P.length (csP P)) := hX5.own; have hb6 : w25.heap.size + 1 ≤ w27.heap.size := (Array.getElem?_eq_some_iff.1 hX5.box).1; have q6 : w27.cell? ⟨w25.heap.size, 4, none⟩ = some sv := hX5.cell (i := 4) rfl; have q6n : w25.heap.size < w27.heap.size := (Array.getElem?_eq_some_iff.1 hX5.box).1; have q8 : ∀ o, (w27.alloc o).cell? ⟨w25.heap.size, 4, none⟩ = some sv := fun o => (hX5.go ((Below.refl _ _).alloc (Nat.le_refl _) o)).cell (i := 4) rfl; dsimp only)
               | (refine step_appG _ (by rfl) (.tmp 95) (.tmp 101) 63 (by rfl) (w25.heap.size + 1) 77 i0 (.agg #[.int .i64 0, .int .i64 0]) 2 16 Tryz.underlying63 hi hz0 hz1 hz2 rfl (by decide) sv P.length (news P.length (csP P)) (by rfl) (hr6.alloc _) w27.heap.size (by rfl) #[.int .i64 (⟨a :: rest, wg2, r⟩ : Scan).number.1, .int .i64 (⟨a :: rest, wg2, r⟩ : Scan).number.2.number.1] 77 (0, 0) rfl (Go.heap_alloc_new _ _) (one_stop _ _) (by omega) (by decide) (Nat.le_trans hb6 (le_alloc _ _)) ?_; intro g cap w5 hown5 hg5; have hX7 := hX5.stop _ hg5 hown5; have q7 : w5.cell? ⟨w25.heap.size, 4, none⟩ = some sv := hX5.grow _ hg5; have g7 := hX5.growF _ hg5)
               | fail)
            all_goals
              have hlines : (⟨a :: rest, wg2, r⟩ : Scan).number.2.number.2.lines = r := by rw [number_lines, number_lines]
              have hstep := (stops_step P a rest r wg2).trans HSTP.out
              have hlen : (P ++ [((⟨a :: rest, wg2, r⟩ : Scan).number.1, (⟨a :: rest, wg2, r⟩ : Scan).number.2.number.1)]).length + (⟨a :: rest, wg2, r⟩ : Scan).number.2.number.2.words.length ≤ 1000001 := by
                rw [show (⟨a :: rest, wg2, r⟩ : Scan).number.2.number.2.words.length = rest.length - 1 from word_len ⟨rest, _, _⟩, List.length_append, List.length_singleton]
                omega
              have hms : (⟨a :: rest, wg2, r⟩ : Scan).number.2.number.2.words.length < rest.length + 1 := by
                rw [show (⟨a :: rest, wg2, r⟩ : Scan).number.2.number.2.words.length = rest.length - 1 from word_len ⟨rest, _, _⟩]
                omega
              rw [scan_eta _ hlines] at hX7
              have HF := Lib.hid hX7
              have HSTEP := Lib.hid hstep
              have HLEN := Lib.hid hlen
              have HMS := Lib.hid hms
              clear hX7 hstep hown5 hg5 hr6 hX5 hX4 hlines hlen hms
              go_wp2_with fail
              go_roundw
              case rel => exact ⟨_, _, _, _, HF.out, HSTEP.out, HLEN.out⟩
              case measure => rw [HMW.out, HF.out.z.sr.wordsN]; exact HMS.out
