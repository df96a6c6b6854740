/- WALK of matter.Parse, part 1: what is kept from call to call. -/
import Derived.Test.YtficjcomefaocaaGreatDoorReadAll
namespace Go.Proofs.YtficjcomefaocaaGreatDoor
open Go.RowKit Go.Maps
open Lexer Cal

/-- the blocks of Parse: the result's, the scanner's (S), the matter's (S + 1) -/
structure PZ (w0 : World) (S : Nat) (w : World) (st : Scan) (mc : Array Value) : Prop where
  sr : SR w S st
  hm : w.heap[S + 1]? = some (.cells mc 27 (0, 0))
  hr : w.heap[w0.heap.size]? = some (.cells zeroM.cells 27 (0, 0))
  bl : Below w0.heap.size w0 w
  hS : w0.heap.size < S
theorem PZ.kt {w0 w w' : World} {S : Nat} {st st' : Scan} {mc : Array Value} (h : PZ w0 S w st mc) (hk : KT 27 w w') (hs : SR w' S st') (hb : Below w0.heap.size w w') : PZ w0 S w' st' mc :=
  ⟨hs, hk _ _ _ h.hm, hk _ _ _ h.hr, h.bl.trans hb, h.hS⟩
theorem PZ.read {w0 w w' : World} {S : Nat} {st st' : Scan} {mc : Array Value} (h : PZ w0 S w st mc) (hg : w.grownBy w' (some S)) (hs : SR w' S st') : PZ w0 S w' st' mc :=
  h.kt (h.sr.km hg) hs (grown_below hg (Nat.le_of_lt h.hS) h.bl.size)
theorem PZ.go {w0 w w' : World} {S : Nat} {st : Scan} {mc : Array Value} (h : PZ w0 S w st mc) (hb : Below w.heap.size w w') : PZ w0 S w' st mc :=
  h.kt (KT.of_below hb) (h.sr.below hb) (hb.mono h.bl.size)
theorem PZ.lt {w0 w : World} {S : Nat} {st : Scan} {mc : Array Value} (h : PZ w0 S w st mc) : S + 1 < w.heap.size := (Array.getElem?_eq_some_iff.1 h.hm).1
theorem PZ.set {w0 w : World} {S : Nat} {st : Scan} {mc : Array Value} (h : PZ w0 S w st mc) (i : Nat) (v : Value) : PZ w0 S (w.setCell ⟨S + 1, i, none⟩ v) st (mc.setIfInBounds i v) := by
  have hg := grownBy_setCellAt w (S + 1) i v
  have hS := h.hS
  refine ⟨h.sr.stay (KT.of_grown hg h.hm (by decide)) (KT.of_grown hg h.hm (by decide)), heap_set w (S + 1) i _ _ _ v h.hm, ?_, h.bl.trans ((Below.refl _ _).setCell (p := ⟨S + 1, i, none⟩) (by show w0.heap.size ≤ S + 1; omega) v), hS⟩
  rw [hg.block _ (Array.getElem?_eq_some_iff.1 h.hr).1 (by simp; omega)]
  exact h.hr
theorem PZ.kbset {w0 w : World} {S : Nat} {st : Scan} {mc : Array Value} (h : PZ w0 S w st mc) (i : Nat) (v : Value) : KB w (w.setCell ⟨S + 1, i, none⟩ v) :=
  KB.of (grownBy_setCellAt w (S + 1) i v) h.hm (by decide) (by decide) (by decide) (by decide)
theorem PZ.cell {w0 w : World} {S : Nat} {st : Scan} {mc : Array Value} (h : PZ w0 S w st mc) {i : Nat} {v : Value} (hv : mc[i]? = some v) : w.cell? ⟨S + 1, i, none⟩ = some v := by rw [cell_of_row w (S + 1) i _ _ _ h.hm]; exact hv
theorem PZ.frz {w0 w : World} {S : Nat} {st : Scan} {mc : Array Value} (h : PZ w0 S w st mc) (i : Nat) : w.frozen? ⟨S + 1, i, none⟩ = false := Lib.frozen_of_heap h.hm i
theorem PZ.env {w0 w : World} {S : Nat} {st : Scan} {mc : Array Value} (h : PZ w0 S w st mc) (hE : Env w0.heap.size w0) : Env w0.heap.size w := hE.on h.bl

theorem zword {w0 w : World} {S : Nat} {st : Scan} {mc : Array Value} (h : PZ w0 S w st mc) :
    Calls Tryz.prog 41 #[.pointer (some ⟨S, 0, none⟩)] w fun e w' => e = .returned (.string st.word.1) ∧ PZ w0 S w' st.word.2 mc ∧ w.grownBy w' (some S) :=
  (word_any S st w h.sr).mono fun _ _ ⟨h1, h2, h3⟩ => ⟨h1, h.read h3 h2, h3⟩
theorem znumber {w0 w : World} {S : Nat} {st : Scan} {mc : Array Value} (h : PZ w0 S w st mc) (hE : Env w0.heap.size w0) :
    Calls Tryz.prog 42 #[.pointer (some ⟨S, 0, none⟩)] w fun e w' => e = .returned (.int .i64 st.number.1) ∧ PZ w0 S w' st.number.2 mc ∧ w.grownBy w' (some S) :=
  (number_any S st w _ h.sr (h.env hE) (Nat.le_of_lt h.hS)).mono fun _ _ ⟨h1, h2, h3⟩ => ⟨h1, h.read h3 h2, h3⟩
theorem znext {w0 w : World} {S : Nat} {st : Scan} {mc : Array Value} (h : PZ w0 S w st mc) (hE : Env w0.heap.size w0) :
    Calls Tryz.prog 43 #[.pointer (some ⟨S, 0, none⟩)] w fun e w' => e = .returned (.bool st.next.1) ∧ PZ w0 S w' st.next.2 mc ∧ w.grownBy w' (some S) :=
  (next_any S st w _ h.sr (h.env hE) (Nat.le_of_lt h.hS)).mono fun _ _ ⟨h1, h2, h3⟩ => ⟨h1, h.read h3 h2, h3⟩
theorem zrest {w0 w : World} {S : Nat} {st : Scan} {mc : Array Value} (h : PZ w0 S w st mc) (hE : Env w0.heap.size w0) :
    Calls Tryz.prog 44 #[.pointer (some ⟨S, 0, none⟩)] w fun e w' => ∃ A n cap, e = .returned (.slice A n cap) ∧ RH w' (.slice A n cap) (st.words.map numV) ∧ PZ w0 S w' ⟨[], st.wrong || st.words.any numE, st.lines⟩ mc ∧ w.grownBy w' (some S) := by
  have hlen : st.words.length ≤ 1000001 := by obtain ⟨⟨wv, lv, _, ⟨_, _, _, _, hl, _, _⟩, _⟩⟩ := h.sr; exact hl
  refine (rest_any S st w _ h.sr (h.env hE) (Nat.le_of_lt h.hS)).mono ?_
  rintro e w' ⟨v, rfl, h1, h2, h3⟩
  have hRH : RH w' v (st.words.map numV) := ⟨by rw [List.length_map]; exact hlen, fun x hx => by
    obtain ⟨b, _, rfl⟩ := List.mem_map.1 hx
    exact numV_wf b, w.heap.size, by rw [List.length_map]; exact h1⟩
  rcases h1.2 with ⟨rfl, _⟩ | ⟨g, cap, _, rfl, _⟩
  · exact ⟨_, _, _, rfl, hRH, h.read h3 h2, h3⟩
  · exact ⟨_, _, _, rfl, hRH, h.read h3 h2, h3⟩

/-- rows that lie there stay where a row grows that is made later -/
theorem KT.far {t : TypeId} {w a b : World} {row : Option Nat} (h : KT t w a) (hg : a.grownBy b row) (hr : ∀ k, row = some k → w.heap.size ≤ k) : KT t w b := fun k cs fz hk => by
  have h1 := h k cs fz hk
  rw [hg.block k (Array.getElem?_eq_some_iff.1 h1).1 (fun e => ?_)]
  · exact h1
  · have := hr k e.symm
    have := (Array.getElem?_eq_some_iff.1 hk).1
    omega
theorem KB.far {w a b : World} {row : Option Nat} (h : KB w a) (hg : a.grownBy b row) (hr : ∀ k, row = some k → w.heap.size ≤ k) : KB w b := ⟨h.i.far hg hr, h.r.far hg hr, h.l.far hg hr, h.s.far hg hr⟩
theorem newsP_app (L : List (Int × Int)) (a b : Int) : news L.length (csP L) ++ [.int .i64 a, .int .i64 b] = news (L ++ [(a, b)]).length (csP (L ++ [(a, b)])) := by
  rw [List.length_append, List.length_singleton, news_succ]
  congr 1
  · exact news_congr (fun k hk => by simp only [csP]; rw [getD_app L _ _ k hk])
  · simp [csP]
theorem newsL_app (L : List Lim) (x : Lim) : news L.length (csL L) ++ [.string x.id, .int .i64 x.N, .int .i64 x.U, .int .i64 x.f, x.sv] = news (L ++ [x]).length (csL (L ++ [x])) := by
  rw [List.length_append, List.length_singleton, news_succ]
  congr 1
  · exact news_congr (fun k hk => by simp only [csL]; rw [getD_app L _ _ k hk])
  · simp [csL]
/-- what Parse holds between two lines -/
structure PW (w0 : World) (S : Nat) (w : World) (st : Scan) (m : Mat) : Prop where
  z : PZ w0 S w st m.cells
  b : PB w (S + 2) m
theorem PW.read {w0 w w' : World} {S : Nat} {st st' : Scan} {m : Mat} (h : PW w0 S w st m) (hg : w.grownBy w' (some S)) (hs : SR w' S st') : PW w0 S w' st' m := ⟨h.z.read hg hs, h.b.kb (h.z.sr.kb hg)⟩
theorem PW.go {w0 w w' : World} {S : Nat} {st : Scan} {m : Mat} (h : PW w0 S w st m) (hb : Below w.heap.size w w') : PW w0 S w' st m := ⟨h.z.go hb, h.b.kb (KB.below hb)⟩
theorem pword {w0 w : World} {S : Nat} {st : Scan} {m : Mat} (h : PW w0 S w st m) :
    Calls Tryz.prog 41 #[.pointer (some ⟨S, 0, none⟩)] w fun e w' => e = .returned (.string st.word.1) ∧ PW w0 S w' st.word.2 m :=
  (word_any S st w h.z.sr).mono fun _ _ ⟨h1, h2, h3⟩ => ⟨h1, h.read h3 h2⟩
theorem pnumber {w0 w : World} {S : Nat} {st : Scan} {m : Mat} (h : PW w0 S w st m) (hE : Env w0.heap.size w0) :
    Calls Tryz.prog 42 #[.pointer (some ⟨S, 0, none⟩)] w fun e w' => e = .returned (.int .i64 st.number.1) ∧ PW w0 S w' st.number.2 m :=
  (number_any S st w _ h.z.sr (h.z.env hE) (Nat.le_of_lt h.z.hS)).mono fun _ _ ⟨h1, h2, h3⟩ => ⟨h1, h.read h3 h2⟩
theorem pnext {w0 w : World} {S : Nat} {st : Scan} {m : Mat} (h : PW w0 S w st m) (hE : Env w0.heap.size w0) :
    Calls Tryz.prog 43 #[.pointer (some ⟨S, 0, none⟩)] w fun e w' => e = .returned (.bool st.next.1) ∧ PW w0 S w' st.next.2 m :=
  (next_any S st w _ h.z.sr (h.z.env hE) (Nat.le_of_lt h.z.hS)).mono fun _ _ ⟨h1, h2, h3⟩ => ⟨h1, h.read h3 h2⟩
/-- a row of the call's own grows -/
theorem PZ.own {w0 w w5 : World} {S base e size n : Nat} {st : Scan} {mc : Array Value} {v : Value} {xs : List Value} (h : PZ w0 S w st mc) (hown : w.ownsRow base e size v n xs) (hg : w.grownBy w5 v.ownBlock) (hb : S ≤ base)
    (h1 : 9 ≠ e) (h2 : 86 ≠ e) (h3 : 27 ≠ e) : PZ w0 S w5 st mc :=
  h.kt (KT.of_own hown hg h3) (h.sr.stay (KT.of_own hown hg h1) (KT.of_own hown hg h2)) ((Below.refl _ _).grown hg h.bl.size fun k hk => by have := own_block_ge hown k hk; have := h.hS; omega)
theorem PW.right {w0 w w5 : World} {S g cap : Nat} {st : Scan} {m : Mat} {nm : ByteArray} {n : Int} (h : PW w0 S w st m) (o : Obj) (hg : (w.alloc o).grownBy w5 m.rv.ownBlock)
    (hown : w5.ownsRow (S + 2) 41 2 (.slice (some ⟨g, 0, none⟩) (m.rights.length + 1) cap) (m.rights.length + 1) (news m.rights.length (csR m.rights) ++ [.string nm, .int .i64 n])) (hn : m.rights.length + 1 ≤ 1000001) (hnm : nm.size ≤ 1000000) :
    PW w0 S (w5.setCell ⟨S + 1, 6, none⟩ (.slice (some ⟨g, 0, none⟩) (m.rights.length + 1) cap)) st { m with rv := .slice (some ⟨g, 0, none⟩) (m.rights.length + 1) cap, rights := m.rights ++ [(nm, n)] } := by
  have ha := h.go ((Below.refl _ _).alloc (Nat.le_refl _) o)
  have hz := ha.z.own ha.b.rr hg (Nat.le_add_right _ _) (by decide) (by decide) (by decide)
  have hk : KB w5 (w5.setCell ⟨S + 1, 6, none⟩ (.slice (some ⟨g, 0, none⟩) (m.rights.length + 1) cap)) := hz.kbset 6 _
  have k1 := (KT.of_own (t := 3) ha.b.rr hg (by decide)).trans hk.i
  have k2 := (KT.of_own (t := 65) ha.b.rr hg (by decide)).trans hk.l
  have k3 := (KT.of_own (t := 77) ha.b.rr hg (by decide)).trans hk.s
  rw [newsR_app] at hown
  have e : (m.rights ++ [(nm, n)]).length = m.rights.length + 1 := by simp
  refine ⟨hz.set 6 _, ⟨ha.b.cs.kt k1, ha.b.mo.kt k1, ?_, by show (m.rights ++ [(nm, n)]).length ≤ _; rw [e]; exact hn, fun x hx => ?_, own_kt ha.b.ll k2, ha.b.ln, fun x hx => ⟨(ha.b.ls x hx).1, (ha.b.ls x hx).2.kt k3⟩, ha.b.si, ha.b.sp⟩⟩
  · show World.ownsRow _ _ _ _ _ (m.rights ++ [(nm, n)]).length _
    rw [e] at hown ⊢
    exact own_kt hown hk.r
  · rcases List.mem_append.1 hx with hx | hx
    · exact ha.b.rs x hx
    · rw [List.mem_singleton.1 hx]; exact hnm
theorem PW.limit {w0 w w5 : World} {S g cap : Nat} {st : Scan} {m : Mat} {x : Lim} (h : PW w0 S w st m) (o : Obj) (hg : (w.alloc o).grownBy w5 m.lv.ownBlock)
    (hown : w5.ownsRow (S + 2) 65 5 (.slice (some ⟨g, 0, none⟩) (m.limits.length + 1) cap) (m.limits.length + 1) (news m.limits.length (csL m.limits) ++ [.string x.id, .int .i64 x.N, .int .i64 x.U, .int .i64 x.f, x.sv])) (hn : m.limits.length + 1 ≤ 1000001) (hi : x.id.size ≤ 1000000) (hx : RHP w x.sv x.stops) :
    PW w0 S (w5.setCell ⟨S + 1, 7, none⟩ (.slice (some ⟨g, 0, none⟩) (m.limits.length + 1) cap)) st { m with lv := .slice (some ⟨g, 0, none⟩) (m.limits.length + 1) cap, limits := m.limits ++ [x] } := by
  have b0 : Below w.heap.size w (w.alloc o) := (Below.refl _ _).alloc (Nat.le_refl _) o
  have ha := h.go b0
  have hz := ha.z.own ha.b.ll hg (Nat.le_add_right _ _) (by decide) (by decide) (by decide)
  have hk : KB w5 (w5.setCell ⟨S + 1, 7, none⟩ (.slice (some ⟨g, 0, none⟩) (m.limits.length + 1) cap)) := hz.kbset 7 _
  have k1 := (KT.of_own (t := 3) ha.b.ll hg (by decide)).trans hk.i
  have k2 := (KT.of_own (t := 41) ha.b.ll hg (by decide)).trans hk.r
  have k3 := (KT.of_own (t := 77) ha.b.ll hg (by decide)).trans hk.s
  rw [newsL_app] at hown
  have e : (m.limits ++ [x]).length = m.limits.length + 1 := by simp
  refine ⟨hz.set 7 _, ⟨ha.b.cs.kt k1, ha.b.mo.kt k1, own_kt ha.b.rr k2, ha.b.rn, ha.b.rs, ?_, by show (m.limits ++ [x]).length ≤ _; rw [e]; exact hn, fun y hy => ?_, ha.b.si, ha.b.sp⟩⟩
  · show World.ownsRow _ _ _ _ _ (m.limits ++ [x]).length _
    rw [e] at hown ⊢
    exact own_kt hown hk.l
  · rcases List.mem_append.1 hy with hy | hy
    · exact ⟨(ha.b.ls y hy).1, (ha.b.ls y hy).2.kt k3⟩
    · rw [List.mem_singleton.1 hy]; exact ⟨hi, (hx.kt (KT.of_below b0)).kt k3⟩
/-- what Parse holds while it reads a limit's stops; wX: the world before the limit's box was made -/
structure PX (w0 : World) (S : Nat) (wX w : World) (st : Scan) (m : Mat) (x : Lim) : Prop where
  z : PZ w0 S w st m.cells
  k : KB wX w
  S2 : S + 1 < wX.heap.size
  box : w.heap[wX.heap.size]? = some (.cells #[.string x.id, .int .i64 x.N, .int .i64 x.U, .int .i64 x.f, x.sv] 65 (0, 0))
  own : w.ownsRow (wX.heap.size + 1) 77 2 x.sv x.stops.length (news x.stops.length (csP x.stops))
theorem PX.new {w0 w : World} {S : Nat} {st : Scan} {m : Mat} {i : ByteArray} {N U f : Int} (h : PW w0 S w st m) : PX w0 S w (w.alloc (.cells #[.string i, .int .i64 N, .int .i64 U, .int .i64 f, .slice none 0 0] 65)) st m ⟨i, N, U, f, .slice none 0 0, []⟩ := by
  have b0 : Below w.heap.size w (w.alloc (.cells #[.string i, .int .i64 N, .int .i64 U, .int .i64 f, .slice none 0 0] 65)) := (Below.refl _ _).alloc (Nat.le_refl _) _
  exact ⟨h.z.go b0, KB.below b0, h.z.lt, Go.heap_alloc_new _ _, World.ownsRow_nil _ _ _ _⟩
theorem PX.go {w0 wX w w' : World} {S : Nat} {st : Scan} {m : Mat} {x : Lim} (h : PX w0 S wX w st m x) (hb : Below w.heap.size w w') : PX w0 S wX w' st m x :=
  ⟨h.z.go hb, h.k.trans (KB.below hb), h.S2, (hb.block _ (Array.getElem?_eq_some_iff.1 h.box).1).trans h.box, own_kt h.own (KT.of_below hb)⟩
theorem xnumber {w0 wX w : World} {S : Nat} {st : Scan} {m : Mat} {x : Lim} (h : PX w0 S wX w st m x) (hE : Env w0.heap.size w0) :
    Calls Tryz.prog 42 #[.pointer (some ⟨S, 0, none⟩)] w fun e w' => e = .returned (.int .i64 st.number.1) ∧ PX w0 S wX w' st.number.2 m x :=
  (number_any S st w _ h.z.sr (h.z.env hE) (Nat.le_of_lt h.z.hS)).mono fun _ _ ⟨h1, h2, h3⟩ => ⟨h1, h.z.read h3 h2, h.k.trans (h.z.sr.kb h3), h.S2,
    (h3.block _ (Array.getElem?_eq_some_iff.1 h.box).1 (by have := h.S2; simp; omega)).trans h.box, own_grown h.own h3 (by have := h.S2; omega)⟩
theorem PX.cell {w0 wX w : World} {S : Nat} {st : Scan} {m : Mat} {x : Lim} (h : PX w0 S wX w st m x) {i : Nat} {v : Value} (hv : #[.string x.id, .int .i64 x.N, .int .i64 x.U, .int .i64 x.f, x.sv][i]? = some v) : w.cell? ⟨wX.heap.size, i, none⟩ = some v := by
  rw [cell_of_row w _ i _ _ _ h.box]; exact hv
theorem PX.frz {w0 wX w : World} {S : Nat} {st : Scan} {m : Mat} {x : Lim} (h : PX w0 S wX w st m x) (i : Nat) : w.frozen? ⟨wX.heap.size, i, none⟩ = false := Lib.frozen_of_heap h.box i
theorem PX.stop {w0 wX w w5 : World} {S g cap : Nat} {st : Scan} {m : Mat} {x : Lim} {a b : Int} (h : PX w0 S wX w st m x) (o : Obj) (hg : (w.alloc o).grownBy w5 x.sv.ownBlock)
    (hown : w5.ownsRow (wX.heap.size + 1) 77 2 (.slice (some ⟨g, 0, none⟩) (x.stops.length + 1) cap) (x.stops.length + 1) (news x.stops.length (csP x.stops) ++ [.int .i64 a, .int .i64 b])) :
    PX w0 S wX (w5.setCell ⟨wX.heap.size, 4, none⟩ (.slice (some ⟨g, 0, none⟩) (x.stops.length + 1) cap)) st m { x with sv := .slice (some ⟨g, 0, none⟩) (x.stops.length + 1) cap, stops := x.stops ++ [(a, b)] } := by
  have ha := h.go ((Below.refl _ _).alloc (Nat.le_refl _) o)
  have hS2 := h.S2
  have hz := ha.z.own ha.own hg (by omega) (by decide) (by decide) (by decide)
  have hr : ∀ k, x.sv.ownBlock = some k → wX.heap.size + 1 ≤ k := own_block_ge ha.own
  have hbox : w5.heap[wX.heap.size]? = some (.cells #[.string x.id, .int .i64 x.N, .int .i64 x.U, .int .i64 x.f, x.sv] 65 (0, 0)) :=
    (hg.block _ (Array.getElem?_eq_some_iff.1 ha.box).1 (fun e => by have := hr _ e.symm; omega)).trans ha.box
  have hs := grownBy_setCellAt w5 wX.heap.size 4 (.slice (some ⟨g, 0, none⟩) (x.stops.length + 1) cap)
  have hk5 : KB wX w5 := ha.k.far hg (fun k hk => by have := hr k hk; omega)
  have hk6 := hk5.far hs (fun k hk => by cases hk; exact Nat.le_refl _)
  have hz6 : PZ w0 S (w5.setCell ⟨wX.heap.size, 4, none⟩ (.slice (some ⟨g, 0, none⟩) (x.stops.length + 1) cap)) st m.cells :=
    hz.kt (KT.of_grown hs hbox (by decide)) (hz.sr.stay (KT.of_grown hs hbox (by decide)) (KT.of_grown hs hbox (by decide))) ((Below.refl _ _).setCell (p := ⟨wX.heap.size, 4, none⟩) (by have := hz.hS; show w0.heap.size ≤ wX.heap.size; omega) _)
  rw [newsP_app] at hown
  have e : (x.stops ++ [(a, b)]).length = x.stops.length + 1 := by simp
  refine ⟨hz6, hk6, hS2, heap_set w5 wX.heap.size 4 _ _ _ _ hbox, ?_⟩
  show World.ownsRow _ _ _ _ _ (x.stops ++ [(a, b)]).length _
  rw [e] at hown ⊢
  exact own_set hown (by omega) 4 _
theorem PX.grown {w0 wX w w5 : World} {S : Nat} {st : Scan} {m : Mat} {x : Lim} (h : PX w0 S wX w st m x) (o : Obj) (hg : (w.alloc o).grownBy w5 x.sv.ownBlock) : w5.heap[wX.heap.size]? = some (.cells #[.string x.id, .int .i64 x.N, .int .i64 x.U, .int .i64 x.f, x.sv] 65 (0, 0)) := by
  have ha := h.go ((Below.refl _ _).alloc (Nat.le_refl _) o)
  exact (hg.block _ (Array.getElem?_eq_some_iff.1 ha.box).1 (fun e => by have := own_block_ge ha.own _ e.symm; omega)).trans ha.box
theorem PX.grow {w0 wX w w5 : World} {S : Nat} {st : Scan} {m : Mat} {x : Lim} (h : PX w0 S wX w st m x) (o : Obj) (hg : (w.alloc o).grownBy w5 x.sv.ownBlock) : w5.cell? ⟨wX.heap.size, 4, none⟩ = some x.sv := by
  rw [cell_of_row _ _ 4 _ _ _ (h.grown o hg)]; rfl
theorem PX.growF {w0 wX w w5 : World} {S : Nat} {st : Scan} {m : Mat} {x : Lim} (h : PX w0 S wX w st m x) (o : Obj) (hg : (w.alloc o).grownBy w5 x.sv.ownBlock) : w5.frozen? ⟨wX.heap.size, 4, none⟩ = false := Lib.frozen_of_heap (h.grown o hg) 4
theorem PX.pw {w0 wX w : World} {S : Nat} {st : Scan} {m : Mat} {x : Lim} (h : PX w0 S wX w st m x) (hb : PB wX (S + 2) m) (hl : x.stops.length ≤ 1000001) : PW w0 S w st m ∧ RHP w x.sv x.stops :=
  ⟨⟨h.z, hb.kb h.k⟩, hl, _, h.own⟩
end Go.Proofs.YtficjcomefaocaaGreatDoor
