/- WALK of lexer.Lex. -/
import Derived.Test.YtficjcomefaocaaGreatDoorLexD
import Derived.RegionIn
namespace Go.Proofs.YtficjcomefaocaaGreatDoor
open Go.RowKit Go.Maps Go.Shelf
open Lexer

attribute [local go_sem] Oper.semAt_some

/-- a token's cells -/
def tokC (x : Fnd) : List Value := [.int .i64 x.kind, .string x.text, .int .i64 x.n, .int .i64 x.pos]
def tokL (pre : List Fnd) : List Value := pre.flatMap tokC
theorem tokL_snoc (pre : List Fnd) (x : Fnd) : tokL (pre ++ [x]) = tokL pre ++ tokC x := by simp [tokL]
theorem tok_news (W : World) (x : Fnd) : ∀ j u, (tokC x)[j]? = some u → (W.alloc (.cells #[.int .i64 x.kind, .string x.text, .int .i64 x.n, .int .i64 x.pos] 131)).cell? ((⟨W.heap.size, 0, none⟩ : Addr).add j) = some u :=
  World.news_of_block (cs := #[.int .i64 x.kind, .string x.text, .int .i64 x.n, .int .i64 x.pos]) (Go.heap_alloc_new _ _)
theorem tok_one (x : Fnd) : ∀ u ∈ tokC x, u.oneCell' = true := fun u hu => by
  simp [tokC] at hu
  rcases hu with rfl | rfl | rfl | rfl <;> rfl
theorem infoTok : (Tryz.prog.info? 131).map (fun i => (i.zero, i.size, i.bytes)) = some (some (.agg #[.int .i64 0, .string ⟨#[]⟩, .int .i64 0, .int .i64 0]), 4, 40) := by kernel_rfl

/-- between two rounds: what was collected; the results' boxes -/
structure LexI (w : World) (n₀ : Nat) (pre : List Fnd) (W : World) : Prop where
  ok : ∀ x ∈ pre, x.err = 0
  few : pre.length ≤ 5000
  out : ∃ v, Boxed W (w.heap.size + 1 + 1 + 1) 127 v ∧ W.ownsRow n₀ 131 4 v pre.length (tokL pre)
  r0 : Boxed W w.heap.size 127 (.slice none 0 0)
  r1 : Boxed W (w.heap.size + 1) 30 (.int .i64 0)
  r2 : Boxed W (w.heap.size + 1 + 1) 3 (.int .i64 0)
  b : Below w.heap.size w W
  n : n₀ ≤ W.heap.size
/-- a round has left: an error, in the results' boxes -/
structure LexX (w : World) (pre : List Fnd) (W : World) : Prop where
  bad : ∃ p x, pre = p ++ [x] ∧ (x.err ≠ 0 ∨ p.length = 5000)
  r0 : Boxed W w.heap.size 127 (.slice none 0 0)
  r1 : ∃ e, e ≠ 0 ∧ Boxed W (w.heap.size + 1) 30 (.int .i64 e)
  r2 : ∃ a, Boxed W (w.heap.size + 1 + 1) 3 (.int .i64 a)
  b : Below w.heap.size w W
theorem boxed_own {X Y : World} {row : Option Nat} {B : Nat} {t : TypeId} {v : Value} (h : Boxed X B t v) (hg : X.grownBy Y row) (hr : ∀ r, row = some r → ∃ o : Obj, X.heap[r]? = some o ∧ o.isCells = false) : Boxed Y B t v :=
  h.kept hg (fun e => by
    obtain ⟨o, ho, hc⟩ := hr B e.symm
    rw [show X.heap[B]? = _ from h] at ho
    cases ho
    cases hc)
theorem lexI_own (w : World) (n₀ B : Nat) (hB : w.heap.size ≤ B) : OwnFrom B (LexI w n₀) := by
  intro s X Y row hs hg hr
  have hr' : ∀ r, row = some r → ∃ o : Obj, X.heap[r]? = some o ∧ o.isCells = false := fun r e => (hr r e).2
  obtain ⟨v, hv, ho⟩ := hs.out
  refine ⟨hs.ok, hs.few, ⟨v, boxed_own hv hg hr', ho.kept hg ?_⟩, boxed_own hs.r0 hg hr', boxed_own hs.r1 hg hr', boxed_own hs.r2 hg hr', hs.b.grown hg hs.b.size (fun k e => Nat.le_trans hB (hr k e).1), Nat.le_trans hs.n hg.size⟩
  rcases ho.2 with ⟨rfl, _⟩ | ⟨g, cap, cur, rfl, _, hgb, _⟩
  · exact .inl rfl
  · refine .inr fun e' => ?_
    obtain ⟨o, ho, hc⟩ := hr' g (by simpa [Value.ownBlock] using e'.symm)
    rw [hgb] at ho; cases ho; cases hc
theorem lexX_own (w : World) (B : Nat) (hB : w.heap.size ≤ B) (c : Code) : OwnFrom B (fun pre W => c = .ret ∧ LexX w pre W) := by
  rintro s X Y row ⟨hc, hs⟩ hg hr
  have hr' : ∀ r, row = some r → ∃ o : Obj, X.heap[r]? = some o ∧ o.isCells = false := fun r e => (hr r e).2
  obtain ⟨e, he, h1⟩ := hs.r1
  obtain ⟨a, h2⟩ := hs.r2
  exact ⟨hc, hs.bad, boxed_own hs.r0 hg hr', ⟨e, he, boxed_own h1 hg hr'⟩, ⟨a, boxed_own h2 hg hr'⟩, hs.b.grown hg hs.b.size (fun k e => Nat.le_trans hB (hr k e).1)⟩
/-- the frame of a round -/
abbrev lexAct (w : World) (s : ByteArray) (tb ab : Nat) (x : Fnd) (Bx : Nat) : Act :=
  { tmps := #[.string s, undef, .pointer (some ⟨w.heap.size, 0, none⟩), .pointer (some ⟨w.heap.size + 1, 0, none⟩), .pointer (some ⟨w.heap.size + 1 + 1, 0, none⟩), .pointer (some ⟨w.heap.size + 1 + 1 + 1, 0, none⟩), .pointer (some ⟨Bx, 0, none⟩), .string s, .int .i64 s.size, .bool false, .string s, .func (.func 128) #[] #[.pointer (some ⟨tb, 0, none⟩), .pointer (some ⟨ab, 0, none⟩)], .agg #[.int .i64 x.kind, .string x.text, .int .i64 x.n, .int .i64 x.pos, .int .i64 x.err], undef, undef, undef, undef, undef, undef, undef, undef, undef, undef, undef, undef, undef, undef, undef, undef, undef, undef, undef, undef, undef, undef], defers := [] }
/-- the loop variable's box -/
def FndAt (x : Fnd) (W : World) (Bx : Nat) : Prop := W.heap[Bx]? = some (.cells #[.int .i64 x.kind, .string x.text, .int .i64 x.n, .int .i64 x.pos, .int .i64 x.err] 153 (0, 0))
theorem fnd_own (B : Nat) (x : Fnd) (P : Act → Nat → Prop) (a' : Act) : OwnFrom B (fun (_ : Unit) W => ∃ Bx, FndAt x W Bx ∧ P a' Bx) := by
  rintro _ X Y row ⟨Bx, hb, hp⟩ hg hr
  have hb' : X.heap[Bx]? = _ := hb
  refine ⟨Bx, (hg.block Bx (Array.getElem?_eq_some_iff.1 hb').1 (fun e => ?_)).trans hb', hp⟩
  obtain ⟨_, o, ho, hc⟩ := hr Bx e.symm
  rw [hb'] at ho
  cases ho
  cases hc
theorem KpT.alloc (lo n₀ : Nat) (A : World) (o : Obj) (h : n₀ ≤ A.heap.size) : KpT lo n₀ A (A.alloc o) :=
  ⟨by simp, fun b _ h2 => Below.heap_alloc A o b (by omega), fun b cs fz hb => (Below.heap_alloc A o b (Array.getElem?_eq_some_iff.1 hb).1).trans hb⟩

/-- 'out = append(out, x)': what the round owes -/
theorem app_out {W w1 : World} {n₀ B : Nat} {t e : TypeId} {size : Nat} {v v' : Value} {k m : Nat} {xs ys : List Value} {tmp : Obj}
    (hv : Boxed W B t v) (hte : t ≠ e) (hrow : W.ownsRow n₀ e size v k xs) (hn : n₀ ≤ W.heap.size) (hown' : w1.ownsRow n₀ e size v' m ys) (hgrow : (W.alloc tmp).grownBy w1 v.ownBlock) :
    Boxed w1 B t v ∧ Boxed (w1.setCell ⟨B, 0, none⟩ v') B t v' ∧ (w1.setCell ⟨B, 0, none⟩ v').ownsRow n₀ e size v' m ys ∧ KeepsOthers W (w1.setCell ⟨B, 0, none⟩ v') ∧
      (∀ b, b < n₀ → b ≠ B → (w1.setCell ⟨B, 0, none⟩ v').heap[b]? = W.heap[b]?) ∧
      (∀ (b : Nat) (cs : Array Value) (t2 : TypeId) (fz : Nat × Nat), t2 ≠ t → t2 ≠ e → W.heap[b]? = some (.cells cs t2 fz) → (w1.setCell ⟨B, 0, none⟩ v').heap[b]? = some (.cells cs t2 fz)) := by
  have hv1 : Boxed w1 B t v := (hv.alloc tmp).kept hgrow (hv.not_row hte hrow)
  have hge : ∀ j, v.ownBlock = some j → n₀ ≤ j := own_block_ge hrow
  refine ⟨hv1, hv1.set v', hown'.kept (grownBy_setCell' w1 B v') (.inr (hv1.not_row hte hown').symm), ?_, fun b hb hne => ?_, fun b cs t2 fz h1 h2 hb => ?_⟩
  · refine ((KeepsOthers.alloc W tmp).trans (KeepsOthers.of_grownBy hgrow fun j o ej hj => ?_)).trans (KeepsOthers.setCell _ _ _)
    rcases (hrow.alloc tmp).2 with ⟨rfl, _⟩ | ⟨g, cap, cur, rfl, _, hgb, _⟩
    · simp [Value.ownBlock] at ej
    · obtain rfl : g = j := by simpa [Value.ownBlock] using ej
      rw [hgb] at hj; cases hj; rfl
  · rw [heap_setCell_other _ _ _ _ hne, hgrow.block b (by simp; omega) (fun e => by have := hge b e.symm; omega)]
    exact Below.heap_alloc W tmp b (by omega)
  · have hlt := (Array.getElem?_eq_some_iff.1 hb).1
    have hne : b ≠ B := fun e => by
      subst e
      have := (show W.heap[b]? = _ from hv).symm.trans hb
      simp at this
      exact h1 this.2.1.symm
    rw [heap_setCell_other _ _ _ _ hne, hgrow.block b (by simp; omega) (fun e => ?_), Below.heap_alloc W tmp b hlt]
    · exact hb
    · rcases hrow.2 with ⟨rfl, _⟩ | ⟨g, cap, cur, rfl, _, hgb, _⟩
      · simp [Value.ownBlock] at e
      · obtain rfl : b = g := by simpa [Value.ownBlock] using e
        have := hgb.symm.trans hb
        simp at this
        exact h2 this.2.1.symm

/-- three variables stored, in whatever order -/
theorem set3 {W : World} {a b c N B : Nat} {ta tb tc : TypeId} {ua ub uc : Value} (va vb vc : Value) (ha : Boxed W a ta ua) (hb : Boxed W b tb ub) (hc : Boxed W c tc uc) (hab : a ≠ b) (hac : a ≠ c) (hbc : b ≠ c)
    (hN : N ≤ a ∧ N ≤ b ∧ N ≤ c) (hB : a < B ∧ b < B ∧ c < B) :
    Boxed (((W.setCell ⟨a, 0, none⟩ va).setCell ⟨b, 0, none⟩ vb).setCell ⟨c, 0, none⟩ vc).drew a ta va ∧ Boxed (((W.setCell ⟨a, 0, none⟩ va).setCell ⟨b, 0, none⟩ vb).setCell ⟨c, 0, none⟩ vc).drew b tb vb ∧ Boxed (((W.setCell ⟨a, 0, none⟩ va).setCell ⟨b, 0, none⟩ vb).setCell ⟨c, 0, none⟩ vc).drew c tc vc ∧
      KeepsFrom B W (((W.setCell ⟨a, 0, none⟩ va).setCell ⟨b, 0, none⟩ vb).setCell ⟨c, 0, none⟩ vc).drew ∧ Below N W (((W.setCell ⟨a, 0, none⟩ va).setCell ⟨b, 0, none⟩ vb).setCell ⟨c, 0, none⟩ vc).drew := by
  refine ⟨((ha.set va).other hab vb).other hac vc, ((hb.other (Ne.symm hab) va).set vb).other hbc vc, ((hc.other (Ne.symm hac) va).other (Ne.symm hbc) vb).set vc, ⟨by simp, fun k o hk ho _ => ?_⟩, ((((Below.refl N W).setCell (p := ⟨a, 0, none⟩) hN.1 va).setCell (p := ⟨b, 0, none⟩) hN.2.1 vb).setCell (p := ⟨c, 0, none⟩) hN.2.2 vc).drew⟩
  show (((W.setCell ⟨a, 0, none⟩ va).setCell ⟨b, 0, none⟩ vb).setCell ⟨c, 0, none⟩ vc).heap[k]? = some o
  rw [heap_setCell_other _ _ _ _ (by show k ≠ c; omega), heap_setCell_other _ _ _ _ (by show k ≠ b; omega), heap_setCell_other _ _ _ _ (by show k ≠ a; omega)]
  exact ho

/-- what the return reads -/
theorem boxed_put {W : World} {B D : Nat} {t : TypeId} {v : Value} (o : Obj) (h : Boxed W B t v) (hne : B ≠ D) : Boxed (W.putObj D o) B t v := (World.putObj_heap_other hne).trans h

/-- what Lex gives -/
def LexOut (s : ByteArray) (e : Ending) (w' : World) : Prop :=
  (∃ T v, e = .returned (.tuple #[v, .int .i64 0, .int .i64 0]) ∧ Came s T ∧ (∀ x ∈ T, x.err = 0) ∧ T.length ≤ 5000 ∧ ∃ base, w'.ownsRow base 131 4 v T.length (tokL T)) ∨
  (∃ v ev a, e = .returned (.tuple #[v, .int .i64 ev, .int .i64 a]) ∧ ev ≠ 0 ∧ ¬ nameS s)

set_option maxHeartbeats 2000000 in
set_option maxRecDepth 100000 in
theorem lex_any (s : ByteArray) (w : World) :
    Calls Tryz.prog 87 #[.string s] w fun e w' => LexOut s e w' ∧ Below w.heap.size w w' := by
  by_cases hs : s.size ≤ 20000
  · refine (callsIn_wide (n := 9)).1 ?_
    have hsd : decide ((20000 : Int) < (s.size : Int)) = false := by simp; omega
    refine callsIn_of_wp_marks Tryz.func87 rfl trivial ?_ rfl
    simp only [Tryz.ntmps87, List.size_toArray, List.length_cons, List.length_nil, Nat.reduceAdd, Nat.reduceSub, Array.replicate_succ, Array.replicate_zero, List.push_toArray, List.append_toArray, List.nil_append, List.cons_append]
    gi_wp2_with (refine ⟨trivial, ?_⟩; gi_at_call 106; refine (callsIn_wide.2 (tokens_any s _)).mono ?_; rintro e w1 ⟨tb, cb, ab, rfl, hL, ht, hc, ha, hb1⟩)
    have hk0 : ∀ (b : Nat) (t : TypeId) (v : Value), Boxed ((((w.alloc (.cells #[.slice none 0 0] 127)).alloc (.cells #[.int .i64 0] 30)).alloc (.cells #[.int .i64 0] 3)).alloc (.cells #[.slice none 0 0] 127)) b t v → Boxed w1 b t v := fun b t v h => (hb1.block b h.lt).trans h
    have hbw : Below w.heap.size w w1 := ((((((Below.refl _ w).alloc (Nat.le_refl _) _).alloc (by simp) _).alloc (by simp; omega) _).alloc (by simp; omega) _).trans (hb1.mono (by simp; omega)))
    simp at ht hc ha
    have hI0 : LexI w w1.heap.size [] w1 := by
      refine ⟨by simp, by simp, ⟨.slice none 0 0, hk0 _ _ _ ?_, World.ownsRow_nil _ _ _ _⟩, hk0 _ _ _ ?_, hk0 _ _ _ ?_, hk0 _ _ _ ?_, hbw, Nat.le_refl _⟩
      · have := Boxed.new (((w.alloc (.cells #[.slice none 0 0] 127)).alloc (.cells #[.int .i64 0] 30)).alloc (.cells #[.int .i64 0] 3)) 127 (.slice none 0 0)
        simpa using this
      · exact (((Boxed.new w 127 (.slice none 0 0)).alloc _).alloc _).alloc _
      · have := ((Boxed.new (w.alloc (.cells #[.slice none 0 0] 127)) 30 (.int .i64 0)).alloc (.cells #[.int .i64 0] 3)).alloc (.cells #[.slice none 0 0] 127)
        simpa using this
      · have := (Boxed.new ((w.alloc (.cells #[.slice none 0 0] 127)).alloc (.cells #[.int .i64 0] 30)) 3 (.int .i64 0)).alloc (.cells #[.slice none 0 0] 127)
        simpa using this
    have hseq : SeqStopsK Fence.wide 8 Tryz.prog 128 #[.pointer (some ⟨tb, 0, none⟩), .pointer (some ⟨ab, 0, none⟩)] encF (KpT (w.heap.size + 4) w1.heap.size) (Came s) (Came s) s.size w1 := by
      intro l J Jx W hW hJ hJx hY h0
      have := iter_in 8 (by omega) s hs l (w.heap.size + 4) w1.heap.size tb cb ab ⟨ht, hL.lt⟩ ⟨hc, hL.lc⟩ ⟨ha, hL.la⟩ J Jx W hW.size hJ hY (hL.below hW hL.lt hL.lc hL.la) h0
      exact this
    have HI0 := Lib.hid hI0
    have HSEQ := Lib.hid hseq
    have HBW := Lib.hid hbw
    have hsz1 : w.heap.size + 4 ≤ w1.heap.size := by have := hb1.size; simpa using this
    have HSZ := Lib.hid hsz1
    clear hI0 hseq hbw hk0 hL ht hc ha hb1 hsz1
    refine wpIn_rangeFunc_ownH rfl (by omega) (gf := 128) (lb := #[.pointer (some ⟨tb, 0, none⟩), .pointer (some ⟨ab, 0, none⟩)]) rfl trivial (enters_of Tryz.func128 (by kernel_rfl) rfl)
      HSEQ.out KpT.trans ?hkb (Below.refl _ _) (fun _ => rfl)
      (LexI w w1.heap.size) (fun c pre W => c = .ret ∧ LexX w pre W) (lexI_own w _ _ HBW.out.size) (lexX_own w _ HBW.out.size) HI0.out
      (fun x a' W => ∃ Bx, FndAt x W Bx ∧ a' = lexAct w s tb ab x Bx) (fun x a' => fnd_own _ x (fun a' Bx => a' = lexAct w s tb ab x Bx) a') ?assign ?body ?done ?stop
    case hkb =>
      intro W l o o' hl hlo hc hw
      refine ⟨by simp, fun b _ h2 => World.putObj_heap_other (by omega), fun b cs fz hb => ?_⟩
      rw [World.putObj_heap_other (fun e => by subst e; rw [hb] at hlo; cases hlo; cases hc)]
      exact hb
    case assign =>
      intro l pre x W K hi hK
      simp only [encF]
      gi_wp2
      exact hK _ _ ((KeepsOthers.alloc _ _).from _) (KpT.alloc _ _ _ _ hi.n) ((lexI_own w _ _ HBW.out.size).alloc _ hi) ⟨W.heap.size, Go.heap_alloc_new _ _, rfl⟩
    case body =>
      rintro l pre x a' W hl ⟨r, hr⟩ hi ⟨Bx, hx, rfl⟩ hlt
      have c0 := cell_of_row _ _ 0 _ _ _ hx
      have c1 := cell_of_row _ _ 1 _ _ _ hx
      have c2 := cell_of_row _ _ 2 _ _ _ hx
      have c3 := cell_of_row _ _ 3 _ _ _ hx
      have c4 := cell_of_row _ _ 4 _ _ _ hx
      simp at c0 c1 c2 c3 c4
      obtain ⟨v, hv, hrow⟩ := hi.out
      have o0 := hv.cell
      have r0 := hi.r0.cell
      have r1 := hi.r1.cell
      have r2 := hi.r2.cell
      have f0 := hi.r0.frozen
      have f1 := hi.r1.frozen
      have f2 := hi.r2.frozen
      have hsz := HSZ.out
      by_cases he : x.err = 0
      · have he1 : ((x.err : Int) != 0) = false := by simpa using he
        have HE := Lib.hid he
        have HI := Lib.hid hi
        clear he hi
        by_cases h5 : pre.length = 5000
        · have h5b : ((pre.length : Int) == 5000) = true := by rw [beq_iff_eq]; omega
          have hvf := World.ownsRow.form hrow (by omega)
          obtain ⟨g, cap, rfl, _, _⟩ := hvf
          gi_wp2
          gi_region
          all_goals gi_wp2
          all_goals first
            | exact (fun z => ⟨z.2.2.2.1, rfl, ⟨pre, x, rfl, .inr h5⟩, z.1, ⟨2, (show (2 : Int) ≠ 0 by decide), z.2.1⟩, ⟨x.pos, z.2.2.1⟩, HI.out.b.trans z.2.2.2.2⟩) (set3 (.slice none 0 0) (.int .i64 2) (.int .i64 x.pos) HI.out.r0 HI.out.r1 HI.out.r2 (by omega) (by omega) (by omega) ⟨by omega, by omega, by omega⟩ ⟨by omega, by omega, by omega⟩)
            | exact (fun z => ⟨z.2.2.2.1, rfl, ⟨pre, x, rfl, .inr h5⟩, z.1, ⟨2, (show (2 : Int) ≠ 0 by decide), z.2.2.1⟩, ⟨x.pos, z.2.1⟩, HI.out.b.trans z.2.2.2.2⟩) (set3 (.slice none 0 0) (.int .i64 x.pos) (.int .i64 2) HI.out.r0 HI.out.r2 HI.out.r1 (by omega) (by omega) (by omega) ⟨by omega, by omega, by omega⟩ ⟨by omega, by omega, by omega⟩)
            | exact (fun z => ⟨z.2.2.2.1, rfl, ⟨pre, x, rfl, .inr h5⟩, z.2.1, ⟨2, (show (2 : Int) ≠ 0 by decide), z.1⟩, ⟨x.pos, z.2.2.1⟩, HI.out.b.trans z.2.2.2.2⟩) (set3 (.int .i64 2) (.slice none 0 0) (.int .i64 x.pos) HI.out.r1 HI.out.r0 HI.out.r2 (by omega) (by omega) (by omega) ⟨by omega, by omega, by omega⟩ ⟨by omega, by omega, by omega⟩)
            | exact (fun z => ⟨z.2.2.2.1, rfl, ⟨pre, x, rfl, .inr h5⟩, z.2.2.1, ⟨2, (show (2 : Int) ≠ 0 by decide), z.1⟩, ⟨x.pos, z.2.1⟩, HI.out.b.trans z.2.2.2.2⟩) (set3 (.int .i64 2) (.int .i64 x.pos) (.slice none 0 0) HI.out.r1 HI.out.r2 HI.out.r0 (by omega) (by omega) (by omega) ⟨by omega, by omega, by omega⟩ ⟨by omega, by omega, by omega⟩)
            | exact (fun z => ⟨z.2.2.2.1, rfl, ⟨pre, x, rfl, .inr h5⟩, z.2.1, ⟨2, (show (2 : Int) ≠ 0 by decide), z.2.2.1⟩, ⟨x.pos, z.1⟩, HI.out.b.trans z.2.2.2.2⟩) (set3 (.int .i64 x.pos) (.slice none 0 0) (.int .i64 2) HI.out.r2 HI.out.r0 HI.out.r1 (by omega) (by omega) (by omega) ⟨by omega, by omega, by omega⟩ ⟨by omega, by omega, by omega⟩)
            | exact (fun z => ⟨z.2.2.2.1, rfl, ⟨pre, x, rfl, .inr h5⟩, z.2.2.1, ⟨2, (show (2 : Int) ≠ 0 by decide), z.2.1⟩, ⟨x.pos, z.1⟩, HI.out.b.trans z.2.2.2.2⟩) (set3 (.int .i64 x.pos) (.int .i64 2) (.slice none 0 0) HI.out.r2 HI.out.r1 HI.out.r0 (by omega) (by omega) (by omega) ⟨by omega, by omega, by omega⟩ ⟨by omega, by omega, by omega⟩)
        · have h5b : ((pre.length : Int) == 5000) = false := by rw [beq_eq_false_iff_ne]; omega
          obtain ⟨i0, hi0, hz0, hz1, hz2⟩ := info_parts infoTok
          have hfew := HI.out.few
          have hn1 := HI.out.n
          have hvf : ∃ A n c, v = .slice A n c ∧ n = pre.length := by
            rcases hrow.2 with ⟨rfl, h0⟩ | ⟨g, cap, cur, rfl, _⟩
            · exact ⟨_, _, _, rfl, h0.symm⟩
            · exact ⟨_, _, _, rfl, rfl⟩
          obtain ⟨A, n, c, rfl, rfl⟩ := hvf
          have HROW := Lib.hid hrow
          have HV := Lib.hid hv
          have HX := Lib.hid hx
          clear hrow hv hx
          gi_wp2_with (gi_at_builtin; refine wpListIn_append_own _ rfl _ _ 127 rfl w1.heap.size 131 i0 (.agg #[.int .i64 0, .string ⟨#[]⟩, .int .i64 0, .int .i64 0]) 4 40 Tryz.underlying127 hi0 hz0 hz1 hz2 rfl (by decide) (.slice A pre.length c) pre.length (tokL pre) rfl (HROW.out.alloc _) ⟨W.heap.size, 0, none⟩ 1 1 (tokC x) rfl rfl (tok_news _ _) (tok_one x) (by unfold maxLen; omega) (by omega) (by have := HI.out.n; simp; omega) ?_; intro v' w2 hown' hgrow _; obtain ⟨g', cap', rfl⟩ := ownsRow_succ hown'; obtain ⟨hv1, hv2, hr2, hk2, hb2, ht2⟩ := app_out HV.out (by decide) HROW.out HI.out.n hown' hgrow; have hc1 := hv1.cell; have hf1 := hv1.frozen)
          refine ⟨hk2.from _, ⟨Nat.le_trans (by simp) (Nat.le_trans hgrow.size (KeepsWalks.setCell _ _ _).size), fun b h1 h2 => hb2 b h2 (by omega), fun b cs fz hb => ht2 b cs _ fz (by decide) (by decide) hb⟩, ?_⟩
          refine ⟨fun y hy => ?_, by simp; omega, ⟨_, hv2, by rw [tokL_snoc]; simpa using hr2⟩, (hb2 _ (by omega) (by omega)).trans HI.out.r0, (hb2 _ (by omega) (by omega)).trans HI.out.r1, (hb2 _ (by omega) (by omega)).trans HI.out.r2, ?_, ?_⟩
          · rcases List.mem_append.1 hy with hy | hy
            · exact HI.out.ok y hy
            · rw [List.mem_singleton.1 hy]; exact HE.out
          · exact HI.out.b.trans ((((Below.refl w.heap.size W).alloc (by omega) _).grown hgrow (by simp; omega) (fun j e => by have := own_block_ge HROW.out j e; omega)).setCell (p := ⟨w.heap.size + 1 + 1 + 1, 0, none⟩) (by show w.heap.size ≤ w.heap.size + 1 + 1 + 1; omega) _)
          · exact Nat.le_trans HI.out.n (Nat.le_trans (by simp) (Nat.le_trans hgrow.size (KeepsWalks.setCell _ _ _).size))
      · have he1 : ((x.err : Int) != 0) = true := by simpa using he
        have HE := Lib.hid he
        have HI := Lib.hid hi
        clear he hi
        gi_wp2
        gi_region
        all_goals gi_wp2
        all_goals first
          | exact (fun z => ⟨z.2.2.2.1, rfl, ⟨pre, x, rfl, .inl HE.out⟩, z.1, ⟨x.err, HE.out, z.2.1⟩, ⟨x.pos, z.2.2.1⟩, HI.out.b.trans z.2.2.2.2⟩) (set3 (.slice none 0 0) (.int .i64 x.err) (.int .i64 x.pos) HI.out.r0 HI.out.r1 HI.out.r2 (by omega) (by omega) (by omega) ⟨by omega, by omega, by omega⟩ ⟨by omega, by omega, by omega⟩)
          | exact (fun z => ⟨z.2.2.2.1, rfl, ⟨pre, x, rfl, .inl HE.out⟩, z.1, ⟨x.err, HE.out, z.2.2.1⟩, ⟨x.pos, z.2.1⟩, HI.out.b.trans z.2.2.2.2⟩) (set3 (.slice none 0 0) (.int .i64 x.pos) (.int .i64 x.err) HI.out.r0 HI.out.r2 HI.out.r1 (by omega) (by omega) (by omega) ⟨by omega, by omega, by omega⟩ ⟨by omega, by omega, by omega⟩)
          | exact (fun z => ⟨z.2.2.2.1, rfl, ⟨pre, x, rfl, .inl HE.out⟩, z.2.1, ⟨x.err, HE.out, z.1⟩, ⟨x.pos, z.2.2.1⟩, HI.out.b.trans z.2.2.2.2⟩) (set3 (.int .i64 x.err) (.slice none 0 0) (.int .i64 x.pos) HI.out.r1 HI.out.r0 HI.out.r2 (by omega) (by omega) (by omega) ⟨by omega, by omega, by omega⟩ ⟨by omega, by omega, by omega⟩)
          | exact (fun z => ⟨z.2.2.2.1, rfl, ⟨pre, x, rfl, .inl HE.out⟩, z.2.2.1, ⟨x.err, HE.out, z.1⟩, ⟨x.pos, z.2.1⟩, HI.out.b.trans z.2.2.2.2⟩) (set3 (.int .i64 x.err) (.int .i64 x.pos) (.slice none 0 0) HI.out.r1 HI.out.r2 HI.out.r0 (by omega) (by omega) (by omega) ⟨by omega, by omega, by omega⟩ ⟨by omega, by omega, by omega⟩)
          | exact (fun z => ⟨z.2.2.2.1, rfl, ⟨pre, x, rfl, .inl HE.out⟩, z.2.1, ⟨x.err, HE.out, z.2.2.1⟩, ⟨x.pos, z.1⟩, HI.out.b.trans z.2.2.2.2⟩) (set3 (.int .i64 x.pos) (.slice none 0 0) (.int .i64 x.err) HI.out.r2 HI.out.r0 HI.out.r1 (by omega) (by omega) (by omega) ⟨by omega, by omega, by omega⟩ ⟨by omega, by omega, by omega⟩)
          | exact (fun z => ⟨z.2.2.2.1, rfl, ⟨pre, x, rfl, .inl HE.out⟩, z.2.2.1, ⟨x.err, HE.out, z.2.1⟩, ⟨x.pos, z.1⟩, HI.out.b.trans z.2.2.2.2⟩) (set3 (.int .i64 x.pos) (.int .i64 x.err) (.slice none 0 0) HI.out.r2 HI.out.r1 HI.out.r0 (by omega) (by omega) (by omega) ⟨by omega, by omega, by omega⟩ ⟨by omega, by omega, by omega⟩)
    case done =>
      rintro D ys W hD hS hi hK
      obtain ⟨v, hv, hrow⟩ := hi.out
      have hvf : ∃ A n c, v = .slice A n c := by
        rcases hrow.2 with ⟨rfl, h0⟩ | ⟨g, cap, cur, rfl, _⟩
        · exact ⟨_, _, _, rfl⟩
        · exact ⟨_, _, _, rfl⟩
      obtain ⟨A, n, c, rfl⟩ := hvf
      have o0 := hv.cell
      have r0 := hi.r0.cell
      have r1 := hi.r1.cell
      have r2 := hi.r2.cell
      have f0 := hi.r0.frozen
      have f1 := hi.r1.frozen
      have f2 := hi.r2.frozen
      have HI := Lib.hid hi
      have HROW := Lib.hid hrow
      have HV := Lib.hid hv
      have HS := Lib.hid hS
      have HK := Lib.hid hK
      clear hi hrow hv hS hK
      gi_wp2
      have hz := HSZ.out
      obtain ⟨q0, q1, q2, _, q4⟩ := set3 (.slice A n c) (.int .i64 0) (.int .i64 0) HI.out.r0 HI.out.r1 HI.out.r2 (by omega) (by omega) (by omega) (N := w.heap.size) (B := w1.heap.size) ⟨by omega, by omega, by omega⟩ ⟨by omega, by omega, by omega⟩
      have hKD : (((W.setCell ⟨w.heap.size, 0, none⟩ (.slice A n c)).setCell ⟨w.heap.size + 1, 0, none⟩ (.int .i64 0)).setCell ⟨w.heap.size + 1 + 1, 0, none⟩ (.int .i64 0)).heap[D]? = some (.deferred (some [])) := by
        rw [heap_setCell_other _ _ _ _ (by show D ≠ w.heap.size + 1 + 1; omega), heap_setCell_other _ _ _ _ (by show D ≠ w.heap.size + 1; omega), heap_setCell_other _ _ _ _ (by show D ≠ w.heap.size; omega)]
        exact HK.out
      have p0 := (boxed_put (D := D) (.deferred none) (show Boxed (((W.setCell ⟨w.heap.size, 0, none⟩ (.slice A n c)).setCell ⟨w.heap.size + 1, 0, none⟩ (.int .i64 0)).setCell ⟨w.heap.size + 1 + 1, 0, none⟩ (.int .i64 0)) _ _ _ from q0) (by omega)).cell
      have p1 := (boxed_put (D := D) (.deferred none) (show Boxed (((W.setCell ⟨w.heap.size, 0, none⟩ (.slice A n c)).setCell ⟨w.heap.size + 1, 0, none⟩ (.int .i64 0)).setCell ⟨w.heap.size + 1 + 1, 0, none⟩ (.int .i64 0)) _ _ _ from q1) (by omega)).cell
      have p2 := (boxed_put (D := D) (.deferred none) (show Boxed (((W.setCell ⟨w.heap.size, 0, none⟩ (.slice A n c)).setCell ⟨w.heap.size + 1, 0, none⟩ (.int .i64 0)).setCell ⟨w.heap.size + 1 + 1, 0, none⟩ (.int .i64 0)) _ _ _ from q2) (by omega)).cell
      refine ⟨by simp, .inl ⟨_, _, rfl, run_takeDeferred hKD, ?_⟩⟩
      refine ⟨.tuple #[.slice A n c, .int .i64 0, .int .i64 0], by simp [results, Tryz.results87, go_sem, p0, p1, p2], .inl ⟨ys, _, rfl, HS.out, HI.out.ok, HI.out.few, w1.heap.size, ?_⟩, ?_⟩
      · have hge := own_block_ge HROW.out
        refine ownsRow_putObj ?_ _ hKD rfl
        exact ((HROW.out.kept (grownBy_setCell' _ _ _) (.inr fun e => by have := hge _ e; omega)).kept (grownBy_setCell' _ _ _) (.inr fun e => by have := hge _ e; omega)).kept (grownBy_setCell' _ _ _) (.inr fun e => by have := hge _ e; omega)
      · have q5 : Below w.heap.size W (((W.setCell ⟨w.heap.size, 0, none⟩ (.slice A n c)).setCell ⟨w.heap.size + 1, 0, none⟩ (.int .i64 0)).setCell ⟨w.heap.size + 1 + 1, 0, none⟩ (.int .i64 0)) := ⟨q4.os, q4.tape, q4.output, q4.size, q4.block⟩
        exact (HI.out.b.trans q5).trans (belowK_b (w := w) (Nat.le_refl _) _ D _ _ (by omega) hKD rfl rfl)
    case stop =>
      rintro D c pre W hD hS ⟨rfl, hx⟩ hK
      have HS := Lib.hid hS
      have HK := Lib.hid hK
      have HX := Lib.hid hx
      clear hS hK hx
      gi_wp2
      obtain ⟨e, he, h1⟩ := HX.out.r1
      obtain ⟨a, h2⟩ := HX.out.r2
      have hz := HSZ.out
      have p0 := (boxed_put (D := D) (.deferred none) HX.out.r0 (by omega)).cell
      have p1 := (boxed_put (D := D) (.deferred none) h1 (by omega)).cell
      have p2 := (boxed_put (D := D) (.deferred none) h2 (by omega)).cell
      refine ⟨by simp, .inl ⟨_, _, rfl, run_takeDeferred HK.out, ?_⟩⟩
      refine ⟨.tuple #[.slice none 0 0, .int .i64 e, .int .i64 a], by simp [results, Tryz.results87, go_sem, p0, p1, p2], .inr ⟨_, e, a, rfl, he, fun hnm => ?_⟩, ?_⟩
      · have hp := HS.out.name hnm
        obtain ⟨p, x, hpx, hbad⟩ := HX.out.bad
        rw [hpx] at hp
        cases p with
        | nil =>
          simp at hp
          subst hp
          rcases hbad with hb | hb
          · exact hb rfl
          · simp at hb
        | cons y r => simp at hp
      · exact HX.out.b.trans (belowK_b (w := w) (Nat.le_refl _) W D _ _ (by omega) HK.out rfl rfl)
  · have hsd : decide ((20000 : Int) < (s.size : Int)) = true := by simp; omega
    have hnn : ¬ nameS s := fun h => by have := h.2.1; omega
    have HN := Lib.hid hnn
    clear hnn
    go_enter Tryz.func87, Tryz.ntmps87
    go_wp2
    refine bodyPost_ret (v := .tuple #[.slice none 0 0, .int .i64 2, .int .i64 (-1)]) (by simp [results, Tryz.results87, go_sem]) rfl ⟨.inr ⟨_, _, _, rfl, by decide, HN.out⟩, ?_⟩
    exact (((Below.refl _ w).alloc (Nat.le_refl _) _).alloc (by simp) _).alloc (by simp; omega) _
end Go.Proofs.YtficjcomefaocaaGreatDoor
