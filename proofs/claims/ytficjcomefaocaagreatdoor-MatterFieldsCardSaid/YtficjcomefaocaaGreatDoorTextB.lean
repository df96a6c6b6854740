/- WALK of matter.Text. -/
import Derived.Test.YtficjcomefaocaaGreatDoorTextP
namespace Go.Proofs.YtficjcomefaocaaGreatDoor
open Go.RowKit Go.Maps
open Lexer

set_option maxHeartbeats 4000000 in
set_option maxRecDepth 100000 in
theorem text_no (m : Mat) (w : World) (h : MR w w.heap.size m) (hf : formedB m = false) :
    Calls Tryz.prog 11 #[.agg m.cells] w fun e w' => e = .returned (.tuple #[.string ⟨#[]⟩, .int .i64 1]) ∧ Below w.heap.size w w' := by
  have b0 : Below w.heap.size w (w.alloc (.cells m.cells 27)) := (Below.refl _ _).alloc (Nat.le_refl _) _
  have nF := formed_any m _ (h.go b0)
  have hm0 := MBox.new w m
  rw [hf] at nF
  obtain ⟨A1, p1, e1, l1, _⟩ := id h.cs
  obtain ⟨A2, p2, e2, l2, _⟩ := id h.mo
  obtain ⟨⟨A3, p3, e3, l3, _⟩, hsr⟩ := id h.ri
  obtain ⟨⟨A4, p4, e4, l4, _⟩, _⟩ := id h.li
  obtain ⟨mid, opened, cv, case_, proc, stage, mv, moved, rv, rights, lv, limits⟩ := m
  simp only at e1 e2 e3 e4 hsr
  subst e1 e2 e3 e4
  have NF := Lib.hid nF
  have HM0 := Lib.hid hm0
  clear hf nF hm0 h
  simp only [Mat.cells] at b0 NF HM0 ⊢
  go_enter Tryz.func11, Tryz.ntmps11
  have hm1 := HM0.out
  obtain ⟨c0, c1, c2, c3, c4, c5, c6, c7⟩ := hm1
  simp only at c0 c1 c2 c3 c4 c5 c6 c7
  go_wp2_with fail
  refine NF.out.mono ?_
  rintro e w1 ⟨rfl, b1⟩
  have bw := b0.trans (b1.mono b0.size)
  clear b1 b0
  go_wp2
  go_ret2
  exact ⟨rfl, bw⟩

theorem line_at (B b : Nat) (l : List UInt8) (first : ByteArray) (v : Value) (L : List Int) (wB W : World) (hE : Env B wB) (hk : Kept B b wB W) (h : IsB B b l W) (hBw : B ≤ wB.heap.size)
    (hlen : l.length + first.size + 22 * L.length + 1 ≤ 140737488355328) (hL : ∀ w', Kept B b W w' → RI w' w'.heap.size v L) :
    Calls Tryz.prog 31 #[.string first, v, .pointer (some ⟨b, 0, none⟩)] W fun e w' => e = .returned (.tuple #[]) ∧ AtB B b (l ++ lineL first.data.toList L) w' ∧ Kept B b wB w' :=
  (line_any B b l first v L W (hE.on hk.bel) h (Nat.le_trans hBw hk.bel.size) hlen hL).mono fun _ _ ⟨h1, h2, h3⟩ => ⟨h1, h2, hk.trans h3⟩
/-- a block of numbers stays -/
theorem ri_block {B b q : Nat} {W : World} {L : List Int} {cap : Nat} (hq : W.heap[q]? = some (.cells (L.map (Value.int .i64)).toArray 3 (0, 0))) (hne : q ≠ b) (hl : L.length * 8 ≤ 140737488355328) (hwf : ∀ x ∈ L, (Lit.int .i64 x).wf = true) :
    ∀ w', Kept B b W w' → RI w' w'.heap.size (.slice (some ⟨q, 0, none⟩) L.length cap) L := fun w' hk => by
  have h1 := hk.oth q _ hq (by simpa using hne) (fun c fz e => by simp only [Obj.cells.injEq] at e; exact absurd e.2.1 (by decide))
  refine ⟨_, cap, rfl, hl, hwf, .inr ⟨q, 0, rfl, (Array.getElem?_eq_some_iff.1 h1).1, fun k hk => ?_⟩⟩
  rw [cell_of_row w' q (0 + k) _ _ _ h1]
  simp [hk]
/-- a row of numbers of the call's own stays -/
theorem ri_row {B b base : Nat} {W : World} {v : Value} {L : List Int} (h : W.ownsRow base 3 1 v L.length (L.map (Value.int .i64))) (hne : b < base) (hl : L.length * 8 ≤ 140737488355328) (hwf : ∀ x ∈ L, (Lit.int .i64 x).wf = true) :
    ∀ w', Kept B b W w' → RI w' w'.heap.size v L := fun w' hk => by
  rcases h.2 with ⟨rfl, h0⟩ | ⟨g, cap, cur, rfl, hb, hg, h1, h2, h3, h4⟩
  · exact ⟨none, 0, by rw [h0], hl, hwf, .inl (List.eq_nil_of_length_eq_zero h0)⟩
  · have hg' := hk.oth g _ hg (by simp; omega) (fun c fz e => by simp only [Obj.cells.injEq] at e; exact absurd e.2.1 (by decide))
    refine ⟨_, cap, rfl, hl, hwf, .inr ⟨g, 0, rfl, (Array.getElem?_eq_some_iff.1 hg').1, fun k hk => ?_⟩⟩
    rw [cell_of_row w' g (0 + k) _ _ _ hg']
    have e : cur.toList[k]? = (L.map (Value.int .i64))[k]? := by
      rw [← h4, List.getElem?_take]
      simp; omega
    rw [Nat.zero_add, ← Array.getElem?_toList, e, getD_eq L 0 hk]
    simp [hk]
/-- append of m elements out of a fresh block, in a plain region -/
theorem wpList_appN (w : World) {ops : Array Oper} {rest : List Oper} {o : Oper} {a : Act} {Q : Exit → Act → World → Prop} (hgd : o.guard = none) (s x : Operand) (t : TypeId)
    (ho : o.op = .call { callee := .builtin .append, args := #[s, x], argTypes := #[t, t] })
    (base : Nat) (e : TypeId) (i : TypeInfo) (z : Value) (size bytes : Nat) (ht : Tryz.prog.underlying t = some (.slice e)) (hi : Tryz.prog.info? e = some i) (hz : i.zero = some z)
    (hsize : i.size = size) (hby : i.bytes = bytes) (hzs : z.cells.size = size) (hsz : 0 < size)
    (v : Value) (n m : Nat) (xs : List Value) (hs : a.eval s = v) (hown : w.ownsRow base e size v n xs) (B : Nat) (hm : 0 < m) (hx : a.eval x = .slice (some ⟨B, 0, none⟩) m m)
    (cs : Array Value) (tt : TypeId) (fr : Nat × Nat) (hl : cs.toList.length = m * size) (hb : w.heap[B]? = some (.cells cs tt fr)) (h1 : ∀ u ∈ cs.toList, u.oneCell' = true) (hn : n + m ≤ 2000000) (hb2 : bytes ≤ 1000) (hbase : base ≤ w.heap.size)
    (h : ∀ g cap w', w'.ownsRow base e size (.slice (some ⟨g, 0, none⟩) (n + m) cap) (n + m) (xs ++ cs.toList) → Below base w w' → wpList Tryz.prog ops Q rest (a.put o.dst (.slice (some ⟨g, 0, none⟩) (n + m) cap)) w') :
    wpList Tryz.prog ops Q (o :: rest) a w :=
  wpList_append_lies _ hgd s x t ho base e i z size bytes ht hi hz hsize hby hzs hsz v n xs hs hown ⟨B, 0, none⟩ m m cs.toList hx hl (World.news_of_block hb) h1 hm (by unfold maxLen; omega)
    (Nat.le_trans (Nat.mul_le_mul hn hb2) (by decide)) hbase w.heap.size rfl (fun g cap w' h2 h3 _ _ => h g cap w' h2 ((Below.refl base w).grown h3 hbase (own_block_ge hown)))
theorem head_bytes (mid proc : ByteArray) (opened : Int) :
    (((((⟨#[109, 97, 116, 116, 101, 114, 32]⟩ : ByteArray) ++ mid) ++ ⟨#[32]⟩) ++ ⟨(Lib.itoa opened).toArray⟩ ++ ⟨#[32]⟩) ++ proc).data.toList = sMatter ++ (mid.data.toList ++ (32 :: (Lib.itoa opened ++ (32 :: proc.data.toList)))) := by
  simp [ByteArray.data_append, sMatter]
end Go.Proofs.YtficjcomefaocaaGreatDoor
