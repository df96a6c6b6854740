/- WALK of matter.Grant. -/
import Derived.Test.YtficjcomefaocaaGreatDoorProper
namespace Go.Proofs.YtficjcomefaocaaGreatDoor
open Go.RowKit Go.Maps
open Lexer

/-- no matter -/
def zeroM : Mat := ⟨⟨#[]⟩, 0, .slice none 0 0, [], ⟨#[]⟩, 0, .slice none 0 0, [], .slice none 0 0, [], .slice none 0 0, []⟩
theorem zeroMR (w : World) (B : Nat) : MR w B zeroM :=
  ⟨⟨none, 0, rfl, by decide, by simp [zeroM], .inl rfl⟩, ⟨none, 0, rfl, by decide, by simp [zeroM], .inl rfl⟩, ⟨rg_nil _ _ _ _ _ _, by simp [zeroM]⟩, ⟨rg_nil _ _ _ _ _ _, by simp [zeroM], by simp [zeroM]⟩, by decide, by decide⟩
/-- the result's variable: a block of eight cells, none frozen -/
structure ZBox (b : Nat) (w : World) : Prop where
  k0 : ∃ v, w.cell? ⟨b, 0, none⟩ = some v
  k1 : ∃ v, w.cell? ⟨b, 1, none⟩ = some v
  k2 : ∃ v, w.cell? ⟨b, 2, none⟩ = some v
  k3 : ∃ v, w.cell? ⟨b, 3, none⟩ = some v
  k4 : ∃ v, w.cell? ⟨b, 4, none⟩ = some v
  k5 : ∃ v, w.cell? ⟨b, 5, none⟩ = some v
  k6 : ∃ v, w.cell? ⟨b, 6, none⟩ = some v
  k7 : ∃ v, w.cell? ⟨b, 7, none⟩ = some v
  fz : ∀ i, w.frozen? ⟨b, i, none⟩ = false
theorem ZBox.new (w : World) : ZBox w.heap.size (w.alloc (.cells zeroM.cells 27)) :=
  ⟨⟨_, by simp [go_sem, zeroM]; rfl⟩, ⟨_, by simp [go_sem, zeroM]; rfl⟩, ⟨_, by simp [go_sem, zeroM]; rfl⟩, ⟨_, by simp [go_sem, zeroM]; rfl⟩, ⟨_, by simp [go_sem, zeroM]; rfl⟩, ⟨_, by simp [go_sem, zeroM]; rfl⟩, ⟨_, by simp [go_sem, zeroM]; rfl⟩, ⟨_, by simp [go_sem, zeroM]; rfl⟩, fun i => by simp [go_sem]⟩
theorem ZBox.below {b B : Nat} {w w' : World} (h : ZBox b w) (hb : Below B w w') (hB : b < B) : ZBox b w' := by
  obtain ⟨⟨v0, k0⟩, ⟨v1, k1⟩, ⟨v2, k2⟩, ⟨v3, k3⟩, ⟨v4, k4⟩, ⟨v5, k5⟩, ⟨v6, k6⟩, ⟨v7, k7⟩, fz⟩ := h
  exact ⟨⟨v0, (hb.cell (p := ⟨b, 0, none⟩) hB).trans k0⟩, ⟨v1, (hb.cell (p := ⟨b, 1, none⟩) hB).trans k1⟩, ⟨v2, (hb.cell (p := ⟨b, 2, none⟩) hB).trans k2⟩, ⟨v3, (hb.cell (p := ⟨b, 3, none⟩) hB).trans k3⟩, ⟨v4, (hb.cell (p := ⟨b, 4, none⟩) hB).trans k4⟩, ⟨v5, (hb.cell (p := ⟨b, 5, none⟩) hB).trans k5⟩, ⟨v6, (hb.cell (p := ⟨b, 6, none⟩) hB).trans k6⟩, ⟨v7, (hb.cell (p := ⟨b, 7, none⟩) hB).trans k7⟩, fun i => (hb.frozen (p := ⟨b, i, none⟩) hB).trans (fz i)⟩
theorem grownBy_setCellAt (W : World) (b i : Nat) (v : Value) : W.grownBy (W.setCell ⟨b, i, none⟩ v) (some b) :=
  ⟨rfl, rfl, rfl, by simp, fun k _ hk => Below.heap_setCell _ _ _ k (fun e => hk (by rw [e]))⟩
theorem own_set {W : World} {base e size n : Nat} {v : Value} {xs : List Value} (h : W.ownsRow base e size v n xs) {b : Nat} (hb : b < base) (i : Nat) (u : Value) : (W.setCell ⟨b, i, none⟩ u).ownsRow base e size v n xs :=
  h.kept (grownBy_setCellAt _ _ _ _) (.inr fun e => by have := own_block_ge h b e; omega)
/-- append of one element out of a fresh block, in a plain region -/
theorem wpList_app (w : World) {ops : Array Oper} {rest : List Oper} {o : Oper} {a : Act} {Q : Exit → Act → World → Prop} (hgd : o.guard = none) (s x : Operand) (t : TypeId)
    (ho : o.op = .call { callee := .builtin .append, args := #[s, x], argTypes := #[t, t] })
    (base : Nat) (e : TypeId) (i : TypeInfo) (z : Value) (size bytes : Nat) (ht : Tryz.prog.underlying t = some (.slice e)) (hi : Tryz.prog.info? e = some i) (hz : i.zero = some z)
    (hsize : i.size = size) (hby : i.bytes = bytes) (hzs : z.cells.size = size) (hsz : 0 < size)
    (v : Value) (n : Nat) (xs : List Value) (hs : a.eval s = v) (hown : w.ownsRow base e size v n xs) (B : Nat) (hx : a.eval x = .slice (some ⟨B, 0, none⟩) 1 1)
    (cs : Array Value) (tt : TypeId) (fr : Nat × Nat) (hl : cs.toList.length = 1 * size) (hb : w.heap[B]? = some (.cells cs tt fr)) (h1 : ∀ u ∈ cs.toList, u.oneCell' = true) (hn : n ≤ 1000) (hb2 : bytes ≤ 1000) (hbase : base ≤ w.heap.size)
    (h : ∀ g cap w', w'.ownsRow base e size (.slice (some ⟨g, 0, none⟩) (n + 1) cap) (n + 1) (xs ++ cs.toList) → Below base w w' → wpList Tryz.prog ops Q rest (a.put o.dst (.slice (some ⟨g, 0, none⟩) (n + 1) cap)) w') :
    wpList Tryz.prog ops Q (o :: rest) a w :=
  wpList_append_lies _ hgd s x t ho base e i z size bytes ht hi hz hsize hby hzs hsz v n xs hs hown ⟨B, 0, none⟩ 1 1 cs.toList hx hl (World.news_of_block hb) h1 (by decide) (by unfold maxLen; omega)
    (Nat.le_trans (Nat.mul_le_mul (show n + 1 ≤ 1001 by omega) hb2) (by decide)) hbase w.heap.size rfl (fun g cap w' h2 h3 _ _ => h g cap w' h2 ((Below.refl base w).grown h3 hbase (own_block_ge hown)))

/-- what Grant says -/
noncomputable def grantE (m : Mat) (r : ByteArray) (day : Int) : Int :=
  if (formedB m && (nameB r && dayB day)) = false then 1 else if hasB m r 1000000 = true then 9 else if day < m.opened then 24 else if 60 ≤ m.rights.length then 2 else 0
noncomputable def grantM (m : Mat) (r : ByteArray) (day : Int) (v : Value) : Mat :=
  if grantE m r day = 0 then { m with rv := v, rights := m.rights ++ [(r, day)] } else zeroM
theorem csR_one (L : List (ByteArray × Int)) : ∀ k, ∀ u ∈ csR L k, u.oneCell' = true := fun k u hu => by
  simp [csR] at hu
  rcases hu with rfl | rfl <;> rfl
theorem getD_app {α : Type} (L : List α) (x d : α) (k : Nat) (hk : k < L.length) : (L ++ [x]).getD k d = L.getD k d := by
  rw [List.getD_eq_getElem?_getD, List.getD_eq_getElem?_getD, List.getElem?_append_left hk]
theorem news_congr {n : Nat} {f g : Nat → List Value} (h : ∀ k, k < n → f k = g k) : news n f = news n g := by
  induction n with
  | zero => rfl
  | succ n ih => rw [news_succ, news_succ, ih (fun k hk => h k (by omega)), h n (by omega)]
theorem newsR_app (L : List (ByteArray × Int)) (r : ByteArray) (d : Int) : news L.length (csR L) ++ [.string r, .int .i64 d] = news (L ++ [(r, d)]).length (csR (L ++ [(r, d)])) := by
  rw [List.length_append, List.length_singleton, news_succ]
  congr 1
  · exact news_congr (fun k hk => by simp only [csR]; rw [getD_app L _ _ k hk])
  · simp [csR]

/-- the world when a result has been stored -/
abbrev gokW (w : World) (a b : Nat) (v0 v1 v2 v3 v4 v5 v6 v7 v8 : Value) : World :=
  ((((((((w.setCell ⟨a, 6, none⟩ v0).setCell ⟨b, 0, none⟩ v1).setCell ⟨b, 1, none⟩ v2).setCell ⟨b, 2, none⟩ v3).setCell ⟨b, 3, none⟩ v4).setCell ⟨b, 4, none⟩ v5).setCell ⟨b, 5, none⟩ v6).setCell ⟨b, 6, none⟩ v7).setCell ⟨b, 7, none⟩ v8
theorem gok_below {n : Nat} {w w5 : World} (h : Below n w w5) (a : Nat) (ha : n ≤ a) (v0 v1 v2 v3 v4 v5 v6 v7 v8 : Value) : Below n w (gokW w5 a (a + 1) v0 v1 v2 v3 v4 v5 v6 v7 v8) :=
  ((((((((h.setCell (p := ⟨a, 6, none⟩) ha v0).setCell (p := ⟨a + 1, 0, none⟩) (by show n ≤ a + 1; omega) v1).setCell (p := ⟨a + 1, 1, none⟩) (by show n ≤ a + 1; omega) v2).setCell (p := ⟨a + 1, 2, none⟩) (by show n ≤ a + 1; omega) v3).setCell (p := ⟨a + 1, 3, none⟩) (by show n ≤ a + 1; omega) v4).setCell (p := ⟨a + 1, 4, none⟩) (by show n ≤ a + 1; omega) v5).setCell (p := ⟨a + 1, 5, none⟩) (by show n ≤ a + 1; omega) v6).setCell (p := ⟨a + 1, 6, none⟩) (by show n ≤ a + 1; omega) v7).setCell (p := ⟨a + 1, 7, none⟩) (by show n ≤ a + 1; omega) v8
theorem gok_own {w5 : World} {base e size n : Nat} {v : Value} {xs : List Value} (h : w5.ownsRow base e size v n xs) {a b : Nat} (ha : a < base) (hb : b < base) (v0 v1 v2 v3 v4 v5 v6 v7 v8 : Value) : (gokW w5 a b v0 v1 v2 v3 v4 v5 v6 v7 v8).ownsRow base e size v n xs :=
  own_set (own_set (own_set (own_set (own_set (own_set (own_set (own_set (own_set h ha 6 v0) hb 0 v1) hb 1 v2) hb 2 v3) hb 3 v4) hb 4 v5) hb 5 v6) hb 6 v7) hb 7 v8
theorem rr_of {w : World} {base : Nat} {v : Value} {L : List (ByteArray × Int)} {r : ByteArray} {d : Int} (h : w.ownsRow base 41 2 v (L.length + 1) (news L.length (csR L) ++ [.string r, .int .i64 d])) (hs : ∀ s ∈ L, s.1.size ≤ 140737488355328) (hr : r.size ≤ 140737488355328) (hn : L.length ≤ 1000) : RR w w.heap.size v (L ++ [(r, d)]) := by
  rw [newsR_app] at h
  have e : (L ++ [(r, d)]).length = L.length + 1 := by simp
  refine ⟨?_, fun s hs' => ?_⟩
  · show RG w w.heap.size v (L ++ [(r, d)]).length 2 (csR (L ++ [(r, d)]))
    rw [e] at h ⊢
    exact RG.of_own (fun _ => rfl) h (by omega)
  · rcases List.mem_append.1 hs' with h1 | h1
    · exact hs s h1
    · rw [List.mem_singleton.1 h1]; exact hr
/-- a slice that is nil or lies in a block from n on -/
def Fresh (n : Nat) (v : Value) : Prop := ∀ k, v.ownBlock = some k → n ≤ k
theorem gex {m : Mat} {r : ByteArray} {day : Int} {w w' : World} (c : Int) (hE : grantE m r day = c) (hc : c ≠ 0) (hb : Below w.heap.size w w') :
    ∃ v, Ending.returned (.tuple #[.agg zeroM.cells, .int .i64 c]) = .returned (.tuple #[.agg (grantM m r day v).cells, .int .i64 (grantE m r day)]) ∧ MR w' w'.heap.size (grantM m r day v) ∧ Below w.heap.size w w' ∧ Fresh w.heap.size v := by
  have hm : ∀ v, grantM m r day v = zeroM := fun v => by unfold grantM; rw [if_neg (by rw [hE]; exact hc)]
  exact ⟨.nilFunc, by rw [hm, hE], by rw [hm]; exact zeroMR _ _, hb, fun k hk => by cases hk⟩
theorem gok {m : Mat} {r : ByteArray} {day : Int} {w w' : World} (v : Value) (hE : grantE m r day = 0) (hb : Below w.heap.size w w') (hgo : MR w' w'.heap.size m) (hr : RR w' w'.heap.size v (m.rights ++ [(r, day)])) (hf : Fresh w.heap.size v) :
    ∃ v', Ending.returned (.tuple #[.agg #[.string m.id, .int .i64 m.opened, m.cv, .string m.proc, .int .i64 m.stage, m.mv, v, m.lv], .int .i64 0]) = .returned (.tuple #[.agg (grantM m r day v').cells, .int .i64 (grantE m r day)]) ∧ MR w' w'.heap.size (grantM m r day v') ∧ Below w.heap.size w w' ∧ Fresh w.heap.size v' := by
  have hm : grantM m r day v = { m with rv := v, rights := m.rights ++ [(r, day)] } := by unfold grantM; rw [if_pos hE]
  exact ⟨v, by rw [hm, hE], by rw [hm]; exact ⟨hgo.cs, hgo.mo, hr, hgo.li, hgo.si, hgo.sp⟩, hb, hf⟩

set_option maxHeartbeats 4000000 in
set_option maxRecDepth 100000 in
theorem grant_any (m : Mat) (r : ByteArray) (day : Int) (w : World) (h : MR w w.heap.size m) (hr : r.size ≤ 140737488355328) :
    Calls Tryz.prog 17 #[.agg m.cells, .string r, .int .i64 day] w fun e w' => ∃ v, e = .returned (.tuple #[.agg (grantM m r day v).cells, .int .i64 (grantE m r day)]) ∧ MR w' w'.heap.size (grantM m r day v) ∧ Below w.heap.size w w' ∧ Fresh w.heap.size v := by
  have hgo : ∀ w', Below w.heap.size w w' → MR w' w'.heap.size m := fun w' hb => h.go hb
  have b0 : Below w.heap.size w ((w.alloc (.cells m.cells 27)).alloc (.cells zeroM.cells 27)) := ((Below.refl _ _).alloc (Nat.le_refl _) _).alloc (by simp) _
  have hm0 := (MBox.new w m).below ((Below.refl _ (w.alloc (.cells m.cells 27))).alloc (Nat.le_refl _) (.cells zeroM.cells 27)) (by simp)
  have hz0 := ZBox.new (w.alloc (.cells m.cells 27))
  rw [World.size_alloc] at hz0
  obtain ⟨A1, p1, e1, l1, _⟩ := id h.cs
  obtain ⟨A2, p2, e2, l2, _⟩ := id h.mo
  obtain ⟨⟨A3, p3, e3, l3, _⟩, hsr⟩ := id h.ri
  obtain ⟨⟨A4, p4, e4, l4, _⟩, _⟩ := id h.li
  obtain ⟨F, hF⟩ : ∃ F, F = formedB m := ⟨_, rfl⟩
  obtain ⟨N, hN⟩ : ∃ F, F = nameB r := ⟨_, rfl⟩
  obtain ⟨D, hD⟩ : ∃ F, F = dayB day := ⟨_, rfl⟩
  obtain ⟨X, hX⟩ : ∃ F, F = hasB m r 1000000 := ⟨_, rfl⟩
  have nF : ∀ w', Below w.heap.size w w' → Calls Tryz.prog 30 #[.agg m.cells] w' fun e w'' => e = .returned (.bool F) ∧ Below w'.heap.size w' w'' := fun w' hb => by rw [hF]; exact formed_any m w' (hgo w' hb)
  have nN : ∀ w', Calls Tryz.prog 52 #[.string r] w' fun e w'' => e = .returned (.bool N) ∧ Below w'.heap.size w' w'' := fun w' => by rw [hN]; exact nameOK r w' hr
  have nD : ∀ w', Calls Tryz.prog 53 #[.int .i64 day] w' fun e w'' => e = .returned (.bool D) ∧ w' = w'' := fun w' => by rw [hD]; exact mis_any day w'
  have nX : ∀ w', Below w.heap.size w w' → Calls Tryz.prog 16 #[.agg m.cells, .string r, .int .i64 1000000] w' fun e w'' => e = .returned (.bool X) ∧ Below w'.heap.size w' w'' := fun w' hb => by rw [hX]; exact has_any m r 1000000 w' (hgo w' hb)
  have hE : grantE m r day = if (F && (N && D)) = false then 1 else if X = true then 9 else if day < m.opened then 24 else if 60 ≤ m.rights.length then 2 else 0 := by rw [hF, hN, hD, hX]; rfl
  -- BEGIN WALK
  obtain ⟨mid, opened, cv, case_, proc, stage, mv, moved, rv, rights, lv, limits⟩ := m
  simp only at e1 e2 e3 e4 hsr
  subst e1 e2 e3 e4
  have HE := Lib.hid hE
  have NF := Lib.hid nF
  have NN := Lib.hid nN
  have ND := Lib.hid nD
  have NX := Lib.hid nX
  have HGO := Lib.hid hgo
  have HM0 := Lib.hid hm0
  have HZ0 := Lib.hid hz0
  have fm0 : ∀ i, ((w.alloc (.cells #[.string mid, .int .i64 opened, .slice A1 case_.length p1, .string proc, .int .i64 stage, .slice A2 moved.length p2, .slice A3 rights.length p3, .slice A4 limits.length p4] 27)).alloc (.cells #[.string ⟨#[]⟩, .int .i64 0, .slice none 0 0, .string ⟨#[]⟩, .int .i64 0, .slice none 0 0, .slice none 0 0, .slice none 0 0] 27)).frozen? ⟨w.heap.size, i, none⟩ = false := fun i => by simp [go_sem]
  have FM0 := Lib.hid fm0
  clear hF hN hD hX nF nN nD nX hE hgo hm0 hz0 h fm0
  simp only [Mat.cells, zeroM] at b0 NF NX HM0 HZ0 ⊢
  go_enter Tryz.func17, Tryz.ntmps17
  go_wp2_with fail
  refine (NF.out _ b0).mono ?_
  rintro e w1 ⟨rfl, b1⟩
  have bw := b0.trans (b1.mono b0.size)
  have hl1 : w.heap.size + 1 < w1.heap.size := by have := b1.size; simp at this; omega
  have hm1 := HM0.out.below b1 (by simp; omega)
  have hz1 := HZ0.out.below b1 (by simp)
  have FM1 := Lib.hid (fun i => (b1.frozen (p := ⟨w.heap.size, i, none⟩) (by simp <;> omega)).trans (FM0.out i))
  have HM1 := Lib.hid hm1
  have HZ1 := Lib.hid hz1
  clear b1 b0 HM0 HZ0 FM0
  obtain ⟨⟨_, k0⟩, ⟨_, k1⟩, ⟨_, k2⟩, ⟨_, k3⟩, ⟨_, k4⟩, ⟨_, k5⟩, ⟨_, k6⟩, ⟨_, k7⟩, fz⟩ := hz1
  have f0 := fz 0
  have f1 := fz 1
  have f2 := fz 2
  have f3 := fz 3
  have f4 := fz 4
  have f5 := fz 5
  have f6 := fz 6
  have f7 := fz 7
  obtain ⟨c0, c1, c2, c3, c4, c5, c6, c7⟩ := hm1
  simp only at c0 c1 c2 c3 c4 c5 c6 c7
  cases F with
  | false =>
    go_wp2
    refine bodyPost_ret (v := .tuple #[.agg #[.string ⟨#[]⟩, .int .i64 0, .slice none 0 0, .string ⟨#[]⟩, .int .i64 0, .slice none 0 0, .slice none 0 0, .slice none 0 0], .int .i64 1]) (by simp [results, Tryz.results17, go_sem, k0, k1, k2, k3, k4, k5, k6, k7]) rfl ?_
    exact gex 1 (by rw [HE.out]; simp) (by decide) ((((((((bw.setCell (p := ⟨w.heap.size + 1, 0, none⟩) (by show w.heap.size ≤ w.heap.size + 1; omega) _).setCell (p := ⟨w.heap.size + 1, 1, none⟩) (by show w.heap.size ≤ w.heap.size + 1; omega) _).setCell (p := ⟨w.heap.size + 1, 2, none⟩) (by show w.heap.size ≤ w.heap.size + 1; omega) _).setCell (p := ⟨w.heap.size + 1, 3, none⟩) (by show w.heap.size ≤ w.heap.size + 1; omega) _).setCell (p := ⟨w.heap.size + 1, 4, none⟩) (by show w.heap.size ≤ w.heap.size + 1; omega) _).setCell (p := ⟨w.heap.size + 1, 5, none⟩) (by show w.heap.size ≤ w.heap.size + 1; omega) _).setCell (p := ⟨w.heap.size + 1, 6, none⟩) (by show w.heap.size ≤ w.heap.size + 1; omega) _).setCell (p := ⟨w.heap.size + 1, 7, none⟩) (by show w.heap.size ≤ w.heap.size + 1; omega) _)
  | true =>
    go_wp2_with fail
    refine (NN.out _).mono ?_
    rintro e w2 ⟨rfl, b2⟩
    have bw2 := bw.trans (b2.mono bw.size)
    have hl2 := Nat.lt_of_lt_of_le hl1 b2.size
    have hm2 := HM1.out.below b2 (Nat.lt_of_succ_lt hl1)
    have hz2 := HZ1.out.below b2 hl1
    have FM2 := Lib.hid (fun i => (b2.frozen (p := ⟨w.heap.size, i, none⟩) (Nat.lt_of_succ_lt hl1)).trans (FM1.out i))
    have HM2 := Lib.hid hm2
    have HZ2 := Lib.hid hz2
    clear b2 bw HM1 HZ1 FM1 hl1 c0 c1 c2 c3 c4 c5 c6 c7 k0 k1 k2 k3 k4 k5 k6 k7 fz f0 f1 f2 f3 f4 f5 f6 f7
    obtain ⟨⟨_, k0⟩, ⟨_, k1⟩, ⟨_, k2⟩, ⟨_, k3⟩, ⟨_, k4⟩, ⟨_, k5⟩, ⟨_, k6⟩, ⟨_, k7⟩, fz⟩ := hz2
    have f0 := fz 0
    have f1 := fz 1
    have f2 := fz 2
    have f3 := fz 3
    have f4 := fz 4
    have f5 := fz 5
    have f6 := fz 6
    have f7 := fz 7
    obtain ⟨c0, c1, c2, c3, c4, c5, c6, c7⟩ := hm2
    simp only at c0 c1 c2 c3 c4 c5 c6 c7
    cases N with
    | false =>
      go_wp2
      refine bodyPost_ret (v := .tuple #[.agg #[.string ⟨#[]⟩, .int .i64 0, .slice none 0 0, .string ⟨#[]⟩, .int .i64 0, .slice none 0 0, .slice none 0 0, .slice none 0 0], .int .i64 1]) (by simp [results, Tryz.results17, go_sem, k0, k1, k2, k3, k4, k5, k6, k7]) rfl ?_
      exact gex 1 (by rw [HE.out]; simp) (by decide) ((((((((bw2.setCell (p := ⟨w.heap.size + 1, 0, none⟩) (by show w.heap.size ≤ w.heap.size + 1; omega) _).setCell (p := ⟨w.heap.size + 1, 1, none⟩) (by show w.heap.size ≤ w.heap.size + 1; omega) _).setCell (p := ⟨w.heap.size + 1, 2, none⟩) (by show w.heap.size ≤ w.heap.size + 1; omega) _).setCell (p := ⟨w.heap.size + 1, 3, none⟩) (by show w.heap.size ≤ w.heap.size + 1; omega) _).setCell (p := ⟨w.heap.size + 1, 4, none⟩) (by show w.heap.size ≤ w.heap.size + 1; omega) _).setCell (p := ⟨w.heap.size + 1, 5, none⟩) (by show w.heap.size ≤ w.heap.size + 1; omega) _).setCell (p := ⟨w.heap.size + 1, 6, none⟩) (by show w.heap.size ≤ w.heap.size + 1; omega) _).setCell (p := ⟨w.heap.size + 1, 7, none⟩) (by show w.heap.size ≤ w.heap.size + 1; omega) _)
    | true =>
      go_wp2_with fail
      refine (ND.out _).mono ?_
      rintro e w3 ⟨rfl, rfl⟩
      cases D with
      | false =>
        go_wp2
        refine bodyPost_ret (v := .tuple #[.agg #[.string ⟨#[]⟩, .int .i64 0, .slice none 0 0, .string ⟨#[]⟩, .int .i64 0, .slice none 0 0, .slice none 0 0, .slice none 0 0], .int .i64 1]) (by simp [results, Tryz.results17, go_sem, k0, k1, k2, k3, k4, k5, k6, k7]) rfl ?_
        exact gex 1 (by rw [HE.out]; simp) (by decide) ((((((((bw2.setCell (p := ⟨w.heap.size + 1, 0, none⟩) (by show w.heap.size ≤ w.heap.size + 1; omega) _).setCell (p := ⟨w.heap.size + 1, 1, none⟩) (by show w.heap.size ≤ w.heap.size + 1; omega) _).setCell (p := ⟨w.heap.size + 1, 2, none⟩) (by show w.heap.size ≤ w.heap.size + 1; omega) _).setCell (p := ⟨w.heap.size + 1, 3, none⟩) (by show w.heap.size ≤ w.heap.size + 1; omega) _).setCell (p := ⟨w.heap.size + 1, 4, none⟩) (by show w.heap.size ≤ w.heap.size + 1; omega) _).setCell (p := ⟨w.heap.size + 1, 5, none⟩) (by show w.heap.size ≤ w.heap.size + 1; omega) _).setCell (p := ⟨w.heap.size + 1, 6, none⟩) (by show w.heap.size ≤ w.heap.size + 1; omega) _).setCell (p := ⟨w.heap.size + 1, 7, none⟩) (by show w.heap.size ≤ w.heap.size + 1; omega) _)
      | true =>
        go_wp2_with fail
        refine (NX.out _ bw2).mono ?_
        rintro e w3 ⟨rfl, b3⟩
        have bw3 := bw2.trans (b3.mono bw2.size)
        have hl3 := Nat.lt_of_lt_of_le hl2 b3.size
        have hm3 := HM2.out.below b3 (Nat.lt_of_succ_lt hl2)
        have hz3 := HZ2.out.below b3 hl2
        have FM3 := Lib.hid (fun i => (b3.frozen (p := ⟨w.heap.size, i, none⟩) (Nat.lt_of_succ_lt hl2)).trans (FM2.out i))
        have HM3 := Lib.hid hm3
        have HZ3 := Lib.hid hz3
        clear b3 bw2 HM2 HZ2 FM2 hl2 c0 c1 c2 c3 c4 c5 c6 c7 k0 k1 k2 k3 k4 k5 k6 k7 fz f0 f1 f2 f3 f4 f5 f6 f7
        obtain ⟨⟨_, k0⟩, ⟨_, k1⟩, ⟨_, k2⟩, ⟨_, k3⟩, ⟨_, k4⟩, ⟨_, k5⟩, ⟨_, k6⟩, ⟨_, k7⟩, fz⟩ := hz3
        have f0 := fz 0
        have f1 := fz 1
        have f2 := fz 2
        have f3 := fz 3
        have f4 := fz 4
        have f5 := fz 5
        have f6 := fz 6
        have f7 := fz 7
        obtain ⟨c0, c1, c2, c3, c4, c5, c6, c7⟩ := hm3
        simp only at c0 c1 c2 c3 c4 c5 c6 c7
        cases X with
        | true =>
          go_wp2
          refine bodyPost_ret (v := .tuple #[.agg #[.string ⟨#[]⟩, .int .i64 0, .slice none 0 0, .string ⟨#[]⟩, .int .i64 0, .slice none 0 0, .slice none 0 0, .slice none 0 0], .int .i64 9]) (by simp [results, Tryz.results17, go_sem, k0, k1, k2, k3, k4, k5, k6, k7]) rfl ?_
          exact gex 9 (by rw [HE.out]; simp) (by decide) ((((((((bw3.setCell (p := ⟨w.heap.size + 1, 0, none⟩) (by show w.heap.size ≤ w.heap.size + 1; omega) _).setCell (p := ⟨w.heap.size + 1, 1, none⟩) (by show w.heap.size ≤ w.heap.size + 1; omega) _).setCell (p := ⟨w.heap.size + 1, 2, none⟩) (by show w.heap.size ≤ w.heap.size + 1; omega) _).setCell (p := ⟨w.heap.size + 1, 3, none⟩) (by show w.heap.size ≤ w.heap.size + 1; omega) _).setCell (p := ⟨w.heap.size + 1, 4, none⟩) (by show w.heap.size ≤ w.heap.size + 1; omega) _).setCell (p := ⟨w.heap.size + 1, 5, none⟩) (by show w.heap.size ≤ w.heap.size + 1; omega) _).setCell (p := ⟨w.heap.size + 1, 6, none⟩) (by show w.heap.size ≤ w.heap.size + 1; omega) _).setCell (p := ⟨w.heap.size + 1, 7, none⟩) (by show w.heap.size ≤ w.heap.size + 1; omega) _)
        | false =>
          by_cases hd : day < opened
          · have hdb : decide (day < opened) = true := by simpa using hd
            go_wp2
            refine bodyPost_ret (v := .tuple #[.agg #[.string ⟨#[]⟩, .int .i64 0, .slice none 0 0, .string ⟨#[]⟩, .int .i64 0, .slice none 0 0, .slice none 0 0, .slice none 0 0], .int .i64 24]) (by simp [results, Tryz.results17, go_sem, k0, k1, k2, k3, k4, k5, k6, k7]) rfl ?_
            exact gex 24 (by rw [HE.out]; simp [hd]) (by decide) ((((((((bw3.setCell (p := ⟨w.heap.size + 1, 0, none⟩) (by show w.heap.size ≤ w.heap.size + 1; omega) _).setCell (p := ⟨w.heap.size + 1, 1, none⟩) (by show w.heap.size ≤ w.heap.size + 1; omega) _).setCell (p := ⟨w.heap.size + 1, 2, none⟩) (by show w.heap.size ≤ w.heap.size + 1; omega) _).setCell (p := ⟨w.heap.size + 1, 3, none⟩) (by show w.heap.size ≤ w.heap.size + 1; omega) _).setCell (p := ⟨w.heap.size + 1, 4, none⟩) (by show w.heap.size ≤ w.heap.size + 1; omega) _).setCell (p := ⟨w.heap.size + 1, 5, none⟩) (by show w.heap.size ≤ w.heap.size + 1; omega) _).setCell (p := ⟨w.heap.size + 1, 6, none⟩) (by show w.heap.size ≤ w.heap.size + 1; omega) _).setCell (p := ⟨w.heap.size + 1, 7, none⟩) (by show w.heap.size ≤ w.heap.size + 1; omega) _)
          · have hdb : decide (day < opened) = false := by simpa using hd
            by_cases hl : 60 ≤ rights.length
            · have hlb : decide ((60 : Int) ≤ (rights.length : Int)) = true := by rw [decide_eq_true_iff]; omega
              go_wp2
              refine bodyPost_ret (v := .tuple #[.agg #[.string ⟨#[]⟩, .int .i64 0, .slice none 0 0, .string ⟨#[]⟩, .int .i64 0, .slice none 0 0, .slice none 0 0, .slice none 0 0], .int .i64 2]) (by simp [results, Tryz.results17, go_sem, k0, k1, k2, k3, k4, k5, k6, k7]) rfl ?_
              exact gex 2 (by rw [HE.out]; simp [hd, hl]) (by decide) ((((((((bw3.setCell (p := ⟨w.heap.size + 1, 0, none⟩) (by show w.heap.size ≤ w.heap.size + 1; omega) _).setCell (p := ⟨w.heap.size + 1, 1, none⟩) (by show w.heap.size ≤ w.heap.size + 1; omega) _).setCell (p := ⟨w.heap.size + 1, 2, none⟩) (by show w.heap.size ≤ w.heap.size + 1; omega) _).setCell (p := ⟨w.heap.size + 1, 3, none⟩) (by show w.heap.size ≤ w.heap.size + 1; omega) _).setCell (p := ⟨w.heap.size + 1, 4, none⟩) (by show w.heap.size ≤ w.heap.size + 1; omega) _).setCell (p := ⟨w.heap.size + 1, 5, none⟩) (by show w.heap.size ≤ w.heap.size + 1; omega) _).setCell (p := ⟨w.heap.size + 1, 6, none⟩) (by show w.heap.size ≤ w.heap.size + 1; omega) _).setCell (p := ⟨w.heap.size + 1, 7, none⟩) (by show w.heap.size ≤ w.heap.size + 1; omega) _)
            · have hlb : decide ((60 : Int) ≤ (rights.length : Int)) = false := by rw [decide_eq_false_iff_not]; omega
              have he0 : (if (true && (true && true)) = false then (1 : Int) else if false = true then 9 else if day < opened then 24 else if 60 ≤ rights.length then 2 else 0) = 0 := by simp [hd, hl]
              have HE0 := Lib.hid (HE.out.trans he0)
              obtain ⟨i0, hi, hz0', hz1', hz2'⟩ := info_parts infoR
              have hn60 : rights.length ≤ 60 := by omega
              clear hd hl he0
              go_wp2_with fail
              refine (cloneR_any _ rights.length (csR rights) _ (HGO.out _ bw3).ri.rg (fun _ => rfl) (csR_one rights) (by omega)).mono ?_
              rintro e w4 ⟨v4, rfl, hown, b4⟩
              have bw4 := bw3.trans (b4.mono bw3.size)
              have hl4 := Nat.lt_of_lt_of_le hl3 b4.size
              have HOWN := Lib.hid hown
              have B4 := Lib.hid b4
              have fm4 := fun i => (b4.frozen (p := ⟨w.heap.size, i, none⟩) (Nat.lt_of_succ_lt hl3)).trans (FM3.out i)
              have hm4 := HM3.out.below b4 (Nat.lt_of_succ_lt hl3)
              have hz4 := HZ3.out.below b4 hl3
              have a4 := (Below.refl w4.heap.size w4).alloc (Nat.le_refl _) (.cells #[.string r, .int .i64 day] 41)
              have HM4 := Lib.hid (hm4.below a4 (Nat.lt_of_succ_lt hl4))
              have HZ4 := Lib.hid (hz4.below a4 hl4)
              have FM4 := Lib.hid (fun i => (a4.frozen (p := ⟨w.heap.size, i, none⟩) (Nat.lt_of_succ_lt hl4)).trans (fm4 i))
              have A4' := Lib.hid a4
              clear hown b4 fm4 hm4 hz4 a4 c0 c1 c2 c3 c4 c5 c6 c7 k0 k1 k2 k3 k4 k5 k6 k7 fz f0 f1 f2 f3 f4 f5 f6 f7
              go_wp2_with (at_builtin; refine wpList_app _ rfl (.tmp 42) (.tmp 46) 24 rfl w3.heap.size 41 i0 (.agg #[.string ByteArray.empty, .int .i64 0]) 2 24 Tryz.underlying24 hi hz0' hz1' hz2' rfl (by decide) v4 rights.length (news rights.length (csR rights)) rfl (HOWN.out.alloc _) w4.heap.size rfl #[.string r, .int .i64 day] 41 (0, 0) rfl (Go.heap_alloc_new _ _) (fun u hu => by simp at hu; rcases hu with rfl | rfl <;> rfl) (by omega) (by decide) (Nat.le_trans B4.out.size (le_alloc _ _)) ?_; intro g cap w5 hown5 b5; have hm5 := HM4.out.below b5 (Nat.lt_of_succ_lt hl3); have hz5 := HZ4.out.below b5 hl3; have fm5 := (b5.frozen (p := ⟨w.heap.size, 6, none⟩) (Nat.lt_of_succ_lt hl3)).trans (FM4.out 6); have HOWN5 := Lib.hid hown5; have B5 := Lib.hid b5; clear hown5 b5; obtain ⟨c0, c1, c2, c3, c4, c5, c6, c7⟩ := hm5; simp only at c0 c1 c2 c3 c4 c5 c6 c7; obtain ⟨⟨_, k0⟩, ⟨_, k1⟩, ⟨_, k2⟩, ⟨_, k3⟩, ⟨_, k4⟩, ⟨_, k5⟩, ⟨_, k6⟩, ⟨_, k7⟩, fz⟩ := hz5; have f0 := fz 0; have f1 := fz 1; have f2 := fz 2; have f3 := fz 3; have f4 := fz 4; have f5 := fz 5; have f6 := fz 6; have f7 := fz 7)
              have bw5 : Below w.heap.size w w5 := (bw4.trans (A4'.out.mono bw4.size)).trans (B5.out.mono bw3.size)
              have hA : w.heap.size < w3.heap.size := Nat.lt_of_succ_lt hl3
              have hB : w.heap.size + 1 < w3.heap.size := hl3
              refine bodyPost_ret (v := .tuple #[.agg #[.string mid, .int .i64 opened, .slice A1 case_.length p1, .string proc, .int .i64 stage, .slice A2 moved.length p2, .slice (some ⟨g, 0, none⟩) (rights.length + 1) cap, .slice A4 limits.length p4], .int .i64 0]) (by simp [results, Tryz.results17, go_sem, k0, k1, k2, k3, k4, k5, k6, k7]) rfl ?_
              have hbf := fun v0 v1 v2 v3 v4 v5 v6 v7 v8 : Value => (gok_below bw5 (w.heap.size) (Nat.le_refl _) v0 v1 v2 v3 v4 v5 v6 v7 v8)
              have hof := fun v0 v1 v2 v3 v4 v5 v6 v7 v8 : Value => (gok_own HOWN5.out hA hB v0 v1 v2 v3 v4 v5 v6 v7 v8)
              exact gok (m := ⟨mid, opened, .slice A1 case_.length p1, case_, proc, stage, .slice A2 moved.length p2, moved, .slice A3 rights.length p3, rights, .slice A4 limits.length p4, limits⟩) _ HE0.out (hbf _ _ _ _ _ _ _ _ _) (HGO.out _ (hbf _ _ _ _ _ _ _ _ _)) (rr_of (hof _ _ _ _ _ _ _ _ _) hsr hr (by show rights.length ≤ 1000; omega)) (fun k hk => Nat.le_trans bw3.size (own_block_ge (hof (.nilFunc) .nilFunc .nilFunc .nilFunc .nilFunc .nilFunc .nilFunc .nilFunc .nilFunc) k hk))
end Go.Proofs.YtficjcomefaocaaGreatDoor
