/- append of a slice of ints that came in (nil, empty or not) onto a row of the call's own: the law at a step of a region that draws its order. -/
import Derived.Test.YtpelnfolnlmhdaaDoorCalF
import Derived.Maps.AppendAt
import Derived.RegionTactic
namespace Go.Proofs.YtpelnfolnlmhdaaDoor
open Go.RowKit

theorem infoIntA : (Tryd.prog.info? 3).map (fun i => (i.zero, i.size, i.bytes)) = some (some (.int .i64 0), 1, 8) := by kernel_rfl

theorem own_block_ge {w : World} {base e size n : Nat} {v : Value} {xs : List Value} (h : w.ownsRow base e size v n xs) (k : Nat) (hk : v.ownBlock = some k) : base ≤ k := by
  rcases h.2 with ⟨rfl, _⟩ | ⟨g, cap, cur, rfl, hb, _⟩
  · simp [Value.ownBlock] at hk
  · simp [Value.ownBlock] at hk; omega

theorem run_append_ri (w : World) (base B n m c : Nat) (ty : TypeId) (v : Value) (xs : List Value) (A : Option Addr) (L : List Int) (hown : w.ownsRow base 3 1 v n xs) (hri : RI w B (.slice A m c) L) (hn : n ≤ 1000) (hm : L.length ≤ 1000) (hbase : base ≤ w.heap.size) :
    ∃ v' w', (Builtin.append_ #[24, 24] ty #[v, .slice A m c]).run Tryd.prog w = .ok v' w' ∧ w'.ownsRow base 3 1 v' (n + m) (xs ++ L.map (Value.int .i64)) ∧ w.grownBy w' v.ownBlock := by
  obtain ⟨i0, hi, hz0, hz1, hz2⟩ := info_parts infoIntA
  obtain ⟨A', c', he, _, _, hc⟩ := hri
  simp only [Value.slice.injEq] at he
  obtain ⟨rfl, rfl, rfl⟩ := he
  rcases hc with rfl | ⟨b, off, rfl, _, hcell⟩
  · rcases A with _ | ad
    · refine ⟨v, w, ?_, by simpa using hown, World.grownBy.refl w _⟩
      rcases hown.2 with ⟨rfl, rfl⟩ | ⟨g, cap, cur, rfl, _, _, hnc, _⟩
      · simp [Builtin.append_, run_underlying Tryd.underlying24, sizeOf, typeInfo, hi, Builtin.lenOf, Builtin.firstCells]
      · simp [Builtin.append_, run_underlying Tryd.underlying24, sizeOf, typeInfo, hi, Builtin.lenOf, Builtin.firstCells, hnc, storeCells]
    · obtain ⟨v', w', h1, h2, h3, _⟩ := run_append_own_at (P := Tryd.prog) w base 24 ty 3 i0 (.int .i64 0) 1 8 Tryd.underlying24 hi hz0 hz1 hz2 rfl (by omega) v n xs hown ad 0 c [] rfl (fun j u hu => by simp at hu) (fun u hu => by cases hu) (by unfold maxLen; omega) (by omega) hbase
      exact ⟨v', w', h1, by simpa using h2, h3⟩
  · obtain ⟨v', w', h1, h2, h3, _⟩ := run_append_own_at (P := Tryd.prog) w base 24 ty 3 i0 (.int .i64 0) 1 8 Tryd.underlying24 hi hz0 hz1 hz2 rfl (by omega) v n xs hown ⟨b, off, none⟩ L.length c (L.map (Value.int .i64)) (by simp) (fun j u hu => by
        have hj : j < L.length := by have := (List.getElem?_eq_some_iff.1 hu).1; simpa using this
        have hadd : (⟨b, off, none⟩ : Addr).add j = ⟨b, off + j, none⟩ := by unfold Addr.add; split <;> simp_all
        rw [hadd, hcell j hj, ← hu, List.getElem?_map, List.getD_eq_getElem?_getD, List.getElem?_eq_getElem hj]
        rfl) (fun u hu => by obtain ⟨x, _, rfl⟩ := List.mem_map.1 hu; rfl) (by unfold maxLen; omega) (by omega) hbase
    exact ⟨v', w', h1, h2, h3⟩

/-- at a step of a region that draws its order -/
theorem step_append_ri (w w0 : World) {ops : Array Oper} {o : Oper} {a : Act} {K : Act → World → Prop} {Q : Exit → Act → World → Prop} {E : Prop} (hgd : o.guard = none) (s x : Operand)
    (ho : o.op = .call { callee := .builtin .append, args := #[s, x], argTypes := #[24, 24] }) (base B n m c : Nat) (v : Value) (xs : List Value) (A : Option Addr) (L : List Int)
    (hs : a.eval s = v) (hown : w.ownsRow base 3 1 v n xs) (hx : a.eval x = .slice A m c) (hri : RI w B (.slice A m c) L) (hn : n ≤ 1000) (hm : L.length ≤ 1000) (hbase : base ≤ w.heap.size) (hb : Below base w0 w)
    (h : ∀ v' w', w'.ownsRow base 3 1 v' (n + m) (xs ++ L.map (Value.int .i64)) → Below base w0 w' → w.grownBy w' v.ownBlock → K (a.put o.dst v') w') :
    if Region.wanted o (yielded ops a.tmps) = true then Oper.wp Tryd.prog o a w K Q else E := by
  have hw : Region.wanted o (yielded ops a.tmps) = true := by simp [Region.wanted, hgd]
  rw [if_pos hw]
  obtain ⟨v', w', hrun, h1, h2⟩ := run_append_ri w base B n m c o.type v xs A L hown hri hn hm hbase
  unfold Oper.wp execOp
  simp only [ho, resolve, invoke, builtin, Sem.run_bind, Sem.run_pure, Result.andThen_ok, List.map_toArray, List.map_cons, List.map_nil, hs, hx, hrun]
  exact h v' w' h1 (hb.trans ((Below.refl base w).grown h2 hbase (own_block_ge hown))) h2

theorem ri_one (w : World) (x : Int) (hx : (Lit.int .i64 x).wf = true) : RI (w.alloc (.cells #[.int .i64 x] 3)) (w.heap.size + 1) (.slice (some ⟨w.heap.size, 0, none⟩) 1 1) [x] :=
  ⟨_, 1, rfl, by simp, by intro y hy; simp at hy; subst hy; exact hx, .inr ⟨_, 0, rfl, by omega, by intro k hk; simp at hk; subst hk; simp [go_sem]⟩⟩
theorem ri_one_kept {w w' : World} {g : Nat} {x : Int} {row : Option Nat} (hg : w.grownBy w' row) (hh : w.heap[g]? = some (.cells #[.int .i64 x] 3 (0, 0))) (hne : some g ≠ row) (hx : (Lit.int .i64 x).wf = true) :
    RI w' (g + 1) (.slice (some ⟨g, 0, none⟩) 1 1) [x] := by
  have hlt := (Array.getElem?_eq_some_iff.1 hh).1
  have hc : w'.heap[g]? = some (.cells #[.int .i64 x] 3 (0, 0)) := (hg.block g hlt hne).trans hh
  refine ⟨_, 1, rfl, by simp, by intro y hy; simp at hy; subst hy; exact hx, .inr ⟨g, 0, rfl, by omega, ?_⟩⟩
  intro k hk
  simp at hk
  subst hk
  rw [cell_of_row w' g _ _ _ _ hc]
  rfl
theorem ne_b (n a b : Nat) : some (n + 1) ≠ Value.ownBlock (.slice (some ⟨n, 0, none⟩) a b) := by simp [Value.ownBlock]
theorem ne_c (n a b : Nat) : some n ≠ Value.ownBlock (.slice (some ⟨n + 1, 0, none⟩) a b) := by simp [Value.ownBlock]
theorem le_alloc (w : World) (o : Obj) : w.heap.size ≤ (w.alloc o).heap.size := by simp
theorem kept_b (w : World) (x : Int) : ((w.alloc (.cells #[] 3)).alloc (.cells #[.int .i64 x] 3)).heap[w.heap.size + 1]? = some (.cells #[.int .i64 x] 3 (0, 0)) := heap_alloc2_new _ _ _
theorem kept_c (w : World) (x : Int) : ((w.alloc (.cells #[.int .i64 x] 3)).alloc (.cells #[] 3)).heap[w.heap.size]? = some (.cells #[.int .i64 x] 3 (0, 0)) := heap_alloc2_old _ _ _
end Go.Proofs.YtpelnfolnlmhdaaDoor
