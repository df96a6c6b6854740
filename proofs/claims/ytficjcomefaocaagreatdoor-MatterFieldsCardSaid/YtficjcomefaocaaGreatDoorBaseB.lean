/- MERGED (Clone, Pause, Sorted, HasMove, DiffS, DiffP, DiffR, DiffL): WALKS of slices.Clone at ints, stops, rights: the same cells in a row of the call's own. -/
import Derived.Test.YtficjcomefaocaaGreatDoorBaseA
import Derived.Deep.AppendLies
import Derived.Deep.RegionHeld3
import Derived.Deep.RegionLaw
import Derived.Deep.DeepCutAuto
import Derived.Lib.SliceRun
import Derived.OwnWalk
import Derived.Deep.QuietTactic
import Derived.BigQuiet
import Derived.WalkSmall
import Derived.Laws.StructEq
/- WALKS of slices.Clone at ints, stops, rights: the same cells in a row of the call's own. -/
namespace Go.Proofs.YtficjcomefaocaaGreatDoor
open Go.RowKit Go.Maps

/-- the cells of n elements -/
def news (n : Nat) (cs : Nat → List Value) : List Value := (List.range n).flatMap cs
theorem news_succ (n : Nat) (cs : Nat → List Value) : news (n + 1) cs = news n cs ++ cs n := by simp [news, List.range_succ]
theorem news_len {n c : Nat} {cs : Nat → List Value} (hc : ∀ k, (cs k).length = c) : (news n cs).length = n * c := by
  induction n with
  | zero => simp [news]
  | succ n ih => rw [news_succ, List.length_append, ih, hc, Nat.succ_mul]
theorem news_at {n c : Nat} {cs : Nat → List Value} (hc : ∀ k, (cs k).length = c) {j : Nat} {u : Value} (h : (news n cs)[j]? = some u) : ∃ k i, k < n ∧ j = k * c + i ∧ (cs k)[i]? = some u := by
  induction n with
  | zero => simp [news] at h
  | succ n ih =>
    rw [news_succ] at h
    rcases Nat.lt_or_ge j (news n cs).length with hl | hl
    · rw [List.getElem?_append_left hl] at h
      obtain ⟨k, i, hk, hj, hu⟩ := ih h
      exact ⟨k, i, by omega, hj, hu⟩
    · rw [List.getElem?_append_right hl] at h
      rw [news_len hc] at hl h
      exact ⟨n, j - n * c, by omega, by omega, h⟩
theorem news_get {n c : Nat} {cs : Nat → List Value} (hc : ∀ k, (cs k).length = c) {k i : Nat} {u : Value} (hk : k < n) (h : (cs k)[i]? = some u) : (news n cs)[k * c + i]? = some u := by
  induction n with
  | zero => omega
  | succ n ih =>
    have hi : i < c := by rw [← hc k]; exact (List.getElem?_eq_some_iff.1 h).1
    rw [news_succ]
    by_cases e : k = n
    · subst e
      rw [List.getElem?_append_right (by rw [news_len hc]; omega), news_len hc, show k * c + i - k * c = i by omega]
      exact h
    · rw [List.getElem?_append_left (by
        rw [news_len hc]
        have : (k + 1) * c ≤ n * c := Nat.mul_le_mul_right c (by omega)
        rw [Nat.succ_mul] at this
        omega)]
      exact ih (by omega)
theorem news_mem {n : Nat} {cs : Nat → List Value} {u : Value} (h : u ∈ news n cs) : ∃ k, k < n ∧ u ∈ cs k := by
  simp [news] at h
  exact h
/-- what a slice's row holds, as a walk's append asks it -/
theorem RG.hnews {w : World} {B n c : Nat} {cap : Nat} {cs : Nat → List Value} (hc : ∀ k, (cs k).length = c) {a : Addr} (h : RG w B (.slice (some a) n cap) n c cs) : ∀ j u, (news n cs)[j]? = some u → w.cell? (a.add j) = some u := by
  intro j u hu
  obtain ⟨k, i, hk, rfl, hi⟩ := news_at hc hu
  obtain ⟨A', cap', hv, _, h⟩ := h
  simp only [Value.slice.injEq] at hv
  obtain ⟨rfl, _, _⟩ := hv
  rcases h with h | ⟨b, off, ha, _, hcell⟩
  · omega
  · simp only [Option.some.injEq] at ha
    subst ha
    have hadd : (⟨b, off, none⟩ : Addr).add (k * c + i) = ⟨b, off + k * c + i, none⟩ := by unfold Addr.add; split <;> simp_all <;> omega
    rw [hadd]
    exact hcell k hk i u hi
/-- a row of the call's own reads as elements -/
theorem RG.of_own {w : World} {base e c n : Nat} {v : Value} {cs : Nat → List Value} (hc : ∀ k, (cs k).length = c) (h : w.ownsRow base e c v n (news n cs)) (hn : n ≤ 140737488355328) : RG w w.heap.size v n c cs := by
  rcases h.2 with ⟨rfl, h0⟩ | ⟨g, cap, cur, rfl, _, hg, _⟩
  · subst h0; exact ⟨none, 0, rfl, hn, .inl rfl⟩
  · have hlt := (Array.getElem?_eq_some_iff.1 hg).1
    refine ⟨some ⟨g, 0, none⟩, cap, rfl, hn, ?_⟩
    by_cases h0 : n = 0
    · exact .inl h0
    · refine .inr ⟨g, 0, rfl, hlt, fun k hk j x hx => ?_⟩
      have hj : j < c := by rw [← hc k]; exact (List.getElem?_eq_some_iff.1 hx).1
      have hlt2 : k * c + j < n * c := by
        have : (k + 1) * c ≤ n * c := Nat.mul_le_mul_right c hk
        rw [Nat.succ_mul] at this
        omega
      rw [show 0 + k * c + j = k * c + j by omega, h.cellAt _ hlt2]
      exact news_get hc hk hx

def csI (L : List Int) (k : Nat) : List Value := [.int .i64 (L.getD k 0)]
def csP (L : List (Int × Int)) (k : Nat) : List Value := [.int .i64 (L.getD k (0, 0)).1, .int .i64 (L.getD k (0, 0)).2]
def csR (L : List (ByteArray × Int)) (k : Nat) : List Value := [.string (L.getD k (ByteArray.empty, 0)).1, .int .i64 (L.getD k (ByteArray.empty, 0)).2]
theorem RI.rg {w : World} {B : Nat} {v : Value} {L : List Int} (h : RI w B v L) : RG w B v L.length 1 (csI L) := by
  obtain ⟨A, cap, hv, hl, _, h⟩ := h
  refine ⟨A, cap, hv, by omega, ?_⟩
  rcases h with rfl | ⟨b, off, ha, hB, hc⟩
  · exact .inl rfl
  · refine .inr ⟨b, off, ha, hB, fun k hk j x hx => ?_⟩
    have hj : j = 0 := by have := (List.getElem?_eq_some_iff.1 hx).1; simp [csI] at this; exact this
    subst hj
    simp [csI] at hx
    subst hx
    simpa using hc k hk
theorem RI.of_rg {w : World} {B : Nat} {v : Value} {L : List Int} (h : RG w B v L.length 1 (csI L)) (hl : L.length * 8 ≤ 140737488355328) (hw : ∀ x ∈ L, (Lit.int .i64 x).wf = true) : RI w B v L := by
  obtain ⟨A, cap, hv, _, h⟩ := h
  refine ⟨A, cap, hv, hl, hw, ?_⟩
  rcases h with h0 | ⟨b, off, ha, hB, hc⟩
  · exact .inl (List.eq_nil_of_length_eq_zero h0)
  · exact .inr ⟨b, off, ha, hB, fun k hk => by simpa using hc k hk 0 _ rfl⟩
theorem RP.rg {w : World} {B : Nat} {v : Value} {L : List (Int × Int)} (h : RP w B v L) : RG w B v L.length 2 (csP L) := by
  obtain ⟨A, cap, hv, hl, h⟩ := h
  refine ⟨A, cap, hv, hl, ?_⟩
  rcases h with rfl | ⟨b, off, ha, hB, hc⟩
  · exact .inl rfl
  · refine .inr ⟨b, off, ha, hB, fun k hk j x hx => ?_⟩
    match j, hx with
    | 0, hx => simp [csP] at hx; subst hx; simpa using (hc k hk).1
    | 1, hx => simp [csP] at hx; subst hx; exact (hc k hk).2
theorem RP.of_rg {w : World} {B : Nat} {v : Value} {L : List (Int × Int)} (h : RG w B v L.length 2 (csP L)) : RP w B v L := by
  obtain ⟨A, cap, hv, hl, h⟩ := h
  refine ⟨A, cap, hv, hl, ?_⟩
  rcases h with h0 | ⟨b, off, ha, hB, hc⟩
  · exact .inl (List.eq_nil_of_length_eq_zero h0)
  · exact .inr ⟨b, off, ha, hB, fun k hk => ⟨by simpa using hc k hk 0 _ rfl, hc k hk 1 _ rfl⟩⟩
theorem RR.rg {w : World} {B : Nat} {v : Value} {L : List (ByteArray × Int)} (h : RR w B v L) : RG w B v L.length 2 (csR L) := h.1

theorem infoI : (Tryz.prog.info? 3).map (fun i => (i.zero, i.size, i.bytes)) = some (some (.int .i64 0), 1, 8) := by kernel_rfl
set_option maxHeartbeats 2000000 in
set_option maxRecDepth 100000 in
theorem cloneI_any (v : Value) (n : Nat) (cs : Nat → List Value) (w : World) (h : RG w w.heap.size v n 1 cs) (hc : ∀ k, (cs k).length = 1) (hone : ∀ k, ∀ u ∈ cs k, u.oneCell' = true) (hn : n ≤ 100000) :
    Calls Tryz.prog 56 #[v] w fun e w' => ∃ v', e = .returned v' ∧ w'.ownsRow w.heap.size 3 1 v' n (news n cs) ∧ Below w.heap.size w w' := by
  obtain ⟨i0, hi, hz0, hz1, hz2⟩ := info_parts infoI
  have hq : ∀ (w : World) (a : Option Addr) (n c n' c' : Nat), (binOp .eql 22 (.slice a n c) (.slice none n' c')).run Tryz.prog w = .ok (.bool a.isNone) w := fun w a n c n' c' => Lib.run_eql_slice_nil w _ _ a n c n' c' Tryz.underlying22
  obtain ⟨A, cap, rfl, hl, h'⟩ := id h
  cases A with
  | none =>
    have h0 : n = 0 := by
      rcases h' with h0 | ⟨b, off, ha, _⟩
      · exact h0
      · cases ha
    subst h0
    clear h h'
    go_enter Tryz.func56, Tryz.ntmps56
    go_wp2
    go_ret
    exact ⟨_, rfl, World.ownsRow_nil _ _ _ _, Below.refl _ _⟩
  | some a =>
    have hh : ∀ w' : World, Below w.heap.size w w' → ∀ j u, (news n cs)[j]? = some u → w'.cell? (a.add j) = some u := fun w' hb => ((h.below hb).more hb.size).hnews hc
    have H := Lib.hid hh
    have hlen := news_len (n := n) hc
    have hone' : ∀ u ∈ news n cs, u.oneCell' = true := fun u hu => by obtain ⟨k, _, hk⟩ := news_mem hu; exact hone k u hk
    clear h h' hh
    go_enter Tryz.func56, Tryz.ntmps56
    go_wp2_with (at_builtin; refine wpList_append_own _ rfl _ _ 22 rfl w.heap.size 3 i0 (.int .i64 0) 1 8 Tryz.underlying22 hi hz0 hz1 hz2 rfl (by decide) _ _ _ rfl (World.ownsRow_made w #[] 0 (Nat.le_refl _) (Nat.zero_le _) rfl) a n cap (news n cs) rfl hlen (H.out _ ((Below.refl _ _).alloc (Nat.le_refl _) _)) hone' (by unfold maxLen; omega) (by omega) (by simp) ?_; intro v' w1 hown hgrow _)
    go_ret
    refine ⟨v', rfl, by simpa using hown, ?_⟩
    exact ((Below.refl _ w).alloc (Nat.le_refl _) _).grown hgrow (by simp) (by intro k hk; cases hk; exact Nat.le_refl _)

theorem infoP : (Tryz.prog.info? 77).map (fun i => (i.zero, i.size, i.bytes)) = some (some (.agg #[.int .i64 0, .int .i64 0]), 2, 16) := by kernel_rfl
set_option maxHeartbeats 2000000 in
set_option maxRecDepth 100000 in
theorem cloneP_any (v : Value) (n : Nat) (cs : Nat → List Value) (w : World) (h : RG w w.heap.size v n 2 cs) (hc : ∀ k, (cs k).length = 2) (hone : ∀ k, ∀ u ∈ cs k, u.oneCell' = true) (hn : n ≤ 100000) :
    Calls Tryz.prog 112 #[v] w fun e w' => ∃ v', e = .returned v' ∧ w'.ownsRow w.heap.size 77 2 v' n (news n cs) ∧ Below w.heap.size w w' := by
  obtain ⟨i0, hi, hz0, hz1, hz2⟩ := info_parts infoP
  have hq : ∀ (w : World) (a : Option Addr) (n c n' c' : Nat), (binOp .eql 63 (.slice a n c) (.slice none n' c')).run Tryz.prog w = .ok (.bool a.isNone) w := fun w a n c n' c' => Lib.run_eql_slice_nil w _ _ a n c n' c' Tryz.underlying63
  obtain ⟨A, cap, rfl, hl, h'⟩ := id h
  cases A with
  | none =>
    have h0 : n = 0 := by
      rcases h' with h0 | ⟨b, off, ha, _⟩
      · exact h0
      · cases ha
    subst h0
    clear h h'
    go_enter Tryz.func112, Tryz.ntmps112
    go_wp2
    go_ret
    exact ⟨_, rfl, World.ownsRow_nil _ _ _ _, Below.refl _ _⟩
  | some a =>
    have hh : ∀ w' : World, Below w.heap.size w w' → ∀ j u, (news n cs)[j]? = some u → w'.cell? (a.add j) = some u := fun w' hb => ((h.below hb).more hb.size).hnews hc
    have H := Lib.hid hh
    have hlen := news_len (n := n) hc
    have hone' : ∀ u ∈ news n cs, u.oneCell' = true := fun u hu => by obtain ⟨k, _, hk⟩ := news_mem hu; exact hone k u hk
    clear h h' hh
    go_enter Tryz.func112, Tryz.ntmps112
    go_wp2_with (at_builtin; refine wpList_append_own _ rfl _ _ 63 rfl w.heap.size 77 i0 (.agg #[.int .i64 0, .int .i64 0]) 2 16 Tryz.underlying63 hi hz0 hz1 hz2 rfl (by decide) _ _ _ rfl (World.ownsRow_made w #[] 0 (Nat.le_refl _) (Nat.zero_le _) rfl) a n cap (news n cs) rfl hlen (H.out _ ((Below.refl _ _).alloc (Nat.le_refl _) _)) hone' (by unfold maxLen; omega) (by omega) (by simp) ?_; intro v' w1 hown hgrow _)
    go_ret
    refine ⟨v', rfl, by simpa using hown, ?_⟩
    exact ((Below.refl _ w).alloc (Nat.le_refl _) _).grown hgrow (by simp) (by intro k hk; cases hk; exact Nat.le_refl _)

theorem infoR : (Tryz.prog.info? 41).map (fun i => (i.zero, i.size, i.bytes)) = some (some (.agg #[.string ByteArray.empty, .int .i64 0]), 2, 24) := by kernel_rfl
set_option maxHeartbeats 2000000 in
set_option maxRecDepth 100000 in
theorem cloneR_any (v : Value) (n : Nat) (cs : Nat → List Value) (w : World) (h : RG w w.heap.size v n 2 cs) (hc : ∀ k, (cs k).length = 2) (hone : ∀ k, ∀ u ∈ cs k, u.oneCell' = true) (hn : n ≤ 100000) :
    Calls Tryz.prog 54 #[v] w fun e w' => ∃ v', e = .returned v' ∧ w'.ownsRow w.heap.size 41 2 v' n (news n cs) ∧ Below w.heap.size w w' := by
  obtain ⟨i0, hi, hz0, hz1, hz2⟩ := info_parts infoR
  have hq : ∀ (w : World) (a : Option Addr) (n c n' c' : Nat), (binOp .eql 24 (.slice a n c) (.slice none n' c')).run Tryz.prog w = .ok (.bool a.isNone) w := fun w a n c n' c' => Lib.run_eql_slice_nil w _ _ a n c n' c' Tryz.underlying24
  obtain ⟨A, cap, rfl, hl, h'⟩ := id h
  cases A with
  | none =>
    have h0 : n = 0 := by
      rcases h' with h0 | ⟨b, off, ha, _⟩
      · exact h0
      · cases ha
    subst h0
    clear h h'
    go_enter Tryz.func54, Tryz.ntmps54
    go_wp2
    go_ret
    exact ⟨_, rfl, World.ownsRow_nil _ _ _ _, Below.refl _ _⟩
  | some a =>
    have hh : ∀ w' : World, Below w.heap.size w w' → ∀ j u, (news n cs)[j]? = some u → w'.cell? (a.add j) = some u := fun w' hb => ((h.below hb).more hb.size).hnews hc
    have H := Lib.hid hh
    have hlen := news_len (n := n) hc
    have hone' : ∀ u ∈ news n cs, u.oneCell' = true := fun u hu => by obtain ⟨k, _, hk⟩ := news_mem hu; exact hone k u hk
    clear h h' hh
    go_enter Tryz.func54, Tryz.ntmps54
    go_wp2_with (at_builtin; refine wpList_append_own _ rfl _ _ 24 rfl w.heap.size 41 i0 (.agg #[.string ByteArray.empty, .int .i64 0]) 2 24 Tryz.underlying24 hi hz0 hz1 hz2 rfl (by decide) _ _ _ rfl (World.ownsRow_made w #[] 0 (Nat.le_refl _) (Nat.zero_le _) rfl) a n cap (news n cs) rfl hlen (H.out _ ((Below.refl _ _).alloc (Nat.le_refl _) _)) hone' (by unfold maxLen; omega) (by omega) (by simp) ?_; intro v' w1 hown hgrow _)
    go_ret
    refine ⟨v', rfl, by simpa using hown, ?_⟩
    exact ((Below.refl _ w).alloc (Nat.le_refl _) _).grown hgrow (by simp) (by intro k hk; cases hk; exact Nat.le_refl _)
end Go.Proofs.YtficjcomefaocaaGreatDoor

/- WALKS of limit.Pause at the empty stop, and of matter.proper. -/
namespace Go.Proofs.YtficjcomefaocaaGreatDoor
open Go.RowKit Go.Maps

/-- what Pause gives: some limit; ErrArg just where the limit was not proper -/
def Paused (B : Bool) (e : Ending) : Prop := ∃ s a b c A n cap E, e = .returned (.tuple #[.agg #[.string s, .int .i64 a, .int .i64 b, .int .i64 c, .slice A n cap], .int .i64 E]) ∧ ((E : Int) != 1) = B
/-- the world when Pause has laid its boxes -/
abbrev PauseW (w : World) (id : ByteArray) (N U f : Int) (A : Option Addr) (n cap : Nat) : World :=
  ((w.alloc (.cells #[.string id, .int .i64 N, .int .i64 U, .int .i64 f, .slice A n cap] 65)).alloc (.cells #[.int .i64 0, .int .i64 0] 77)).alloc (.cells #[.string ⟨#[]⟩, .int .i64 0, .int .i64 0, .int .i64 0, .slice none 0 0] 65)
theorem pauseW_below (w : World) (id : ByteArray) (N U f : Int) (A : Option Addr) (n cap : Nat) : Below w.heap.size w (PauseW w id N U f A n cap) :=
  (((Below.refl _ _).alloc (Nat.le_refl _) _).alloc (by simp) _).alloc (by simp; omega) _
/-- what a world behind it holds of them -/
structure PauseC (w : World) (id : ByteArray) (N U f : Int) (A : Option Addr) (n cap : Nat) (w' : World) : Prop where
  k0 : w'.cell? ⟨w.heap.size, 0, none⟩ = some (.string id)
  k1 : w'.cell? ⟨w.heap.size, 1, none⟩ = some (.int .i64 N)
  k2 : w'.cell? ⟨w.heap.size, 2, none⟩ = some (.int .i64 U)
  k3 : w'.cell? ⟨w.heap.size, 3, none⟩ = some (.int .i64 f)
  k4 : w'.cell? ⟨w.heap.size, 4, none⟩ = some (.slice A n cap)
  s0 : w'.cell? ⟨w.heap.size + 1, 0, none⟩ = some (.int .i64 0)
  s1 : w'.cell? ⟨w.heap.size + 1, 1, none⟩ = some (.int .i64 0)
  t0 : w'.cell? ⟨w.heap.size + 1 + 1, 0, none⟩ = some (.string ⟨#[]⟩)
  t1 : w'.cell? ⟨w.heap.size + 1 + 1, 1, none⟩ = some (.int .i64 0)
  t2 : w'.cell? ⟨w.heap.size + 1 + 1, 2, none⟩ = some (.int .i64 0)
  t3 : w'.cell? ⟨w.heap.size + 1 + 1, 3, none⟩ = some (.int .i64 0)
  t4 : w'.cell? ⟨w.heap.size + 1 + 1, 4, none⟩ = some (.slice none 0 0)
  fk : w'.frozen? ⟨w.heap.size, 4, none⟩ = false
  ft0 : w'.frozen? ⟨w.heap.size + 1 + 1, 0, none⟩ = false
  ft1 : w'.frozen? ⟨w.heap.size + 1 + 1, 1, none⟩ = false
  ft2 : w'.frozen? ⟨w.heap.size + 1 + 1, 2, none⟩ = false
  ft3 : w'.frozen? ⟨w.heap.size + 1 + 1, 3, none⟩ = false
  ft4 : w'.frozen? ⟨w.heap.size + 1 + 1, 4, none⟩ = false
theorem pauseC (w : World) (id : ByteArray) (N U f : Int) (A : Option Addr) (n cap : Nat) : PauseC w id N U f A n cap (PauseW w id N U f A n cap) := by
  constructor <;> simp [go_sem]
theorem PauseC.below {w : World} {id : ByteArray} {N U f : Int} {A : Option Addr} {n cap : Nat} {w' w'' : World} (h : PauseC w id N U f A n cap w') (hb : Below (w.heap.size + 3) w' w'') : PauseC w id N U f A n cap w'' := by
  constructor
  · exact (hb.cell (by simp <;> omega)).trans h.k0
  · exact (hb.cell (by simp <;> omega)).trans h.k1
  · exact (hb.cell (by simp <;> omega)).trans h.k2
  · exact (hb.cell (by simp <;> omega)).trans h.k3
  · exact (hb.cell (by simp <;> omega)).trans h.k4
  · exact (hb.cell (by simp <;> omega)).trans h.s0
  · exact (hb.cell (by simp <;> omega)).trans h.s1
  · exact (hb.cell (by simp <;> omega)).trans h.t0
  · exact (hb.cell (by simp <;> omega)).trans h.t1
  · exact (hb.cell (by simp <;> omega)).trans h.t2
  · exact (hb.cell (by simp <;> omega)).trans h.t3
  · exact (hb.cell (by simp <;> omega)).trans h.t4
  · exact (hb.frozen (by simp <;> omega)).trans h.fk
  · exact (hb.frozen (by simp <;> omega)).trans h.ft0
  · exact (hb.frozen (by simp <;> omega)).trans h.ft1
  · exact (hb.frozen (by simp <;> omega)).trans h.ft2
  · exact (hb.frozen (by simp <;> omega)).trans h.ft3
  · exact (hb.frozen (by simp <;> omega)).trans h.ft4

theorem PauseC.set {w : World} {id : ByteArray} {N U f : Int} {A A' : Option Addr} {n cap n' cap' : Nat} {w' : World} (h : PauseC w id N U f A n cap w') : PauseC w id N U f A' n' cap' (w'.setCell ⟨w.heap.size, 4, none⟩ (.slice A' n' cap')) := by
  constructor
  · exact (World.cell?_setCell_other _ _ _ _ (by simp)).trans h.k0
  · exact (World.cell?_setCell_other _ _ _ _ (by simp)).trans h.k1
  · exact (World.cell?_setCell_other _ _ _ _ (by simp)).trans h.k2
  · exact (World.cell?_setCell_other _ _ _ _ (by simp)).trans h.k3
  · exact World.cell?_setCell_same _ _ _ h.k4
  · exact (World.cell?_setCell_other _ _ _ _ (by simp)).trans h.s0
  · exact (World.cell?_setCell_other _ _ _ _ (by simp)).trans h.s1
  · exact (World.cell?_setCell_other _ _ _ _ (by simp <;> omega)).trans h.t0
  · exact (World.cell?_setCell_other _ _ _ _ (by simp <;> omega)).trans h.t1
  · exact (World.cell?_setCell_other _ _ _ _ (by simp <;> omega)).trans h.t2
  · exact (World.cell?_setCell_other _ _ _ _ (by simp <;> omega)).trans h.t3
  · exact (World.cell?_setCell_other _ _ _ _ (by simp <;> omega)).trans h.t4
  · exact (World.frozen?_setCell _ _ _ _).trans h.fk
  · exact (World.frozen?_setCell _ _ _ _).trans h.ft0
  · exact (World.frozen?_setCell _ _ _ _).trans h.ft1
  · exact (World.frozen?_setCell _ _ _ _).trans h.ft2
  · exact (World.frozen?_setCell _ _ _ _).trans h.ft3
  · exact (World.frozen?_setCell _ _ _ _).trans h.ft4
theorem csP_one (L : List (Int × Int)) : ∀ k, ∀ u ∈ csP L k, u.oneCell' = true := fun k u hu => by
  simp [csP] at hu
  rcases hu with rfl | rfl <;> rfl
theorem own_block_ge {w : World} {base e size n : Nat} {v : Value} {xs : List Value} (h : w.ownsRow base e size v n xs) (k : Nat) (hk : v.ownBlock = some k) : base ≤ k := by
  rcases h.2 with ⟨rfl, _⟩ | ⟨g, cap, cur, rfl, hb, _⟩
  · simp [Value.ownBlock] at hk
  · simp [Value.ownBlock] at hk; omega
theorem two_one : ∀ u ∈ [Value.int .i64 0, Value.int .i64 0], u.oneCell' = true := by decide
theorem hq_of {B C : Nat} {a b c : World} (h : Below C b c) (hC : B ≤ C) (h0 : Below B a b) : Below B a c := h0.trans (h.mono hC)
theorem le_alloc (w : World) (o : Obj) : w.heap.size ≤ (w.alloc o).heap.size := by simp

/-- append of one element out of a fresh block, at a step of a region that draws its order -/
theorem step_app (w : World) {ops : Array Oper} {o : Oper} {a : Act} {K : Act → World → Prop} {Q : Exit → Act → World → Prop} {E : Prop} (hgd : o.guard = none) (s x : Operand) (t : TypeId)
    (ho : o.op = .call { callee := .builtin .append, args := #[s, x], argTypes := #[t, t] })
    (base : Nat) (e : TypeId) (i : TypeInfo) (z : Value) (size bytes : Nat) (ht : Tryz.prog.underlying t = some (.slice e)) (hi : Tryz.prog.info? e = some i) (hz : i.zero = some z)
    (hsize : i.size = size) (hby : i.bytes = bytes) (hzs : z.cells.size = size) (hsz : 0 < size)
    (v : Value) (n : Nat) (xs : List Value) (hs : a.eval s = v) (hown : w.ownsRow base e size v n xs) (B : Nat) (hx : a.eval x = .slice (some ⟨B, 0, none⟩) 1 1)
    (cs : Array Value) (tt : TypeId) (fr : Nat × Nat) (hl : cs.toList.length = 1 * size) (hb : w.heap[B]? = some (.cells cs tt fr)) (h1 : ∀ u ∈ cs.toList, u.oneCell' = true) (hn : n ≤ 1000) (hb2 : bytes ≤ 1000) (hbase : base ≤ w.heap.size)
    (h : ∀ g cap w', w'.ownsRow base e size (.slice (some ⟨g, 0, none⟩) (n + 1) cap) (n + 1) (xs ++ cs.toList) → Below base w w' → K (a.put o.dst (.slice (some ⟨g, 0, none⟩) (n + 1) cap)) w') :
    if Region.wanted o (yielded ops a.tmps) = true then Oper.wp Tryz.prog o a w K Q else E :=
  step_append_lies _ hgd s x t ho base e i z size bytes ht hi hz hsize hby hzs hsz v n xs hs hown ⟨B, 0, none⟩ 1 1 cs.toList hx hl (World.news_of_block hb) h1 (by decide) (by unfold maxLen; omega)
    (Nat.le_trans (Nat.mul_le_mul (show n + 1 ≤ 1001 by omega) hb2) (by decide)) hbase w.heap.size rfl (fun g cap w' h2 h3 _ _ => h g cap w' h2 ((Below.refl base w).grown h3 hbase (own_block_ge hown)))

set_option maxHeartbeats 4000000 in
set_option maxRecDepth 100000 in
theorem pause_any (id : ByteArray) (N U f : Int) (v : Value) (L : List (Int × Int)) (w : World) (hs : id.size ≤ 140737488355328) (h : RP w w.heap.size v L) :
    Calls Tryz.prog 94 #[.agg #[.string id, .int .i64 N, .int .i64 U, .int .i64 f, v], .agg #[.int .i64 0, .int .i64 0]] w fun e w' => Paused (limB id N U f L) e ∧ Below w.heap.size w w' := by
  have h' := h
  obtain ⟨A, cap, rfl, hl, _⟩ := h'
  have hb0 := pauseW_below w id N U f A L.length cap
  have hrp : ∀ w', Below w.heap.size w w' → RP w' w'.heap.size (.slice A L.length cap) L := fun w' hb => (h.below hb).more hb.size
  have hlp := lproper_any id N U f (.slice A L.length cap) L _ hs (hrp _ hb0)
  obtain ⟨B, hB⟩ : ∃ B, B = limB id N U f L := ⟨_, rfl⟩
  rw [← hB] at hlp ⊢
  have hB60 : B = true → L.length ≤ 60 := fun h => by
    rw [hB] at h
    unfold limB at h
    simp at h
    exact h.1.2
  have HB60 := Lib.hid hB60
  have HRP := Lib.hid hrp
  have HLP := Lib.hid hlp
  clear hB hB60 hrp hlp h
  go_enter Tryz.func94, Tryz.ntmps94
  go_wp2_with fail
  refine HLP.out.mono ?_
  rintro e w1 ⟨rfl, b1⟩
  have hc := (pauseC w id N U f A L.length cap).below (b1.mono (by simp))
  have bw := hb0.trans (b1.mono hb0.size)
  have hz1 : w.heap.size + 3 ≤ w1.heap.size := by have := b1.size; simpa using this
  clear b1 hb0 HLP
  have HC := Lib.hid hc
  obtain ⟨k0, k1, k2, k3, k4, s0, s1, t0, t1, t2, t3, t4, fk, ft0, ft1, ft2, ft3, ft4⟩ := hc
  cases B with
  | false =>
    go_wp2
    refine bodyPost_ret (v := .tuple #[.agg #[.string ⟨#[]⟩, .int .i64 0, .int .i64 0, .int .i64 0, .slice none 0 0], .int .i64 1]) (by simp [results, Tryz.results94, go_sem, t0, t1, t2, t3, t4]) rfl ⟨⟨_, _, _, _, _, _, _, _, rfl, by decide⟩, ?_⟩
    exact ((((bw.setCell (by simp <;> omega) _).setCell (by simp <;> omega) _).setCell (by simp <;> omega) _).setCell (by simp <;> omega) _).setCell (by simp <;> omega) _
  | true =>
    have hl60 := HB60.out rfl
    go_wp2_with fail
    refine (properStop_any 0 0 _).mono ?_
    rintro e w2 ⟨rfl, b2⟩
    have hc2 := HC.out.below (b2.mono hz1)
    have bw2 := bw.trans (b2.mono bw.size)
    have hz2 : w.heap.size + 3 ≤ w2.heap.size := Nat.le_trans hz1 b2.size
    have hst : stopB 0 0 = true := by decide
    rw [hst]
    clear k0 k1 k2 k3 k4 s0 s1 t0 t1 t2 t3 t4 fk ft0 ft1 ft2 ft3 ft4 b2 HC bw hst hz1
    have HC2 := Lib.hid hc2
    obtain ⟨k0, k1, k2, k3, k4, s0, s1, t0, t1, t2, t3, t4, fk, ft0, ft1, ft2, ft3, ft4⟩ := hc2
    by_cases h60 : L.length = 60
    · have h6b : ((L.length : Int) == 60) = true := by simp; omega
      go_wp2
      refine bodyPost_ret (v := .tuple #[.agg #[.string ⟨#[]⟩, .int .i64 0, .int .i64 0, .int .i64 0, .slice none 0 0], .int .i64 2]) (by simp [results, Tryz.results94, go_sem, t0, t1, t2, t3, t4]) rfl ⟨⟨_, _, _, _, _, _, _, _, rfl, by decide⟩, ?_⟩
      exact ((((bw2.setCell (by simp <;> omega) _).setCell (by simp <;> omega) _).setCell (by simp <;> omega) _).setCell (by simp <;> omega) _).setCell (by simp <;> omega) _
    · have h6b : ((L.length : Int) == 60) = false := by simp; omega
      go_wp2_with fail
      obtain ⟨i0, hi, hz0, hz1, hz2'⟩ := info_parts infoP
      go_cut [5] (fun s5 wx => s5 = .int .i64 0 ∧ ∃ a n c, PauseC w id N U f a n c wx ∧ Below w.heap.size w wx)
      case first =>
       have hqb := (HC2.out.below ((Below.refl _ w2).alloc hz2 (.cells #[.int .i64 0, .int .i64 0] 77))).k4
       go_region_law
        (first
          | (go_simp; go_at_call 112; refine (cloneP_any _ L.length (csP L) _ (HRP.out _ (bw2.trans (Below.mono (by repeat (first | exact Below.refl _ _ | assumption | refine Below.drew ?_ | refine Below.alloc ?_ (by first | exact Nat.le_refl _ | exact le_alloc _ _) _)) bw2.size))).rg (fun _ => rfl) (csP_one L) (by omega)).mono ?_; rintro e w3 ⟨v3, rfl, hown, hb3⟩; have hq3 : Below (w.heap.size + 3) w2 w3 := hq_of hb3 (by first | exact hz2 | exact Nat.le_trans hz2 (le_alloc _ _)) (by repeat (first | exact Below.refl _ _ | refine Below.drew ?_ | refine Below.alloc ?_ hz2 _)); have q0 := (HC2.out.below hq3).s0; have q1 := (HC2.out.below hq3).s1; dsimp only)
          | (refine step_app _ (by rfl) (.tmp 24) (.tmp 26) 63 (by rfl) (w2.heap.size + 1) 77 i0 (.agg #[.int .i64 0, .int .i64 0]) 2 16 Tryz.underlying63 hi hz0 hz1 hz2' rfl (by decide) v3 L.length (news L.length (csP L)) (by rfl) (by simpa using hown) (w2.heap.size) (by rfl) #[.int .i64 0, .int .i64 0] 77 (0, 0) rfl ((hb3.block _ (by simp)).trans (Go.heap_alloc_new _ _)) two_one (by omega) (by decide) (by have := hb3.size; simpa using this) ?_; intro g cap4 w4 hown4 hbl4; have hb4 : Below (w.heap.size + 3) w2 w4 := hq3.trans (hbl4.mono (Nat.le_trans hz2 (Nat.le_succ _))); have qf := (HC2.out.below hb4).fk; have qk := (HC2.out.below hb4).k4)
          | (refine step_app _ (by rfl) (.tmp 24) (.tmp 26) 63 (by rfl) w2.heap.size 77 i0 (.agg #[.int .i64 0, .int .i64 0]) 2 16 Tryz.underlying63 hi hz0 hz1 hz2' rfl (by decide) v3 L.length (news L.length (csP L)) (by rfl) (hown.alloc _) (w3.heap.size) (by rfl) #[.int .i64 0, .int .i64 0] 77 (0, 0) rfl (Go.heap_alloc_new _ _) two_one (by omega) (by decide) (Nat.le_trans hb3.size (le_alloc _ _)) ?_; intro g cap4 w4 hown4 hbl4; have hb4 : Below (w.heap.size + 3) w2 w4 := (hq3.alloc (Nat.le_trans hz2 hb3.size) _).trans (hbl4.mono hz2); have qf := (HC2.out.below hb4).fk; have qk := (HC2.out.below hb4).k4)
          | fail)
       all_goals
        have hcf := (HC2.out.below hb4).set (A' := some ⟨g, 0, none⟩) (n' := L.length + 1) (cap' := cap4)
        have hbf := (bw2.trans (hb4.mono (by omega))).setCell (p := ⟨w.heap.size, 4, none⟩) (Nat.le_refl _) (.slice (some ⟨g, 0, none⟩) (L.length + 1) cap4)
        have HCF := Lib.hid hcf
        clear hcf
        go_wp2_with fail
        go_meet
        exact ⟨rfl, _, _, _, HCF.out, hbf⟩
      case rest =>
        obtain ⟨rfl, a, n, c, hcx, bwx⟩ := hcut
        clear k0 k1 k2 k3 k4 s0 s1 t0 t1 t2 t3 t4 fk ft0 ft1 ft2 ft3 ft4 HC2
        have hbx := fun v0 v1 v2 v3 v4 : Value => ((((bwx.setCell (p := ⟨w.heap.size + 1 + 1, 0, none⟩) (by simp <;> omega) v0).setCell (p := ⟨w.heap.size + 1 + 1, 1, none⟩) (by simp <;> omega) v1).setCell (p := ⟨w.heap.size + 1 + 1, 2, none⟩) (by simp <;> omega) v2).setCell (p := ⟨w.heap.size + 1 + 1, 3, none⟩) (by simp <;> omega) v3).setCell (p := ⟨w.heap.size + 1 + 1, 4, none⟩) (by simp <;> omega) v4
        have HBX := Lib.hid hbx
        clear hbx
        obtain ⟨k0, k1, k2, k3, k4, s0, s1, t0, t1, t2, t3, t4, fk, ft0, ft1, ft2, ft3, ft4⟩ := hcx
        go_wp2
        refine bodyPost_ret (v := .tuple #[.agg #[.string id, .int .i64 N, .int .i64 U, .int .i64 f, .slice a n c], .int .i64 0]) (by simp [results, Tryz.results94, go_sem, t0, t1, t2, t3, t4]) rfl ⟨⟨_, _, _, _, _, _, _, _, rfl, by decide⟩, ?_⟩
        exact HBX.out _ _ _ _ _

/-- matter.proper -/
theorem mproper_any (id : ByteArray) (N U f : Int) (v : Value) (L : List (Int × Int)) (w : World) (hs : id.size ≤ 140737488355328) (h : RP w w.heap.size v L) :
    Calls Tryz.prog 78 #[.agg #[.string id, .int .i64 N, .int .i64 U, .int .i64 f, v]] w fun e w' => e = .returned (.bool (limB id N U f L)) ∧ Below w.heap.size w w' := by
  have h' := h
  obtain ⟨A, cap, rfl, hl, _⟩ := h'
  have hb0 : Below w.heap.size w (w.alloc (.cells #[.string id, .int .i64 N, .int .i64 U, .int .i64 f, .slice A L.length cap] 65)) := (Below.refl _ _).alloc (Nat.le_refl _) _
  have hp := pause_any id N U f (.slice A L.length cap) L _ hs ((h.below hb0).more hb0.size)
  have HP := Lib.hid hp
  clear hp h
  go_enter Tryz.func78, Tryz.ntmps78
  go_wp2_with fail
  refine HP.out.mono ?_
  rintro e w1 ⟨⟨s, a, b, c, A', n', cap', E, rfl, hE⟩, b1⟩
  have bw := hb0.trans (b1.mono hb0.size)
  have HE := Lib.hid hE
  clear b1 hE
  go_wp2
  go_ret
  exact ⟨lret_bool HE.out, bw.alloc bw.size _⟩
end Go.Proofs.YtficjcomefaocaaGreatDoor

/- WALKS of cmp.Less and slices.IsSorted over ints. -/
namespace Go.Proofs.YtficjcomefaocaaGreatDoor
open Go.RowKit Go.Maps

theorem isNaN_any (x : Int) (w : World) : Calls Tryz.prog 109 #[.int .i64 x] w fun e w' => e = .returned (.bool false) ∧ w' = w := by
  go_enter Tryz.func109, Tryz.ntmps109
  go_wp2
  go_ret
  exact ⟨rfl, rfl⟩
theorem less_any (x y : Int) (w : World) : Calls Tryz.prog 93 #[.int .i64 x, .int .i64 y] w fun e w' => e = .returned (.bool (decide (x < y))) ∧ w' = w := by
  go_enter Tryz.func93, Tryz.ntmps93
  go_wp2_with (go_at_call 109; refine (isNaN_any _ _).mono ?_; rintro e w' ⟨rfl, rfl⟩)
  go_ret
  exact ⟨rfl, rfl⟩

/-- are numbers in order -/
def sortB (L : List Int) : Bool := decide (∀ j, j < L.length → 1 ≤ j → L.getD (j - 1) 0 ≤ L.getD j 0)

set_option maxHeartbeats 2000000 in
set_option maxRecDepth 100000 in
theorem sorted_any (v : Value) (L : List Int) (w : World) (h : RI w w.heap.size v L) :
    Calls Tryz.prog 72 #[v] w fun e w' => e = .returned (.bool (sortB L)) ∧ ∃ q, w' = w.drewN q := by
  obtain ⟨A, cap, rfl, hl, _, h⟩ := h
  rcases h with rfl | ⟨b, off, rfl, hB, hc⟩
  · have hs : sortB [] = true := by decide
    have HS := Lib.hid hs
    clear hs
    go_enter Tryz.func72, Tryz.ntmps72
    go_wp2
    refine wp_loop_rounds 1 ?_
    rw [rounds_succ]
    go_wp2
    go_ret
    exact ⟨lret_bool HS.out.symm, 0, rfl⟩
  · go_enter Tryz.func72, Tryz.ntmps72
    go_wp2
    go_loopw [3] (fun i wr => ∃ k : Nat, k ≤ L.length ∧ i = .int .i64 ((k : Int) - 1) ∧ (∀ j, k ≤ j → j < L.length → 1 ≤ j → L.getD (j - 1) 0 ≤ L.getD j 0) ∧ ∃ q, wr = w.drewN q) (fun i _ => (intOf i).toNat)
    case atStart => exact ⟨L.length, Nat.le_refl _, by go_num, fun j h1 h2 => absurd h1 (by omega), 0, rfl⟩
    case round =>
      obtain ⟨k, hk, rfl, hok, q, hwr⟩ := hrel
      by_cases h2 : 2 ≤ k
      · obtain ⟨m, rfl⟩ : ∃ m, k = m + 2 := ⟨k - 2, by omega⟩
        obtain ⟨p, hp⟩ : ∃ p, p = m + 1 := ⟨_, rfl⟩
        have c0 : wr.cell? ⟨b, off + p, none⟩ = some (.int .i64 (L.getD p 0)) := by rw [hwr]; exact hc p (by omega)
        have c1 : wr.cell? ⟨b, off + m, none⟩ = some (.int .i64 (L.getD m 0)) := by rw [hwr]; exact hc m (by omega)
        obtain ⟨x, hx⟩ : ∃ x, x = L.getD p 0 := ⟨_, rfl⟩
        obtain ⟨y, hy⟩ : ∃ y, y = L.getD m 0 := ⟨_, rfl⟩
        rw [← hx] at c0
        rw [← hy] at c1
        rw [hp] at hx
        have HX := Lib.hid hx
        have HY := Lib.hid hy
        have HC := Lib.hid hc
        have HOK := Lib.hid hok
        rw [show ((m + 2 : Nat) : Int) - 1 = (p : Int) by omega]
        have hk' : p < L.length := by omega
        have g0 : decide ((0 : Int) < (p : Int)) = true := by rw [decide_eq_true_iff]; omega
        have g1 : (0 : Int) ≤ (p : Int) := by omega
        have g2 : (p : Int) < (L.length : Int) := by omega
        have g3 : (p : Int) - 1 = (m : Int) := by omega
        have g4 : (m : Int) < (L.length : Int) := by omega
        have gw : IntKind.i64.wrap (m : Int) = (m : Int) := by simp [IntKind.wrap, IntKind.bits, IntKind.signed]; omega
        have HP := Lib.hid hp
        have HWR := Lib.hid hwr
        clear hx hy hc hok hp hk h2 hwr
        go_wp2
        by_cases hlt : x < y
        · have HLT := Lib.hid hlt
          have hd : decide (x < y) = true := by simpa using hlt
          have hb : sortB L = false := by
            unfold sortB
            rw [decide_eq_false_iff_not]
            intro h
            have h3 := h (m + 1) (by have := HP.out; omega) (by omega)
            rw [show m + 1 - 1 = m by omega, ← HX.out, ← HY.out] at h3
            omega
          have HBB := Lib.hid hb
          have hless := less_any x y
          rw [hd] at hless
          clear hlt hb hd
          go_quiet ((go_at_call 93; refine Calls.quiet_of_same (hless _)))
          go_wp2
          go_ret
          exact ⟨lret_bool HBB.out.symm, _, by rw [HWR.out, World.drewN_drewN]⟩
        · have hd : decide (x < y) = false := by simpa using hlt
          have HLT := Lib.hid hlt
          have hless := less_any x y
          rw [hd] at hless
          clear hlt hd
          go_quiet ((go_at_call 93; refine Calls.quiet_of_same (hless _)))
          go_wp2
          have hp := HP.out
          refine ⟨⟨m + 1, by omega, by rw [show ((m + 1 : Nat) : Int) - 1 = (m : Int) by omega], fun j h3 h4 h5 => ?_, _, by rw [HWR.out, World.drewN_drewN]⟩, by simp [intOf]; omega⟩
          by_cases e : j = m + 1
          · subst e
            rw [show m + 1 - 1 = m by omega, ← HX.out, ← HY.out]
            have := HLT.out
            omega
          · exact HOK.out j (by omega) h4 h5
      · have g0 : decide ((0 : Int) < (k : Int) - 1) = false := by simp; omega
        have hs : sortB L = true := by
          unfold sortB
          rw [decide_eq_true_iff]
          intro j h3 h4
          exact hok j (by omega) h3 h4
        have HS := Lib.hid hs
        have HWR := Lib.hid hwr
        clear hs hok hc hwr
        go_wp2
        go_ret
        exact ⟨lret_bool HS.out.symm, q, HWR.out⟩
end Go.Proofs.YtficjcomefaocaaGreatDoor

/- WALKS of slices.Index and slices.Contains over moves. -/
namespace Go.Proofs.YtficjcomefaocaaGreatDoor
open Go.RowKit Go.Maps

theorem run_eqIn_pair (n : Nat) (a b c d : Int) (w : World) : (Op.equalIn (n + 1 + 1) 101 (.agg #[.int .i64 a, .int .i64 b]) (.agg #[.int .i64 c, .int .i64 d])).run Tryz.prog w = .ok (a == c && b == d) w := by
  have hu := run_underlying Tryz.underlying101
  have hi := fun w a b => run_equalIn_int (P := Tryz.prog) w n 3 .i64 .i64 a b Tryz.underlying3
  have hz := fun w => Tryz.sizeOf3 w
  rw [Op.equalIn]
  simp only [Sem.run_bind, hu, Result.andThen_ok]
  simp [List.range', hi, hz, go_sem]
  by_cases h1 : a = c <;> by_cases h2 : b = d <;> simp [h1, h2]
theorem run_eql_pair (a b c d : Int) (w : World) : (binOp .eql 101 (.agg #[.int .i64 a, .int .i64 b]) (.agg #[.int .i64 c, .int .i64 d])).run Tryz.prog w = .ok (.bool (a == c && b == d)) w := by
  rw [run_eql_struct, show (10000 : Nat) = 9998 + 1 + 1 from rfl, run_eqIn_pair]
  rfl

def foundAt (L : List (Int × Int)) (x : Int × Int) (i : Int) : Prop := (i = -1 ∧ x ∉ L) ∨ (0 ≤ i ∧ x ∈ L)
set_option maxHeartbeats 2000000 in
set_option maxRecDepth 100000 in
theorem idxMove_any (v : Value) (L : List (Int × Int)) (a b : Int) (w : World) (h : RP w w.heap.size v L) :
    Calls Tryz.prog 88 #[v, .agg #[.int .i64 a, .int .i64 b]] w fun e w' => (∃ i, e = .returned (.int .i64 i) ∧ foundAt L (a, b) i) ∧ Below w.heap.size w w' := by
  obtain ⟨A, cap, rfl, hl, h⟩ := h
  have hb0 : Below w.heap.size w (w.alloc (.cells #[.int .i64 a, .int .i64 b] 101)) := (Below.refl _ _).alloc (Nat.le_refl _) _
  rcases h with rfl | ⟨q, off, rfl, hB, hc⟩
  · go_enter Tryz.func88, Tryz.ntmps88
    go_wp2
    refine wp_loop_rounds 1 ?_
    rw [rounds_succ]
    go_wp2
    go_ret
    exact ⟨⟨_, rfl, .inl ⟨rfl, by simp⟩⟩, hb0⟩
  · go_enter Tryz.func88, Tryz.ntmps88
    go_wp2
    go_loopw [8] (fun i wr => ∃ k : Nat, k ≤ L.length ∧ i = .int .i64 k ∧ (∀ j, j < k → L.getD j (0, 0) ≠ (a, b)) ∧ wr.cell? ⟨w.heap.size, 0, none⟩ = some (.int .i64 a) ∧ wr.cell? ⟨w.heap.size, 1, none⟩ = some (.int .i64 b) ∧ Below w.heap.size w wr) (fun i _ => L.length - (intOf i).toNat)
    case atStart => exact ⟨0, Nat.zero_le _, rfl, fun j hj => absurd hj (by omega), by simp [go_sem], by simp [go_sem], hb0⟩
    case round =>
      obtain ⟨k, hk, rfl, hok, p0, p1, hbw⟩ := hrel
      by_cases hlt : k < L.length
      · have c0 := (hbw.cell (p := ⟨q, off + k * 2, none⟩) hB).trans (hc k hlt).1
        have c1 := (hbw.cell (p := ⟨q, off + k * 2 + 1, none⟩) hB).trans (hc k hlt).2
        obtain ⟨x, hx⟩ : ∃ x, x = L.getD k (0, 0) := ⟨_, rfl⟩
        have hxm : x ∈ L := by rw [hx]; exact getD_mem L _ hlt
        rw [← hx] at c0 c1
        have HX := Lib.hid hx
        have HXM := Lib.hid hxm
        have HC := Lib.hid hc
        have HOK := Lib.hid hok
        have P0 := Lib.hid p0
        have P1 := Lib.hid p1
        have g1 : (0 : Int) ≤ (k : Int) := by omega
        have g2 : (k : Int) < (L.length : Int) := by omega
        clear hx hxm hc hok
        have heq := run_eql_pair a b x.1 x.2
        by_cases hx2 : x = (a, b)
        · have hbb : (a == x.1 && b == x.2) = true := by rw [hx2]; simp
          rw [hbb] at heq
          have HX2 := Lib.hid hx2
          clear hbb hx2
          go_wp2
          go_quiet (fail)
          go_wp2
          go_ret
          exact ⟨⟨_, rfl, .inr ⟨by omega, by rw [← HX2.out]; exact HXM.out⟩⟩, below_drewN hbw _⟩
        · have hbb : (a == x.1 && b == x.2) = false := by
            rw [Bool.eq_false_iff]
            intro h
            simp at h
            exact hx2 (Prod.ext h.1.symm h.2.symm)
          rw [hbb] at heq
          have HX2 := Lib.hid hx2
          clear hbb hx2
          go_wp2
          go_quiet (fail)
          go_wp2
          refine ⟨⟨k + 1, by omega, by go_num, fun j hj => ?_, P0.out, P1.out, below_drewN hbw _⟩, by simp [intOf]; omega⟩
          by_cases e : j = k
          · rw [e, ← HX.out]; exact HX2.out
          · exact HOK.out j (by omega)
      · obtain rfl : k = L.length := by omega
        have hall : (a, b) ∉ L := fun hm => by
          obtain ⟨j, hj, he⟩ := List.getElem_of_mem hm
          exact hok j hj (by rw [getD_eq L _ hj, he])
        have HALL := Lib.hid hall
        clear hall hok hc
        go_wp2
        go_ret
        exact ⟨⟨_, rfl, .inl ⟨rfl, HALL.out⟩⟩, hbw⟩

theorem hasMove_any (v : Value) (L : List (Int × Int)) (a b : Int) (w : World) (h : RP w w.heap.size v L) :
    Calls Tryz.prog 55 #[v, .agg #[.int .i64 a, .int .i64 b]] w fun e w' => e = .returned (.bool (decide ((a, b) ∈ L))) ∧ Below w.heap.size w w' := by
  have hb0 : Below w.heap.size w (w.alloc (.cells #[.int .i64 a, .int .i64 b] 101)) := (Below.refl _ _).alloc (Nat.le_refl _) _
  have hi := idxMove_any v L a b _ ((h.below hb0).more hb0.size)
  obtain ⟨A, cap, rfl, hl, _⟩ := h
  go_enter Tryz.func55, Tryz.ntmps55
  go_wp2_with fail
  refine hi.mono ?_
  rintro e w1 ⟨⟨i, rfl, hb⟩, b1⟩
  have hr : decide (0 ≤ i) = decide ((a, b) ∈ L) := by
    rcases hb with ⟨rfl, ha⟩ | ⟨h0, ha⟩
    · simp [ha]
    · simp [ha, h0]
  have bw := hb0.trans (b1.mono hb0.size)
  have HR := Lib.hid hr
  clear hr hb hi b1
  go_wp2
  go_ret
  exact ⟨lret_bool HR.out, bw⟩
end Go.Proofs.YtficjcomefaocaaGreatDoor

/- WALK of matter.different over texts. -/
namespace Go.Proofs.YtficjcomefaocaaGreatDoor
open Go.RowKit Go.Maps

set_option maxHeartbeats 2000000 in
set_option maxRecDepth 100000 in
theorem diffS_any (good : ByteArray → Bool) (v : Value) (L : List ByteArray) (w : World) (h : RS w w.heap.size v L) (PT : World → Prop) (hPT : ∀ w', Below w.heap.size w w' → PT w')
    (hg : ∀ (s : ByteArray) (w' : World), s ∈ L → PT w' → Calls Tryz.prog 52 #[.string s] w' fun e w'' => e = .returned (.bool (good s)) ∧ Below w'.heap.size w' w'') :
    Calls Tryz.prog 60 #[v, .func (.func 61) #[] #[], .func (.func 52) #[] #[]] w fun e w' => e = .returned (.bool (diffB good (fun s => s) L)) ∧ Below w.heap.size w w' := by
  obtain ⟨⟨A, cap, rfl, hl, h⟩, hsz⟩ := h
  have hmm := @run_makeMap Tryz.prog
  rcases h with h0 | ⟨b, off, rfl, hB, hc⟩
  · obtain rfl : L = [] := List.eq_nil_of_length_eq_zero h0
    have hd : diffB good (fun s => s) ([] : List ByteArray) = true := by rw [diffB_iff]; simp
    have HD := Lib.hid hd
    clear hd hg hPT
    go_enter Tryz.func60, Tryz.ntmps60
    go_wp2
    refine wp_loop_rounds 1 ?_
    rw [rounds_succ]
    go_wp2
    go_ret
    exact ⟨lret_bool HD.out.symm, (Below.refl _ _).alloc (Nat.le_refl _) _⟩
  · go_enter Tryz.func60, Tryz.ntmps60
    go_wp2
    go_loopw [13] (fun i wr => ∃ k : Nat, k ≤ L.length ∧ i = .int .i64 k ∧ Seen wr 9 w.heap.size k ((L.take k).map litS) ∧ diffAt good (fun s => s) L k ∧ Below w.heap.size w wr) (fun i _ => L.length - (intOf i).toNat)
    case atStart => exact ⟨0, Nat.zero_le _, rfl, seen_made w _, diffAt_zero _ _ _, (Below.refl _ _).alloc (Nat.le_refl _) _⟩
    case round =>
      obtain ⟨k, hk, rfl, hsn, hat, hbw⟩ := hrel
      by_cases hlt : k < L.length
      · have hcell : wr.cell? ⟨b, off + k, none⟩ = some (.string (L.getD k ByteArray.empty)) := (hbw.cell (p := ⟨b, off + k, none⟩) hB).trans (by simpa using hc k hlt 0 _ rfl)
        have hmem := getD_mem L ByteArray.empty hlt
        obtain ⟨x, hx⟩ : ∃ x, x = L.getD k ByteArray.empty := ⟨_, rfl⟩
        rw [← hx] at hcell hmem
        have hxk : L[k] = x := by rw [hx, getD_eq L _ hlt]
        have hs := hsz x hmem
        have hks := keyS (s := x) (by unfold maxLen; omega)
        have hcall := hg x wr hmem (hPT wr hbw)
        have HX := Lib.hid hxk
        have HC := Lib.hid hc
        have HAT := Lib.hid hat
        have HSZ := Lib.hid hsz
        have HPT := Lib.hid hPT
        have HG := Lib.hid hg
        have HSN := Lib.hid hsn
        clear hx hxk hc hat hsz hPT hg hmem hsn
        go_wp2_with fail
        refine hcall.mono ?_
        rintro e w2 ⟨rfl, b2⟩
        have bw2 := hbw.trans (b2.mono hbw.size)
        have hsn2 := HSN.out.below b2 HSN.out.lt
        clear hcall b2
        cases hgx : good x with
        | false =>
          have HB := Lib.hid (diffB_bad (key := fun s => s) hlt (by rw [HX.out]; exact hgx) : diffB good (fun s => s) L = false)
          clear hgx hks
          go_wp2
          go_ret
          exact ⟨lret_bool HB.out.symm, bw2⟩
        | true =>
          have HGX := Lib.hid hgx
          clear hgx
          obtain ⟨l1, l2⟩ := hsn2.look lawStr (T := 133) Tryz.underlying133 hks
          by_cases hin : litS x ∈ (L.take k).map litS
          · have HB := Lib.hid (diffB_twice (good := good) (key := fun s => s) hlt (by
              obtain ⟨y, hy, e⟩ := List.mem_map.1 hin
              rw [HX.out, ← litS_inj e]; simpa using hy) : diffB good (fun s => s) L = false)
            have hlook := l1 hin
            clear l1 l2 hin hsn2
            go_wp2_with fail
            refine (keyS_any x _).mono ?_
            rintro e w3 ⟨rfl, rfl⟩
            go_wp2
            go_ret
            exact ⟨lret_bool HB.out.symm, bw2⟩
          · have hlook := l2 hin
            have HIN := Lib.hid hin
            clear l1 l2 hin
            go_wp2_with fail
            refine (keyS_any x _).mono ?_
            rintro e w3 ⟨rfl, rfl⟩
            go_wp2_with fail
            clear hlook
            refine (keyS_any x _).mono ?_
            rintro e w3 ⟨rfl, rfl⟩
            obtain ⟨D, hown, hmap, hatk⟩ := hsn2
            have HATK := Lib.hid hatk
            clear hatk
            go_wp2_with (at_mapUpdate; refine wpList_mapUpdate_own _ rfl _ _ _ 133 rfl 9 4 lawStr Tryz.underlying133 _ w.heap.size k _ rfl hown (by unfold maxLen; omega) _ _ _ rfl rfl hks _ [] (plainElem_bool Tryz.underlying4 true) ?_; intro w4 hown1 hgrow1)
            go_roundw
            case rel =>
              obtain ⟨m1, m2⟩ := seen_put hmap HATK.out (keyS_lit x)
              refine ⟨k + 1, by omega, by go_num, ⟨_, hown1, m1, fun l => ?_⟩, diffAt_succ hlt HAT.out (by rw [HX.out]; exact HGX.out) ?_, bw2.grown hgrow1 bw2.size (fun j hj => by cases hj; exact Nat.le_refl _)⟩
              · rw [take_snoc L k hlt, HX.out]
                have := m2 l
                simpa [or_comm] using this
              · intro hm
                refine HIN.out (List.mem_map.2 ⟨x, ?_, rfl⟩)
                rw [HX.out] at hm
                simpa using hm
            case measure => simp [intOf]; omega
      · obtain rfl : k = L.length := by omega
        have HE := Lib.hid (diffB_end hat)
        clear hat hsn hc hg hPT
        go_wp2
        go_ret
        exact ⟨lret_bool HE.out, hbw⟩
end Go.Proofs.YtficjcomefaocaaGreatDoor

/- WALK of matter.different over moves. -/
namespace Go.Proofs.YtficjcomefaocaaGreatDoor
open Go.RowKit Go.Maps

set_option maxHeartbeats 4000000 in
set_option maxRecDepth 100000 in
theorem diffP_any (good : (Int × Int) → Bool) (v : Value) (L : List ((Int × Int))) (w : World) (h : RP w w.heap.size v L) (hwf : ∀ x ∈ L, (Lit.int .i64 x.1).wf = true ∧ (Lit.int .i64 x.2).wf = true) (q : Nat) (PT : World → Prop) (hPT : ∀ w', Below w.heap.size w w' → PT w')
    (hg : ∀ (x : (Int × Int)) (w' : World), x ∈ L → PT w' → Calls Tryz.prog 64 (#[.agg #[.int .i64 x.1, .int .i64 x.2]] ++ #[.pointer (some ⟨q, 0, none⟩)]) w' fun e w'' => e = .returned (.bool (good x)) ∧ Below w'.heap.size w' w'') :
    Calls Tryz.prog 62 #[v, .func (.func 63) #[] #[], .func (.func 64) #[] #[.pointer (some ⟨q, 0, none⟩)]] w fun e w' => e = .returned (.bool (diffB good (fun x => x) L)) ∧ Below w.heap.size w w' := by
  obtain ⟨A, cap, rfl, hl, h⟩ := h
  have hmm := @run_makeMap Tryz.prog
  rcases h with h0 | ⟨b, off, rfl, hB, hc⟩
  · obtain rfl : L = [] := h0
    have hd : diffB good (fun x : (Int × Int) => x) [] = true := by rw [diffB_iff]; simp
    have HD := Lib.hid hd
    clear hd hg hPT
    go_enter Tryz.func62, Tryz.ntmps62
    go_wp2
    refine wp_loop_rounds 1 ?_
    rw [rounds_succ]
    go_wp2
    go_ret
    exact ⟨lret_bool HD.out.symm, (Below.refl _ _).alloc (Nat.le_refl _) _⟩
  · go_enter Tryz.func62, Tryz.ntmps62
    go_wp2
    go_loopw [13] (fun i wr => ∃ k : Nat, k ≤ L.length ∧ i = .int .i64 k ∧ Seen wr 101 w.heap.size k ((L.take k).map (fun x => litP x)) ∧ diffAt good (fun x => x) L k ∧ Below w.heap.size w wr) (fun i _ => L.length - (intOf i).toNat)
    case atStart => exact ⟨0, Nat.zero_le _, rfl, seen_made w _, diffAt_zero _ _ _, (Below.refl _ _).alloc (Nat.le_refl _) _⟩
    case round =>
      obtain ⟨k, hk, rfl, hsn, hat, hbw⟩ := hrel
      by_cases hlt : k < L.length
      · have c0 := (hbw.cell (p := ⟨b, off + k * 2, none⟩) hB).trans (hc k hlt).1
        have c1 := (hbw.cell (p := ⟨b, off + k * 2 + 1, none⟩) hB).trans (hc k hlt).2
        have hmem := getD_mem L (0, 0) hlt
        obtain ⟨x, hx⟩ : ∃ x, x = L.getD k (0, 0) := ⟨_, rfl⟩
        rw [← hx] at c0 c1 hmem
        have hxk : L[k] = x := by rw [hx, getD_eq L _ hlt]
        have hks : keyOf Tryz.prog 101 (.agg #[.int .i64 x.1, .int .i64 x.2]) = some (litP x) := keyP (hwf x hmem)
        have bA := (Below.refl wr.heap.size wr).alloc (Nat.le_refl _) (.cells #[.int .i64 x.1, .int .i64 x.2] 101)
        have hcall := hg x (wr.alloc (.cells #[.int .i64 x.1, .int .i64 x.2] 101)) hmem (hPT _ (hbw.trans (bA.mono hbw.size)))
        have hinj : ∀ y, y ∈ L → litP y = litP x → y = x := fun y hy e => litP_inj (hwf y hy) (hwf x hmem) e
        have HX := Lib.hid hxk
        have HC := Lib.hid hc
        have HAT := Lib.hid hat
        have HPT := Lib.hid hPT
        have HG := Lib.hid hg
        have HSN := Lib.hid hsn
        have HI := Lib.hid hinj
        clear hx hxk hc hat hPT hg hmem hsn hinj
        go_wp2_with fail
        refine hcall.mono ?_
        rintro e w2 ⟨rfl, b2⟩
        have bT := bA.trans (b2.mono bA.size)
        have bw2 := hbw.trans (bT.mono hbw.size)
        have hsz2 : wr.heap.size < w2.heap.size := by have := b2.size; simp at this; omega
        have hsn2 := HSN.out.below bT HSN.out.lt
        have d0 := (b2.cell (p := ⟨wr.heap.size, 0, none⟩) (by simp)).trans (show (wr.alloc (.cells #[.int .i64 x.1, .int .i64 x.2] 101)).cell? ⟨wr.heap.size, 0, none⟩ = some (.int .i64 x.1) by simp [go_sem])
        have d1 := (b2.cell (p := ⟨wr.heap.size, 1, none⟩) (by simp)).trans (show (wr.alloc (.cells #[.int .i64 x.1, .int .i64 x.2] 101)).cell? ⟨wr.heap.size, 1, none⟩ = some (.int .i64 x.2) by simp [go_sem])
        clear hcall b2 bA c0 c1
        cases hgx : good x with
        | false =>
          have HB := Lib.hid (diffB_bad (key := fun x => x) hlt (by rw [HX.out]; exact hgx) : diffB good (fun x => x) L = false)
          clear hgx hks
          go_wp2
          go_ret
          exact ⟨lret_bool HB.out.symm, bw2⟩
        | true =>
          have HGX := Lib.hid hgx
          clear hgx
          by_cases hin : litP x ∈ (L.take k).map (fun x => litP x)
          · have HB := Lib.hid (diffB_twice (good := good) (key := fun x => x) hlt (by
              obtain ⟨y, hy, e⟩ := List.mem_map.1 hin
              rw [HX.out]; exact List.mem_map.2 ⟨y, hy, HI.out y (List.mem_of_mem_take hy) e⟩) : diffB good (fun x => x) L = false)
            have HIN := Lib.hid hin
            clear hin
            go_wp2_with fail
            refine (keyP_any x.1 x.2 _).mono ?_
            rintro e w3 ⟨rfl, b3⟩
            have hlook := ((hsn2.below b3 hsn2.lt).look lawPair (T := 134) Tryz.underlying134 hks).1 HIN.out
            have bw3 := bw2.trans (b3.mono bw2.size)
            clear b3 hsn2
            go_wp2
            go_ret
            exact ⟨lret_bool HB.out.symm, bw3⟩
          · have HIN := Lib.hid hin
            clear hin
            go_wp2_with fail
            refine (keyP_any x.1 x.2 _).mono ?_
            rintro e w3 ⟨rfl, b3⟩
            have hsn3 := hsn2.below b3 hsn2.lt
            have hlook := (hsn3.look lawPair (T := 134) Tryz.underlying134 hks).2 HIN.out
            have bw3 := bw2.trans (b3.mono bw2.size)
            have e0 := (b3.cell (p := ⟨wr.heap.size, 0, none⟩) hsz2).trans d0
            have e1 := (b3.cell (p := ⟨wr.heap.size, 1, none⟩) hsz2).trans d1
            clear b3 hsn2 d0 d1
            go_wp2_with fail
            clear hlook
            refine (keyP_any x.1 x.2 _).mono ?_
            rintro e w4 ⟨rfl, b4⟩
            have bw4 := bw3.trans (b4.mono bw3.size)
            obtain ⟨D, hown, hmap, hatk⟩ := hsn3.below b4 hsn3.lt
            have HATK := Lib.hid hatk
            clear hatk hsn3 b4 e0 e1
            go_wp2_with (at_mapUpdate; refine wpList_mapUpdate_own _ rfl _ _ _ 134 rfl 101 4 lawPair Tryz.underlying134 _ w.heap.size k _ rfl hown (by unfold maxLen; omega) _ _ _ rfl rfl hks _ [] (plainElem_bool Tryz.underlying4 true) ?_; intro w5 hown1 hgrow1)
            go_roundw
            case rel =>
              obtain ⟨m1, m2⟩ := seen_put hmap HATK.out (keyP_lit x)
              refine ⟨k + 1, by omega, by go_num, ⟨_, hown1, m1, fun l => ?_⟩, diffAt_succ hlt HAT.out (by rw [HX.out]; exact HGX.out) ?_, bw4.grown hgrow1 bw4.size (fun j hj => by cases hj; exact Nat.le_refl _)⟩
              · rw [take_snoc L k hlt, HX.out]
                have := m2 l
                simpa [or_comm] using this
              · intro hm
                obtain ⟨y, hy, e⟩ := List.mem_map.1 hm
                rw [HX.out] at e
                exact HIN.out (List.mem_map.2 ⟨y, hy, congrArg litP e⟩)
            case measure => simp [intOf]; omega
      · obtain rfl : k = L.length := by omega
        have HE := Lib.hid (diffB_end hat)
        clear hat hsn hc hg hPT
        go_wp2
        go_ret
        exact ⟨lret_bool HE.out, hbw⟩
end Go.Proofs.YtficjcomefaocaaGreatDoor

/- WALK of matter.different over rights. -/
namespace Go.Proofs.YtficjcomefaocaaGreatDoor
open Go.RowKit Go.Maps

set_option maxHeartbeats 4000000 in
set_option maxRecDepth 100000 in
theorem diffR_any (good : (ByteArray × Int) → Bool) (v : Value) (L : List ((ByteArray × Int))) (w : World) (h : RR w w.heap.size v L) (q : Nat) (PT : World → Prop) (hPT : ∀ w', Below w.heap.size w w' → PT w')
    (hg : ∀ (x : (ByteArray × Int)) (w' : World), x ∈ L → PT w' → Calls Tryz.prog 75 (#[.agg #[.string x.1, .int .i64 x.2]] ++ #[.pointer (some ⟨q, 0, none⟩)]) w' fun e w'' => e = .returned (.bool (good x)) ∧ Below w'.heap.size w' w'') :
    Calls Tryz.prog 73 #[v, .func (.func 74) #[] #[], .func (.func 75) #[] #[.pointer (some ⟨q, 0, none⟩)]] w fun e w' => e = .returned (.bool (diffB good (fun x => x.1) L)) ∧ Below w.heap.size w w' := by
  obtain ⟨⟨A, cap, rfl, hl, h⟩, hsz⟩ := h
  have hmm := @run_makeMap Tryz.prog
  rcases h with h0 | ⟨b, off, rfl, hB, hc⟩
  · obtain rfl : L = [] := List.eq_nil_of_length_eq_zero h0
    have hd : diffB good (fun x : (ByteArray × Int) => x.1) [] = true := by rw [diffB_iff]; simp
    have HD := Lib.hid hd
    clear hd hg hPT
    go_enter Tryz.func73, Tryz.ntmps73
    go_wp2
    refine wp_loop_rounds 1 ?_
    rw [rounds_succ]
    go_wp2
    go_ret
    exact ⟨lret_bool HD.out.symm, (Below.refl _ _).alloc (Nat.le_refl _) _⟩
  · go_enter Tryz.func73, Tryz.ntmps73
    go_wp2
    go_loopw [13] (fun i wr => ∃ k : Nat, k ≤ L.length ∧ i = .int .i64 k ∧ Seen wr 9 w.heap.size k ((L.take k).map (fun x => litS x.1)) ∧ diffAt good (fun x => x.1) L k ∧ Below w.heap.size w wr) (fun i _ => L.length - (intOf i).toNat)
    case atStart => exact ⟨0, Nat.zero_le _, rfl, seen_made w _, diffAt_zero _ _ _, (Below.refl _ _).alloc (Nat.le_refl _) _⟩
    case round =>
      obtain ⟨k, hk, rfl, hsn, hat, hbw⟩ := hrel
      by_cases hlt : k < L.length
      · have c0 : wr.cell? ⟨b, off + k * 2, none⟩ = some (.string (L.getD k (ByteArray.empty, 0)).1) := (hbw.cell (p := ⟨b, off + k * 2, none⟩) hB).trans (by simpa using hc k hlt 0 _ rfl)
        have c1 : wr.cell? ⟨b, off + k * 2 + 1, none⟩ = some (.int .i64 (L.getD k (ByteArray.empty, 0)).2) := (hbw.cell (p := ⟨b, off + k * 2 + 1, none⟩) hB).trans (by simpa using hc k hlt 1 _ rfl)
        have hmem := getD_mem L (ByteArray.empty, 0) hlt
        obtain ⟨x, hx⟩ : ∃ x, x = L.getD k (ByteArray.empty, 0) := ⟨_, rfl⟩
        rw [← hx] at c0 c1 hmem
        have hxk : L[k] = x := by rw [hx, getD_eq L _ hlt]
        have hks : keyOf Tryz.prog 9 (.string x.1) = some (litS x.1) := keyS (by have := hsz x hmem; unfold maxLen; omega)
        have bA := (Below.refl wr.heap.size wr).alloc (Nat.le_refl _) (.cells #[.string x.1, .int .i64 x.2] 41)
        have hcall := hg x (wr.alloc (.cells #[.string x.1, .int .i64 x.2] 41)) hmem (hPT _ (hbw.trans (bA.mono hbw.size)))
        have hinj : ∀ y, y ∈ L → litS y.1 = litS x.1 → y.1 = x.1 := fun y hy e => litS_inj e
        have HX := Lib.hid hxk
        have HC := Lib.hid hc
        have HAT := Lib.hid hat
        have HPT := Lib.hid hPT
        have HG := Lib.hid hg
        have HSN := Lib.hid hsn
        have HI := Lib.hid hinj
        clear hx hxk hc hat hPT hg hmem hsn hinj
        go_wp2_with fail
        refine hcall.mono ?_
        rintro e w2 ⟨rfl, b2⟩
        have bT := bA.trans (b2.mono bA.size)
        have bw2 := hbw.trans (bT.mono hbw.size)
        have hsz2 : wr.heap.size < w2.heap.size := by have := b2.size; simp at this; omega
        have hsn2 := HSN.out.below bT HSN.out.lt
        have d0 := (b2.cell (p := ⟨wr.heap.size, 0, none⟩) (by simp)).trans (show (wr.alloc (.cells #[.string x.1, .int .i64 x.2] 41)).cell? ⟨wr.heap.size, 0, none⟩ = some (.string x.1) by simp [go_sem])
        have d1 := (b2.cell (p := ⟨wr.heap.size, 1, none⟩) (by simp)).trans (show (wr.alloc (.cells #[.string x.1, .int .i64 x.2] 41)).cell? ⟨wr.heap.size, 1, none⟩ = some (.int .i64 x.2) by simp [go_sem])
        clear hcall b2 bA c0 c1
        cases hgx : good x with
        | false =>
          have HB := Lib.hid (diffB_bad (key := fun x => x.1) hlt (by rw [HX.out]; exact hgx) : diffB good (fun x => x.1) L = false)
          clear hgx hks
          go_wp2
          go_ret
          exact ⟨lret_bool HB.out.symm, bw2⟩
        | true =>
          have HGX := Lib.hid hgx
          clear hgx
          by_cases hin : litS x.1 ∈ (L.take k).map (fun x => litS x.1)
          · have HB := Lib.hid (diffB_twice (good := good) (key := fun x => x.1) hlt (by
              obtain ⟨y, hy, e⟩ := List.mem_map.1 hin
              rw [HX.out]; exact List.mem_map.2 ⟨y, hy, HI.out y (List.mem_of_mem_take hy) e⟩) : diffB good (fun x => x.1) L = false)
            have HIN := Lib.hid hin
            clear hin
            go_wp2_with fail
            refine (keyR_any x.1 x.2 _).mono ?_
            rintro e w3 ⟨rfl, b3⟩
            have hlook := ((hsn2.below b3 hsn2.lt).look lawStr (T := 133) Tryz.underlying133 hks).1 HIN.out
            have bw3 := bw2.trans (b3.mono bw2.size)
            clear b3 hsn2
            go_wp2
            go_ret
            exact ⟨lret_bool HB.out.symm, bw3⟩
          · have HIN := Lib.hid hin
            clear hin
            go_wp2_with fail
            refine (keyR_any x.1 x.2 _).mono ?_
            rintro e w3 ⟨rfl, b3⟩
            have hsn3 := hsn2.below b3 hsn2.lt
            have hlook := (hsn3.look lawStr (T := 133) Tryz.underlying133 hks).2 HIN.out
            have bw3 := bw2.trans (b3.mono bw2.size)
            have e0 := (b3.cell (p := ⟨wr.heap.size, 0, none⟩) hsz2).trans d0
            have e1 := (b3.cell (p := ⟨wr.heap.size, 1, none⟩) hsz2).trans d1
            clear b3 hsn2 d0 d1
            go_wp2_with fail
            clear hlook
            refine (keyR_any x.1 x.2 _).mono ?_
            rintro e w4 ⟨rfl, b4⟩
            have bw4 := bw3.trans (b4.mono bw3.size)
            obtain ⟨D, hown, hmap, hatk⟩ := hsn3.below b4 hsn3.lt
            have HATK := Lib.hid hatk
            clear hatk hsn3 b4 e0 e1
            go_wp2_with (at_mapUpdate; refine wpList_mapUpdate_own _ rfl _ _ _ 133 rfl 9 4 lawStr Tryz.underlying133 _ w.heap.size k _ rfl hown (by unfold maxLen; omega) _ _ _ rfl rfl hks _ [] (plainElem_bool Tryz.underlying4 true) ?_; intro w5 hown1 hgrow1)
            go_roundw
            case rel =>
              obtain ⟨m1, m2⟩ := seen_put hmap HATK.out (keyS_lit x.1)
              refine ⟨k + 1, by omega, by go_num, ⟨_, hown1, m1, fun l => ?_⟩, diffAt_succ hlt HAT.out (by rw [HX.out]; exact HGX.out) ?_, bw4.grown hgrow1 bw4.size (fun j hj => by cases hj; exact Nat.le_refl _)⟩
              · rw [take_snoc L k hlt, HX.out]
                have := m2 l
                simpa [or_comm] using this
              · intro hm
                obtain ⟨y, hy, e⟩ := List.mem_map.1 hm
                rw [HX.out] at e
                exact HIN.out (List.mem_map.2 ⟨y, hy, congrArg litS e⟩)
            case measure => simp [intOf]; omega
      · obtain rfl : k = L.length := by omega
        have HE := Lib.hid (diffB_end hat)
        clear hat hsn hc hg hPT
        go_wp2
        go_ret
        exact ⟨lret_bool HE.out, hbw⟩
end Go.Proofs.YtficjcomefaocaaGreatDoor

/- WALK of matter.different over limits. -/
namespace Go.Proofs.YtficjcomefaocaaGreatDoor
open Go.RowKit Go.Maps

set_option maxHeartbeats 4000000 in
set_option maxRecDepth 100000 in
theorem diffL_any (good : Lim → Bool) (v : Value) (L : List (Lim)) (w : World) (h : RL w w.heap.size v L) (PT : World → Prop) (hPT : ∀ w', Below w.heap.size w w' → PT w')
    (hg : ∀ (x : Lim) (w' : World), x ∈ L → PT w' → Calls Tryz.prog 78 (#[.agg #[.string x.id, .int .i64 x.N, .int .i64 x.U, .int .i64 x.f, x.sv]] ++ #[]) w' fun e w'' => e = .returned (.bool (good x)) ∧ Below w'.heap.size w' w'') :
    Calls Tryz.prog 76 #[v, .func (.func 77) #[] #[], .func (.func 78) #[] #[]] w fun e w' => e = .returned (.bool (diffB good (fun x => x.id) L)) ∧ Below w.heap.size w w' := by
  obtain ⟨⟨A, cap, rfl, hl, h⟩, hsz, hst⟩ := h
  have hmm := @run_makeMap Tryz.prog
  rcases h with h0 | ⟨b, off, rfl, hB, hc⟩
  · obtain rfl : L = [] := List.eq_nil_of_length_eq_zero h0
    have hd : diffB good (fun x : Lim => x.id) [] = true := by rw [diffB_iff]; simp
    have HD := Lib.hid hd
    clear hd hg hPT
    go_enter Tryz.func76, Tryz.ntmps76
    go_wp2
    refine wp_loop_rounds 1 ?_
    rw [rounds_succ]
    go_wp2
    go_ret
    exact ⟨lret_bool HD.out.symm, (Below.refl _ _).alloc (Nat.le_refl _) _⟩
  · go_enter Tryz.func76, Tryz.ntmps76
    go_wp2
    go_loopw [13] (fun i wr => ∃ k : Nat, k ≤ L.length ∧ i = .int .i64 k ∧ Seen wr 9 w.heap.size k ((L.take k).map (fun x => litS x.id)) ∧ diffAt good (fun x => x.id) L k ∧ Below w.heap.size w wr) (fun i _ => L.length - (intOf i).toNat)
    case atStart => exact ⟨0, Nat.zero_le _, rfl, seen_made w _, diffAt_zero _ _ _, (Below.refl _ _).alloc (Nat.le_refl _) _⟩
    case round =>
      obtain ⟨k, hk, rfl, hsn, hat, hbw⟩ := hrel
      by_cases hlt : k < L.length
      · have c0 : wr.cell? ⟨b, off + k * 5, none⟩ = some (.string (L.getD k lim0).id) := (hbw.cell (p := ⟨b, off + k * 5, none⟩) hB).trans (by simpa using hc k hlt 0 _ rfl)
        have c1 : wr.cell? ⟨b, off + k * 5 + 1, none⟩ = some (.int .i64 (L.getD k lim0).N) := (hbw.cell (p := ⟨b, off + k * 5 + 1, none⟩) hB).trans (by simpa using hc k hlt 1 _ rfl)
        have c2 : wr.cell? ⟨b, off + k * 5 + 2, none⟩ = some (.int .i64 (L.getD k lim0).U) := (hbw.cell (p := ⟨b, off + k * 5 + 2, none⟩) hB).trans (by simpa using hc k hlt 2 _ rfl)
        have c3 : wr.cell? ⟨b, off + k * 5 + 3, none⟩ = some (.int .i64 (L.getD k lim0).f) := (hbw.cell (p := ⟨b, off + k * 5 + 3, none⟩) hB).trans (by simpa using hc k hlt 3 _ rfl)
        have c4 : wr.cell? ⟨b, off + k * 5 + 4, none⟩ = some ((L.getD k lim0).sv) := (hbw.cell (p := ⟨b, off + k * 5 + 4, none⟩) hB).trans (by simpa using hc k hlt 4 _ rfl)
        have hmem := getD_mem L lim0 hlt
        obtain ⟨x, hx⟩ : ∃ x, x = L.getD k lim0 := ⟨_, rfl⟩
        rw [← hx] at c0 c1 c2 c3 c4 hmem
        obtain ⟨SA, SC, hsv, _, _⟩ := hst x hmem
        rw [hsv] at c4
        have hxk : L[k] = x := by rw [hx, getD_eq L _ hlt]
        have hks : keyOf Tryz.prog 9 (.string x.id) = some (litS x.id) := keyS (by have := hsz x hmem; unfold maxLen; omega)
        have bA := (Below.refl wr.heap.size wr).alloc (Nat.le_refl _) (.cells #[.string x.id, .int .i64 x.N, .int .i64 x.U, .int .i64 x.f, .slice SA x.stops.length SC] 65)
        have hcall := hg x (wr.alloc (.cells #[.string x.id, .int .i64 x.N, .int .i64 x.U, .int .i64 x.f, .slice SA x.stops.length SC] 65)) hmem (hPT _ (hbw.trans (bA.mono hbw.size)))
        rw [hsv] at hcall
        clear hst hsv
        have hinj : ∀ y, y ∈ L → litS y.id = litS x.id → y.id = x.id := fun y hy e => litS_inj e
        have HX := Lib.hid hxk
        have HC := Lib.hid hc
        have HAT := Lib.hid hat
        have HPT := Lib.hid hPT
        have HG := Lib.hid hg
        have HSN := Lib.hid hsn
        have HI := Lib.hid hinj
        clear hx hxk hc hat hPT hg hmem hsn hinj
        go_wp2_with fail
        refine hcall.mono ?_
        rintro e w2 ⟨rfl, b2⟩
        have bT := bA.trans (b2.mono bA.size)
        have bw2 := hbw.trans (bT.mono hbw.size)
        have hsz2 : wr.heap.size < w2.heap.size := by have := b2.size; simp at this; omega
        have hsn2 := HSN.out.below bT HSN.out.lt
        have d0 := (b2.cell (p := ⟨wr.heap.size, 0, none⟩) (by simp)).trans (show (wr.alloc (.cells #[.string x.id, .int .i64 x.N, .int .i64 x.U, .int .i64 x.f, .slice SA x.stops.length SC] 65)).cell? ⟨wr.heap.size, 0, none⟩ = some (.string x.id) by simp [go_sem])
        have d1 := (b2.cell (p := ⟨wr.heap.size, 1, none⟩) (by simp)).trans (show (wr.alloc (.cells #[.string x.id, .int .i64 x.N, .int .i64 x.U, .int .i64 x.f, .slice SA x.stops.length SC] 65)).cell? ⟨wr.heap.size, 1, none⟩ = some (.int .i64 x.N) by simp [go_sem])
        have d2 := (b2.cell (p := ⟨wr.heap.size, 2, none⟩) (by simp)).trans (show (wr.alloc (.cells #[.string x.id, .int .i64 x.N, .int .i64 x.U, .int .i64 x.f, .slice SA x.stops.length SC] 65)).cell? ⟨wr.heap.size, 2, none⟩ = some (.int .i64 x.U) by simp [go_sem])
        have d3 := (b2.cell (p := ⟨wr.heap.size, 3, none⟩) (by simp)).trans (show (wr.alloc (.cells #[.string x.id, .int .i64 x.N, .int .i64 x.U, .int .i64 x.f, .slice SA x.stops.length SC] 65)).cell? ⟨wr.heap.size, 3, none⟩ = some (.int .i64 x.f) by simp [go_sem])
        have d4 := (b2.cell (p := ⟨wr.heap.size, 4, none⟩) (by simp)).trans (show (wr.alloc (.cells #[.string x.id, .int .i64 x.N, .int .i64 x.U, .int .i64 x.f, .slice SA x.stops.length SC] 65)).cell? ⟨wr.heap.size, 4, none⟩ = some (.slice SA x.stops.length SC) by simp [go_sem])
        clear hcall b2 bA c0 c1 c2 c3 c4
        cases hgx : good x with
        | false =>
          have HB := Lib.hid (diffB_bad (key := fun x => x.id) hlt (by rw [HX.out]; exact hgx) : diffB good (fun x => x.id) L = false)
          clear hgx hks
          go_wp2
          go_ret
          exact ⟨lret_bool HB.out.symm, bw2⟩
        | true =>
          have HGX := Lib.hid hgx
          clear hgx
          by_cases hin : litS x.id ∈ (L.take k).map (fun x => litS x.id)
          · have HB := Lib.hid (diffB_twice (good := good) (key := fun x => x.id) hlt (by
              obtain ⟨y, hy, e⟩ := List.mem_map.1 hin
              rw [HX.out]; exact List.mem_map.2 ⟨y, hy, HI.out y (List.mem_of_mem_take hy) e⟩) : diffB good (fun x => x.id) L = false)
            have HIN := Lib.hid hin
            clear hin
            go_wp2_with fail
            refine (keyL_any x.id x.N x.U x.f (.slice SA x.stops.length SC) _).mono ?_
            rintro e w3 ⟨rfl, b3⟩
            have hlook := ((hsn2.below b3 hsn2.lt).look lawStr (T := 133) Tryz.underlying133 hks).1 HIN.out
            have bw3 := bw2.trans (b3.mono bw2.size)
            clear b3 hsn2
            go_wp2
            go_ret
            exact ⟨lret_bool HB.out.symm, bw3⟩
          · have HIN := Lib.hid hin
            clear hin
            go_wp2_with fail
            refine (keyL_any x.id x.N x.U x.f (.slice SA x.stops.length SC) _).mono ?_
            rintro e w3 ⟨rfl, b3⟩
            have hsn3 := hsn2.below b3 hsn2.lt
            have hlook := (hsn3.look lawStr (T := 133) Tryz.underlying133 hks).2 HIN.out
            have bw3 := bw2.trans (b3.mono bw2.size)
            have e0 := (b3.cell (p := ⟨wr.heap.size, 0, none⟩) hsz2).trans d0
            have e1 := (b3.cell (p := ⟨wr.heap.size, 1, none⟩) hsz2).trans d1
            have e2 := (b3.cell (p := ⟨wr.heap.size, 2, none⟩) hsz2).trans d2
            have e3 := (b3.cell (p := ⟨wr.heap.size, 3, none⟩) hsz2).trans d3
            have e4 := (b3.cell (p := ⟨wr.heap.size, 4, none⟩) hsz2).trans d4
            clear b3 hsn2 d0 d1 d2 d3 d4
            go_wp2_with fail
            clear hlook
            refine (keyL_any x.id x.N x.U x.f (.slice SA x.stops.length SC) _).mono ?_
            rintro e w4 ⟨rfl, b4⟩
            have bw4 := bw3.trans (b4.mono bw3.size)
            obtain ⟨D, hown, hmap, hatk⟩ := hsn3.below b4 hsn3.lt
            have HATK := Lib.hid hatk
            clear hatk hsn3 b4 e0 e1 e2 e3 e4
            go_wp2_with (at_mapUpdate; refine wpList_mapUpdate_own _ rfl _ _ _ 133 rfl 9 4 lawStr Tryz.underlying133 _ w.heap.size k _ rfl hown (by unfold maxLen; omega) _ _ _ rfl rfl hks _ [] (plainElem_bool Tryz.underlying4 true) ?_; intro w5 hown1 hgrow1)
            go_roundw
            case rel =>
              obtain ⟨m1, m2⟩ := seen_put hmap HATK.out (keyS_lit x.id)
              refine ⟨k + 1, by omega, by go_num, ⟨_, hown1, m1, fun l => ?_⟩, diffAt_succ hlt HAT.out (by rw [HX.out]; exact HGX.out) ?_, bw4.grown hgrow1 bw4.size (fun j hj => by cases hj; exact Nat.le_refl _)⟩
              · rw [take_snoc L k hlt, HX.out]
                have := m2 l
                simpa [or_comm] using this
              · intro hm
                obtain ⟨y, hy, e⟩ := List.mem_map.1 hm
                rw [HX.out] at e
                exact HIN.out (List.mem_map.2 ⟨y, hy, congrArg litS e⟩)
            case measure => simp [intOf]; omega
      · obtain rfl : k = L.length := by omega
        have HE := Lib.hid (diffB_end hat)
        clear hat hsn hc hg hPT
        go_wp2
        go_ret
        exact ⟨lret_bool HE.out, hbw⟩
end Go.Proofs.YtficjcomefaocaaGreatDoor
