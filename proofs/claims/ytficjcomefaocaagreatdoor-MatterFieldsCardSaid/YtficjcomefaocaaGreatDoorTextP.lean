/- THE TEXT OF A MATTER in plain Lean; what formed says; its length. -/
import Derived.Test.YtficjcomefaocaaGreatDoorTextA
namespace Go.Proofs.YtficjcomefaocaaGreatDoor
open Go.RowKit Go.Maps
open Lexer

/-- a number of a formed matter -/
def numB (n : Int) : Bool := decide (0 ≤ n ∧ n ≤ 1000000)
theorem numB_wf {n : Int} (h : numB n = true) : (Lit.int .i64 n).wf = true := by
  simp [numB] at h
  exact WalkArith.wf_i64 (by omega)
/-- a limit's numbers -/
def limNs (x : Lim) : List Int := [x.N, x.U, x.f] ++ x.stops.flatMap fun s => [s.1, s.2]
def sMatter : List UInt8 := [109, 97, 116, 116, 101, 114, 32]
def sCase : List UInt8 := [99, 97, 115, 101]
def sMoved : List UInt8 := [109, 111, 118, 101, 100]
def sRight : List UInt8 := [114, 105, 103, 104, 116, 32]
def sLimit : List UInt8 := [108, 105, 109, 105, 116, 32]
def headF (m : Mat) : List UInt8 := sMatter ++ (m.id.data.toList ++ (32 :: (Lib.itoa m.opened ++ (32 :: m.proc.data.toList))))
def headL (m : Mat) : List UInt8 := lineL (headF m) [m.stage]
def rightL (x : ByteArray × Int) : List UInt8 := lineL (sRight ++ x.1.data.toList) [x.2]
def limitL (x : Lim) : List UInt8 := lineL (sLimit ++ x.id.data.toList) (limNs x)
def textB (m : Mat) : List UInt8 := headL m ++ (lineL sCase m.case_ ++ lineL sMoved m.moved)
def textL (m : Mat) : List UInt8 := textB m ++ (m.rights.flatMap rightL ++ m.limits.flatMap limitL)

theorem name_size {s : ByteArray} (h : nameB s = true) : s.size ≤ 24 := by
  unfold nameB at h
  have h' : nameS s := by simpa using h
  obtain ⟨_, h2, _⟩ := h'
  exact h2
/-- what formed says -/
structure FM (m : Mat) : Prop where
  id : nameB m.id = true
  proc : nameB m.proc = true
  op : numB m.opened = true
  s0 : 0 ≤ m.stage
  s1 : m.stage < 60
  cs : ∀ x ∈ m.case_, numB x = true
  cl : m.case_.length ≤ 60
  days : daysB m.opened m.moved = true
  mo : ∀ x ∈ m.moved, numB x = true
  ml : m.moved.length ≤ 60
  ri : ∀ x ∈ m.rights, nameB x.1 = true ∧ m.opened ≤ x.2 ∧ numB x.2 = true
  rk : (m.rights.map fun x => x.1).Nodup
  rl : m.rights.length ≤ 60
  li : ∀ x ∈ m.limits, limB x.id x.N x.U x.f x.stops = true
  lk : (m.limits.map fun x => x.id).Nodup
  ll : m.limits.length ≤ 60
theorem sortB_le {L : List Int} (h : sortB L = true) : ∀ j k, j ≤ k → k < L.length → L.getD j 0 ≤ L.getD k 0 := by
  have h' := of_decide_eq_true h
  intro j k hjk hk
  induction k with
  | zero => have : j = 0 := by omega
            subst this; exact Int.le_refl _
  | succ k ih =>
    by_cases e : j = k + 1
    · subst e; exact Int.le_refl _
    · have h1 := ih (by omega) (by omega)
      have h2 := h' (k + 1) hk (by omega)
      simp only [Nat.add_sub_cancel] at h2
      omega
theorem days_num {o : Int} {L : List Int} (ho : 0 ≤ o) (h : daysB o L = true) : ∀ x ∈ L, numB x = true := by
  intro x hx
  obtain ⟨j, hj, rfl⟩ := List.getElem_of_mem hx
  unfold daysB at h
  simp only [Bool.and_eq_true, Bool.or_eq_true, decide_eq_true_eq] at h
  obtain ⟨hs, h⟩ := h
  have hne : ¬ L.isEmpty = true := by intro e; rw [List.isEmpty_iff] at e; subst e; simp at hj
  rcases h with h | ⟨h0, hd⟩
  · exact absurd h hne
  · have a := sortB_le hs 0 j (Nat.zero_le _) hj
    have b := sortB_le hs j (L.length - 1) (by omega) (by omega)
    have e : L.getD j 0 = L[j] := getD_eq L 0 hj
    rw [e] at a b
    have hd2 := of_decide_eq_true hd
    unfold numB
    exact decide_eq_true ⟨by omega, by omega⟩
theorem formed_fm {m : Mat} (h : formedB m = true) : FM m := by
  unfold formedB at h
  simp only [Bool.and_eq_true, decide_eq_true_eq, diffB_iff] at h
  obtain ⟨h1, h2, h3, h4, h5, h6, h7, h8, h9, ⟨r1, r2, r3⟩, l1, l2, l3⟩ := h
  have ho := of_decide_eq_true h3
  refine ⟨h1, h2, h3, h4, h5, fun x hx => (List.all_eq_true.1 h6) x hx, h7, h8, days_num ho.1 h8, h9, fun x hx => ?_, r2, r3, l1, l2, l3⟩
  have := r1 x hx
  unfold rightB at this
  simp only [Bool.and_eq_true, decide_eq_true_eq] at this
  exact ⟨this.1.1, this.1.2, this.2⟩
theorem fm_formed {m : Mat} (h : FM m) : formedB m = true := by
  unfold formedB
  simp only [Bool.and_eq_true, decide_eq_true_eq, diffB_iff]
  refine ⟨h.id, h.proc, h.op, h.s0, h.s1, List.all_eq_true.2 fun x hx => h.cs x hx, h.cl, h.days, h.ml, ⟨fun x hx => ?_, h.rk, h.rl⟩, h.li, h.lk, h.ll⟩
  have := h.ri x hx
  unfold rightB
  simp only [Bool.and_eq_true, decide_eq_true_eq]
  exact ⟨⟨this.1, this.2.1⟩, this.2.2⟩
/-- what a limit's being proper says -/
structure FL (x : Lim) : Prop where
  id : nameB x.id = true
  n : numB x.N = true
  u0 : 1 ≤ x.U
  u1 : x.U ≤ 5
  f : numB x.f = true
  sl : x.stops.length ≤ 60
  st : ∀ s ∈ x.stops, 0 ≤ s.1 ∧ s.1 ≤ s.2 ∧ s.2 ≤ 1000000
theorem limB_iff {x : Lim} : limB x.id x.N x.U x.f x.stops = true ↔ FL x := by
  constructor
  · intro h
    unfold limB at h
    simp only [Bool.and_eq_true, decide_eq_true_eq] at h
    obtain ⟨⟨⟨⟨h1, h2⟩, h3⟩, h4⟩, h5⟩ := h
    have ht := of_decide_eq_true h3
    exact ⟨h1, decide_eq_true ⟨ht.2.2.1, ht.2.2.2⟩, ht.1, ht.2.1, h2, h4, fun s hs => of_decide_eq_true ((List.all_eq_true.1 h5) s hs)⟩
  · intro h
    have hn := of_decide_eq_true h.n
    unfold limB
    simp only [Bool.and_eq_true, decide_eq_true_eq]
    exact ⟨⟨⟨⟨h.id, h.f⟩, decide_eq_true ⟨h.u0, h.u1, hn.1, hn.2⟩⟩, h.sl⟩, List.all_eq_true.2 fun s hs => decide_eq_true (h.st s hs)⟩
theorem FL.ns {x : Lim} (h : FL x) : ∀ n ∈ limNs x, numB n = true := by
  intro n hn
  simp only [limNs, List.mem_append, List.mem_cons, List.not_mem_nil, or_false, List.mem_flatMap] at hn
  rcases hn with (rfl | rfl | rfl) | ⟨s, hs, rfl | rfl⟩
  · exact h.n
  · exact decide_eq_true ⟨by have := h.u0; omega, by have := h.u1; omega⟩
  · exact h.f
  · have := h.st s hs; exact decide_eq_true ⟨by omega, by omega⟩
  · have := h.st s hs; exact decide_eq_true ⟨by omega, by omega⟩
theorem limNs_len (x : Lim) : (limNs x).length = 3 + 2 * x.stops.length := by
  simp [limNs, List.length_flatMap]
  have : ∀ l : List (Int × Int), (List.map (fun _ => 2) l).sum = 2 * l.length := by
    intro l; induction l with
    | nil => rfl
    | cons a l ih => simp only [List.map_cons, List.sum_cons, List.length_cons, ih]; omega
  rw [this]; omega
theorem lineL_len {f : List UInt8} {L : List Int} (h : ∀ x ∈ L, numB x = true) : (lineL f L).length ≤ f.length + 22 * L.length + 1 := by
  have := numsL_len (L := L) fun x hx => numB_wf (h x hx)
  simp only [lineL, List.length_append, List.length_cons, List.length_nil]
  omega
theorem flat_len {α : Type} (f : α → List UInt8) (n : Nat) : ∀ L : List α, (∀ x ∈ L, (f x).length ≤ n) → (L.flatMap f).length ≤ n * L.length := by
  intro L
  induction L with
  | nil => intro _; simp
  | cons a L ih =>
    intro h
    have h1 := h a List.mem_cons_self
    have h2 := ih fun x hx => h x (List.mem_cons_of_mem _ hx)
    rw [List.flatMap_cons, List.length_append, List.length_cons, Nat.mul_succ]
    omega
theorem ba_len (s : ByteArray) : s.data.toList.length = s.size := (Lib.size_eq s).symm
theorem headF_len {m : Mat} (h : FM m) : (headF m).length ≤ 100 := by
  have h1 := name_size h.id
  have h2 := name_size h.proc
  have h3 := itoa_len m.opened (numB_wf h.op)
  simp only [headF, sMatter, List.length_append, List.length_cons, List.length_nil, ba_len]
  omega
theorem stage_num {m : Mat} (h : FM m) : numB m.stage = true := decide_eq_true ⟨h.s0, by have := h.s1; omega⟩
theorem headL_len {m : Mat} (h : FM m) : (headL m).length ≤ 123 := by
  have h1 := headF_len h
  have := lineL_len (f := headF m) (L := [m.stage]) (by intro x hx; rw [List.mem_singleton.1 hx]; exact stage_num h)
  simp only [List.length_cons, List.length_nil] at this
  unfold headL
  omega
theorem textB_len {m : Mat} (h : FM m) : (textB m).length ≤ 3000 := by
  have h1 := headL_len h
  have h2 := lineL_len (f := sCase) h.cs
  have h3 := lineL_len (f := sMoved) h.mo
  have := h.cl
  have := h.ml
  simp only [textB, List.length_append, sCase, sMoved, List.length_cons, List.length_nil] at *
  omega
theorem rightL_len {m : Mat} (h : FM m) : ∀ x ∈ m.rights, (rightL x).length ≤ 60 := by
  intro x hx
  have hr := h.ri x hx
  have := lineL_len (f := sRight ++ x.1.data.toList) (L := [x.2]) (by intro y hy; rw [List.mem_singleton.1 hy]; exact hr.2.2)
  have := name_size hr.1
  simp only [List.length_append, sRight, List.length_cons, List.length_nil, ba_len] at *
  unfold rightL
  simp only [sRight] at *
  omega
theorem limitL_len {m : Mat} (h : FM m) : ∀ x ∈ m.limits, (limitL x).length ≤ 2800 := by
  intro x hx
  have hr := limB_iff.1 (h.li x hx)
  have := lineL_len (f := sLimit ++ x.id.data.toList) hr.ns
  have := name_size hr.id
  have := limNs_len x
  have := hr.sl
  simp only [List.length_append, sLimit, List.length_cons, List.length_nil, ba_len] at *
  unfold limitL
  simp only [sLimit] at *
  omega
theorem rights_len {m : Mat} (h : FM m) (k : Nat) : ((m.rights.take k).flatMap rightL).length ≤ 3600 := by
  have h1 := flat_len rightL 60 (m.rights.take k) fun x hx => rightL_len h x (List.mem_of_mem_take hx)
  have h2 : (m.rights.take k).length ≤ 60 := by rw [List.length_take]; have := h.rl; omega
  omega
theorem limits_len {m : Mat} (h : FM m) (k : Nat) : ((m.limits.take k).flatMap limitL).length ≤ 168000 := by
  have h1 := flat_len limitL 2800 (m.limits.take k) fun x hx => limitL_len h x (List.mem_of_mem_take hx)
  have h2 : (m.limits.take k).length ≤ 60 := by rw [List.length_take]; have := h.ll; omega
  omega
theorem textL_len {m : Mat} (h : FM m) : (textL m).length ≤ 200000 := by
  have h1 := textB_len h
  have h2 := rights_len h m.rights.length
  have h3 := limits_len h m.limits.length
  rw [List.take_length] at h2 h3
  simp only [textL, List.length_append]
  omega
theorem flat_take {α β : Type} (f : α → List β) (L : List α) (d : α) (k : Nat) (h : k < L.length) : (L.take (k + 1)).flatMap f = (L.take k).flatMap f ++ f (L.getD k d) := by
  rw [← List.take_append_getElem h, List.flatMap_append, getD_eq L d h]
  simp
end Go.Proofs.YtficjcomefaocaaGreatDoor
