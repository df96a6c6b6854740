/- WALKS of the calendar: closedOn, open, Work. -/
import Derived.Test.YtpelnfolnlmhdaaDoorCalE
import Derived.Test.YtpelnfolnlmhdaaDoorCalPlainC
import Derived.Maps.OwnOps
import Derived.Maps.Views
namespace Go.Proofs.YtpelnfolnlmhdaaDoor
open Go.RowKit Go.Maps
open Cal

theorem lawInt : Keyed Tryd.prog 3 := int_keyed Tryd.underlying3
theorem zeroBool (w : World) : (zeroValue 4).run Tryd.prog w = .ok (.bool false) w := by kernel_rfl

theorem plainElem_bool_inv {H : Type} {P : Program} {e : TypeId} (he : P.underlying e = some .bool) {v : Value} {z : DataW H × List MemPlace} (h : plainElem P e v = some z) : ∃ x, v = .bool x ∧ z = (.lit (.bool x), []) := by
  unfold plainElem at h
  rw [he] at h
  cases v <;> simp at h
  exact ⟨_, rfl, h.symm⟩

/-- block b is the set of the closed days L -/
def Shut (w : World) (b n : Nat) (L : List Int) : Prop :=
  ∃ D : DataW Unit, w.ownsMap Tryd.prog 3 (plainElem Tryd.prog 4) b n D ∧ IsMap D ∧ ∀ x : Int, D.atKey (.int .i64 x) (.lit (.bool false)) = .lit (.bool (decide (x ∈ L)))

theorem Shut.lt {w : World} {b n : Nat} {L : List Int} (h : Shut w b n L) : b < w.heap.size := by obtain ⟨D, h, _⟩ := h; exact h.lt
theorem Shut.below {w w' : World} {b n B : Nat} {L : List Int} (h : Shut w b n L) (hb : Below B w w') (hB : b < B) : Shut w' b n L := by
  obtain ⟨D, ⟨es, clock, hh, F, hs, hD⟩, h2⟩ := h
  exact ⟨D, ⟨es, clock, (hb.block b hB).trans hh, F, hs, hD⟩, h2⟩
theorem Shut.alloc {w : World} {b n : Nat} {L : List Int} (h : Shut w b n L) (o : Obj) : Shut (w.alloc o) b n L := h.below ((Below.refl w.heap.size w).alloc (Nat.le_refl _) o) h.lt
theorem shut_made (w : World) : Shut (w.alloc (.map #[] 0)) w.heap.size 0 [] :=
  ⟨_, World.ownsMap_made _ _ _ _, isMap_empty, fun x => by simp [DataW.atKey]⟩
theorem Shut.look {w : World} {b n : Nat} {L : List Int} (h : Shut w b n L) (x : Int) (hx : (Lit.int .i64 x).wf = true) :
    (Instr.lookup 51 (.map (some b)) (.int .i64 x) false).run Tryd.prog w = .ok (.bool (decide (x ∈ L))) w := by
  obtain ⟨D, ho, _, hat⟩ := h
  obtain ⟨v, ps, hrun, hv⟩ := ho.lookup lawInt (t := 51) Tryd.underlying51 (zeroBool w) (plainElem_bool Tryd.underlying4 false) (keyOf_int_mk Tryd.underlying3 hx)
  rw [hat x] at hv
  obtain ⟨y, rfl, hy⟩ := plainElem_bool_inv Tryd.underlying4 hv
  simp only [Prod.mk.injEq, DataW.lit.injEq, Lit.bool.injEq] at hy
  rw [hrun, ← hy.1]

/-- the value v reads as the ints L, below block B -/
def RI (w : World) (B : Nat) (v : Value) (L : List Int) : Prop :=
  ∃ A cap, v = .slice A L.length cap ∧ L.length * 8 ≤ 140737488355328 ∧ (∀ x ∈ L, (Lit.int .i64 x).wf = true) ∧ (L = [] ∨ ∃ b off, A = some ⟨b, off, none⟩ ∧ b < B ∧ ∀ k, k < L.length → w.cell? ⟨b, off + k, none⟩ = some (.int .i64 (L.getD k 0)))
theorem RI.below {w w' : World} {B : Nat} {v : Value} {L : List Int} (h : RI w B v L) (hb : Below B w w') : RI w' B v L := by
  obtain ⟨A, cap, hv, hl, hw, h⟩ := h
  refine ⟨A, cap, hv, hl, hw, ?_⟩
  rcases h with h | ⟨b, off, ha, hB, hc⟩
  · exact .inl h
  · exact .inr ⟨b, off, ha, hB, fun k hk => (hb.cell (p := ⟨b, off + k, none⟩) hB).trans (hc k hk)⟩
theorem RI.more {w : World} {B B' : Nat} {v : Value} {L : List Int} (h : RI w B v L) (hB : B ≤ B') : RI w B' v L := by
  obtain ⟨A, cap, hv, hl, hw, h⟩ := h
  refine ⟨A, cap, hv, hl, hw, ?_⟩
  rcases h with h | ⟨b, off, ha, hb, hc⟩
  · exact .inl h
  · exact .inr ⟨b, off, ha, by omega, hc⟩
theorem RI.alloc {w : World} {v : Value} {L : List Int} (h : RI w w.heap.size v L) (o : Obj) : RI (w.alloc o) w.heap.size v L := h.below ((Below.refl w.heap.size w).alloc (Nat.le_refl _) o)
theorem ri_nil (w : World) (B : Nat) : RI w B (.slice none 0 0) [] := ⟨none, 0, rfl, by simp, by simp, .inl rfl⟩

theorem take_getD (L : List Int) (k : Nat) (hk : k < L.length) : L.take (k + 1) = L.take k ++ [L.getD k 0] := by
  rw [List.take_add_one, List.getD_eq_getElem?_getD, List.getElem?_eq_getElem hk]; simp

/-- the map that a call has made of closed days, and the world's road there -/
def MadeMap (w : World) (L : List Int) (e : Ending) (w' : World) : Prop := ∃ b, e = .returned (.map (some b)) ∧ w.heap.size ≤ b ∧ Shut w' b L.length L ∧ Below w.heap.size w w'

set_option maxHeartbeats 400000 in
theorem closedOn_any (v : Value) (L : List Int) (w : World) (h : RI w w.heap.size v L) :
    Calls Tryd.prog 31 #[v] w (MadeMap w L) := by
  obtain ⟨A, cap, rfl, hl, hw, h⟩ := h
  have hmm := @run_makeMap Tryd.prog
  rcases h with rfl | ⟨b, off, rfl, hB, hc⟩
  · go_enter Tryd.func31, Tryd.ntmps31
    go_wp2
    refine wp_loop_rounds 1 ?_
    rw [rounds_succ]
    go_wp2
    go_ret
    exact ⟨_, rfl, Nat.le_refl _, shut_made w, (Below.refl _ _).alloc (Nat.le_refl _) _⟩
  · go_enter Tryd.func31, Tryd.ntmps31
    go_wp2
    go_loopw [9] (fun i wr => ∃ k : Nat, k ≤ L.length ∧ i = .int .i64 k ∧ Shut wr w.heap.size k (L.take k) ∧ Below w.heap.size w wr) (fun i _ => L.length - (intOf i).toNat)
    case atStart => exact ⟨0, Nat.zero_le _, rfl, by simpa using shut_made w, (Below.refl _ _).alloc (Nat.le_refl _) _⟩
    case round =>
      obtain ⟨k, hk, rfl, hsh, hbw⟩ := hrel
      by_cases hlt : k < L.length
      · have hcell : wr.cell? ⟨b, off + k, none⟩ = some (.int .i64 (L.getD k 0)) := (hbw.cell (p := ⟨b, off + k, none⟩) hB).trans (hc k hlt)
        obtain ⟨x, hx⟩ : ∃ x, x = L.getD k 0 := ⟨_, rfl⟩
        have hwx : (Lit.int .i64 x).wf = true := by
          apply hw; rw [hx, List.getD_eq_getElem?_getD, List.getElem?_eq_getElem hlt]; simp
        rw [← hx] at hcell
        have HX := Lib.hid hx
        have HC := Lib.hid hc
        have HW := Lib.hid hw
        clear hx hc hw
        obtain ⟨D, hown, hmap, hat⟩ := hsh
        have HAT := Lib.hid hat
        clear hat
        go_wp2_with (at_mapUpdate; refine wpList_mapUpdate_own _ rfl _ _ _ 51 rfl 3 4 lawInt Tryd.underlying51 _ w.heap.size k _ rfl hown (by unfold maxLen; omega) _ _ _ rfl rfl (keyOf_int_mk Tryd.underlying3 hwx) _ [] (plainElem_bool Tryd.underlying4 true) ?_; intro w1 hown1 hgrow1)
        go_roundw
        case rel =>
          refine ⟨k + 1, by omega, by go_num, ⟨_, hown1, hmap.put _ _, fun y => ?_⟩, hbw.grown hgrow1 hbw.size (fun j hj => by cases hj; exact Nat.le_refl _)⟩
          rw [take_getD L k hlt, ← HX.out]
          by_cases hy : y = x
          · subst hy
            rw [atKey_put_same hmap (by trivial)]
            simp
          · rw [atKey_put_other (by simpa using hy), HAT.out y]
            simp [hy]
        case measure => simp [intOf]; omega
      · obtain rfl : k = L.length := by omega
        rw [List.take_length] at hsh
        go_wp2
        go_ret
        exact ⟨_, rfl, Nat.le_refl _, hsh, hbw⟩

theorem day_wf {n : Int} (h0 : 0 ≤ n) (h1 : n ≤ 1000000) : (Lit.int .i64 n).wf = true := WalkArith.wf_i64 (by omega)

set_option maxHeartbeats 400000 in
theorem open_any (b k : Nat) (L : List Int) (n : Int) (w : World) (h : Shut w b k L) :
    Calls Tryd.prog 32 #[.map (some b), .int .i64 n] w fun e w' => e = .returned (.bool (opn L n)) ∧ w = w' := by
  by_cases hi : n < 0 ∨ 1000000 < n
  · rw [opn_no (by omega)]
    go_enter Tryd.func32, Tryd.ntmps32
    go_wp2_with (go_at_call 30; refine (is_no _ _ hi).mono ?_; rintro e w' ⟨rfl, rfl⟩)
    go_ret
    exact ⟨rfl, rfl⟩
  · have h0 : 0 ≤ n := by omega
    have h1 : n ≤ 1000000 := by omega
    clear hi
    by_cases hw : (n + 5) % 7 < 5
    · have hl := h.look n (day_wf h0 h1)
      by_cases hm : n ∈ L
      · have hm2 : decide (n ∈ L) = true := by simpa using hm
        rw [opn_no (fun h => h.2.2.2 hm)]
        rw [hm2] at hl
        clear hm hm2
        go_enter Tryd.func32, Tryd.ntmps32
        go_wp2_with (first | (go_at_call 30; refine (is_yes _ _ h0 h1).mono ?_; rintro e w' ⟨rfl, rfl⟩) | (go_at_call 16; refine (weekday_yes _ _ h0 h1).mono ?_; rintro e w' ⟨rfl, rfl⟩))
        go_ret
        exact ⟨rfl, rfl⟩
      · have hm2 : decide (n ∈ L) = false := by simpa using hm
        rw [opn_yes ⟨h0, h1, hw, hm⟩]
        rw [hm2] at hl
        clear hm hm2
        go_enter Tryd.func32, Tryd.ntmps32
        go_wp2_with (first | (go_at_call 30; refine (is_yes _ _ h0 h1).mono ?_; rintro e w' ⟨rfl, rfl⟩) | (go_at_call 16; refine (weekday_yes _ _ h0 h1).mono ?_; rintro e w' ⟨rfl, rfl⟩))
        go_ret
        exact ⟨rfl, rfl⟩
    · rw [opn_no (fun h => hw h.2.2.1)]
      have hd : decide ((n + 5) % 7 < 5) = false := by simp; omega
      go_enter Tryd.func32, Tryd.ntmps32
      go_wp2_with (first | (go_at_call 30; refine (is_yes _ _ h0 h1).mono ?_; rintro e w' ⟨rfl, rfl⟩) | (go_at_call 16; refine (weekday_yes _ _ h0 h1).mono ?_; rintro e w' ⟨rfl, rfl⟩))
      go_ret
      exact ⟨rfl, rfl⟩

theorem work_any (v : Value) (L : List Int) (n : Int) (w : World) (h : RI w w.heap.size v L) :
    Calls Tryd.prog 17 #[.int .i64 n, v] w fun e w' => e = .returned (.bool (opn L n)) ∧ Below w.heap.size w w' := by
  go_enter Tryd.func17, Tryd.ntmps17
  go_wp2_with fail
  refine (closedOn_any v L _ h).mono ?_
  rintro e w1 ⟨b, rfl, hb, hsh, hbw⟩
  go_wp2_with fail
  refine (open_any b _ L _ _ hsh).mono ?_
  rintro e w2 ⟨rfl, rfl⟩
  go_wp2
  go_ret
  exact ⟨rfl, hbw⟩

end Go.Proofs.YtpelnfolnlmhdaaDoor
