/- WALKS of the references' Same, ints, Has, right. -/
import Derived.Test.YtficjcomefaocaaGreatDoorRfEq
import Derived.Test.YtficjcomefaocaaGreatDoorReadAll
namespace Go.Proofs.YtficjcomefaocaaGreatDoor
open Go.RowKit Go.Maps
open Lexer

theorem take_one {α : Type} (L : List α) (d : α) {k : Nat} (h : k < L.length) : L.take (k + 1) = L.take k ++ [L.getD k d] := by rw [getD_eq L d h, List.take_append_getElem]
theorem take_eq {α : Type} {L M : List α} (d : α) {k : Nat} (h1 : k < L.length) (h2 : k < M.length) (ht : L.take k = M.take k) (h : L.getD k d = M.getD k d) : L.take (k + 1) = M.take (k + 1) := by
  rw [take_one L d h1, take_one M d h2, ht, h]
theorem take_ne {α : Type} {L M : List α} (d : α) {k : Nat} (h : L.getD k d ≠ M.getD k d) : L ≠ M := fun e => h (by rw [e])
theorem take_all {α : Type} {L M : List α} (hl : L.length = M.length) (ht : L.take L.length = M.take L.length) : L = M := by
  rw [List.take_length] at ht
  rw [ht, hl, List.take_length]
theorem neq_false {x y : Int} (h : x = y) : (x != y) = false := by simp [h]
theorem neq_true {x y : Int} (h : x ≠ y) : (x != y) = true := by simpa using h
theorem str_eq {a b : ByteArray} (h : a = b) : (a.toList == b.toList) = true := by simp [h]
theorem strn_false {a b : ByteArray} (h : a = b) : (a.toList != b.toList) = false := by simp [h]
theorem andn_true {a b c d : Int} (h : ¬ (a = c ∧ b = d)) : (!(a == c && b == d)) = true := by
  rw [Bool.not_eq_true', Bool.eq_false_iff]
  intro h'
  simp only [Bool.and_eq_true, beq_iff_eq] at h'
  exact h h'
theorem strn_true {a b : ByteArray} (h : a ≠ b) : (a.toList != b.toList) = true := by simp only [bne, str_ne h]; rfl

set_option maxHeartbeats 1000000 in
theorem ints_any (v1 v2 : Value) (L1 L2 : List Int) (w : World) (h1 : RI w w.heap.size v1 L1) (h2 : RI w w.heap.size v2 L2) :
    Calls Tryz.prog 48 #[v1, v2] w fun e w' => e = .returned (.bool (decide (L1 = L2))) ∧ Below w.heap.size w w' := by
  obtain ⟨B, hB⟩ : ∃ B, B = decide (L1 = L2) := ⟨_, rfl⟩
  rw [← hB]
  have HB := Lib.hid hB
  obtain ⟨A1, p1, rfl, l1, _, hc1⟩ := h1
  obtain ⟨A2, p2, rfl, l2, _, hc2⟩ := h2
  have H1 := Lib.hid hc1
  have H2 := Lib.hid hc2
  clear hB hc1 hc2
  by_cases hlen : L1.length = L2.length
  · have g0 := neq_false (show (L1.length : Int) = (L2.length : Int) by omega)
    have HLEN := Lib.hid hlen
    clear hlen
    go_enter Tryz.func48, Tryz.ntmps48
    go_wp2
    go_loopw [5] (fun i wr => ∃ k : Nat, k ≤ L1.length ∧ i = .int .i64 k ∧ L1.take k = L2.take k ∧ Below w.heap.size w wr) (fun i _ => L1.length - (intOf i).toNat)
    case atStart => exact ⟨0, Nat.zero_le _, rfl, by simp, Below.refl _ _⟩
    case round =>
      obtain ⟨k, hk, rfl, ht, hbw⟩ := hrel
      have HT := Lib.hid ht
      clear ht
      by_cases hlt : k < L1.length
      · have hlt2 : k < L2.length := HLEN.out ▸ hlt
        rcases H1.out with hc | ⟨q1, o1, rfl, hq1, hc1⟩
        · rw [hc] at hlt; simp at hlt
        rcases H2.out with hc | ⟨q2, o2, rfl, hq2, hc2⟩
        · rw [hc] at hlt2; simp at hlt2
        have c0 := (hbw.cell (p := ⟨q1, o1 + k, none⟩) hq1).trans (hc1 k hlt)
        have c1 := (hbw.cell (p := ⟨q2, o2 + k, none⟩) hq2).trans (hc2 k hlt2)
        have hte := take_eq (0 : Int) hlt hlt2 HT.out
        have htn := take_ne (L := L1) (M := L2) (0 : Int) (k := k)
        obtain ⟨x, hx⟩ : ∃ x, x = L1.getD k 0 := ⟨_, rfl⟩
        obtain ⟨y, hy⟩ : ∃ y, y = L2.getD k 0 := ⟨_, rfl⟩
        rw [← hx] at c0 hte htn
        rw [← hy] at c1 hte htn
        have HTE := Lib.hid hte
        have HTN := Lib.hid htn
        have g1 : (0 : Int) ≤ (k : Int) := by omega
        have g2 : (k : Int) < (L1.length : Int) := by omega
        have g3 : (k : Int) < (L2.length : Int) := by omega
        clear hx hy hc1 hc2 hte htn
        by_cases he : x = y
        · have g4 := neq_false he
          have h3 := HTE.out he
          have H3 := Lib.hid h3
          clear he h3
          go_wp2
          go_quiet (fail)
          go_wp2
          go_roundw
          case rel => exact ⟨k + 1, by omega, by go_num, H3.out, below_drewN hbw _⟩
          case measure => simp [intOf]; omega
        · have g4 := neq_true he
          have hb : B = false := by rw [HB.out, decide_eq_false_iff_not]; exact HTN.out he
          subst hb
          clear he
          go_wp2
          go_quiet (fail)
          go_wp2
          go_ret
          exact ⟨rfl, below_drewN hbw _⟩
      · obtain rfl : k = L1.length := by omega
        have hb : B = true := by rw [HB.out, decide_eq_true_iff]; exact take_all HLEN.out HT.out
        subst hb
        go_wp2
        go_ret
        exact ⟨rfl, hbw⟩
  · have g0 := neq_true (show (L1.length : Int) ≠ (L2.length : Int) by omega)
    have hb : B = false := by rw [HB.out, decide_eq_false_iff_not]; exact fun e => hlen (by rw [e])
    subst hb
    go_enter Tryz.func48, Tryz.ntmps48
    go_wp2
    go_ret
    exact ⟨rfl, Below.refl _ _⟩

/-- are two limits equal -/
noncomputable def limEq (x y : Lim) : Bool := by classical exact decide (x.norm = y.norm)
theorem limEq_iff {x y : Lim} : limEq x y = true ↔ (x.id = y.id ∧ (x.N = y.N ∧ x.U = y.U) ∧ x.f = y.f ∧ x.stops = y.stops) := by
  unfold limEq
  obtain ⟨i, n, u, f, s, l⟩ := x
  obtain ⟨i', n', u', f', s', l'⟩ := y
  simp only [Lim.norm, decide_eq_true_eq, Lim.mk.injEq, true_and]
  constructor
  · rintro ⟨a, b, c, d, e⟩; exact ⟨a, ⟨b, c⟩, d, e⟩
  · rintro ⟨a, ⟨b, c⟩, d, e⟩; exact ⟨a, b, c, d, e⟩
theorem limEq_no {x y : Lim} (h : ¬ (x.id = y.id ∧ (x.N = y.N ∧ x.U = y.U) ∧ x.f = y.f ∧ x.stops = y.stops)) : limEq x y = false := by rw [Bool.eq_false_iff, ne_eq, limEq_iff]; exact h
set_option maxHeartbeats 4000000 in
set_option maxRecDepth 100000 in
theorem same30_any (i1 : ByteArray) (N1 U1 f1 : Int) (v1 : Value) (L1 : List (Int × Int)) (i2 : ByteArray) (N2 U2 f2 : Int) (v2 : Value) (L2 : List (Int × Int)) (w : World) (h1 : RP w w.heap.size v1 L1) (h2 : RP w w.heap.size v2 L2) :
    Calls Tryz.prog 49 #[.agg #[.string i1, .int .i64 N1, .int .i64 U1, .int .i64 f1, v1], .agg #[.string i2, .int .i64 N2, .int .i64 U2, .int .i64 f2, v2]] w fun e w' => e = .returned (.bool (limEq ⟨i1, N1, U1, f1, v1, L1⟩ ⟨i2, N2, U2, f2, v2, L2⟩)) ∧ Below w.heap.size w w' := by
  obtain ⟨A1, p1, rfl, l1, hc1⟩ := h1
  obtain ⟨A2, p2, rfl, l2, hc2⟩ := h2
  obtain ⟨B, hB⟩ : ∃ B, B = limEq ⟨i1, N1, U1, f1, .slice A1 L1.length p1, L1⟩ ⟨i2, N2, U2, f2, .slice A2 L2.length p2, L2⟩ := ⟨_, rfl⟩
  rw [← hB]
  have hno : ¬ (i1 = i2 ∧ (N1 = N2 ∧ U1 = U2) ∧ f1 = f2 ∧ L1 = L2) → B = false := fun h => by rw [hB]; exact limEq_no h
  have hyes : (i1 = i2 ∧ (N1 = N2 ∧ U1 = U2) ∧ f1 = f2 ∧ L1 = L2) → B = true := fun h => by rw [hB]; exact limEq_iff.2 h
  have HNO := Lib.hid hno
  have HYES := Lib.hid hyes
  have H1 := Lib.hid hc1
  have H2 := Lib.hid hc2
  have b0 : Below w.heap.size w ((w.alloc (.cells #[.string i1, .int .i64 N1, .int .i64 U1, .int .i64 f1, .slice A1 L1.length p1] 65)).alloc (.cells #[.string i2, .int .i64 N2, .int .i64 U2, .int .i64 f2, .slice A2 L2.length p2] 65)) := ((Below.refl _ _).alloc (Nat.le_refl _) _).alloc (by simp) _
  clear hB hno hyes hc1 hc2
  have ht := neq_term N1 U1 N2 U2
  by_cases e1 : i1 = i2
  · subst e1
    by_cases e2 : N1 = N2 ∧ U1 = U2
    · obtain ⟨rfl, rfl⟩ := e2
      rw [show (!(N1 == N1 && U1 == U1)) = false by simp] at ht
      by_cases e3 : f1 = f2
      · subst e3
        by_cases e4 : L1.length = L2.length
        · have g0 := neq_false (show (L1.length : Int) = (L2.length : Int) by omega)
          have HLEN := Lib.hid e4
          clear e4
          go_enter Tryz.func49, Tryz.ntmps49
          go_wp2
          go_loopw [5] (fun i wr => ∃ k : Nat, k ≤ L1.length ∧ i = .int .i64 k ∧ L1.take k = L2.take k ∧ Below (w.heap.size + 2) ((w.alloc (.cells #[.string i1, .int .i64 N1, .int .i64 U1, .int .i64 f1, .slice A1 L1.length p1] 65)).alloc (.cells #[.string i1, .int .i64 N1, .int .i64 U1, .int .i64 f1, .slice A2 L2.length p2] 65)) wr) (fun i _ => L1.length - (intOf i).toNat)
          case atStart => exact ⟨0, Nat.zero_le _, rfl, by simp, Below.refl _ _⟩
          case round =>
            obtain ⟨k, hk, rfl, ht', hbw⟩ := hrel
            have k0 : wr.cell? ⟨w.heap.size, 4, none⟩ = some (.slice A1 L1.length p1) := (hbw.cell (p := ⟨w.heap.size, 4, none⟩) (by show w.heap.size < w.heap.size + 2; omega)).trans (by simp [go_sem])
            have k1 : wr.cell? ⟨w.heap.size + 1, 4, none⟩ = some (.slice A2 L2.length p2) := (hbw.cell (p := ⟨w.heap.size + 1, 4, none⟩) (by show w.heap.size + 1 < w.heap.size + 2; omega)).trans (by simp [go_sem])
            have hbt := b0.trans (hbw.mono (Nat.le_add_right _ _))
            have HT := Lib.hid ht'
            have HBW := Lib.hid hbw
            clear ht' hbw
            by_cases hlt : k < L1.length
            · have hlt2 : k < L2.length := HLEN.out ▸ hlt
              rcases H1.out with hc | ⟨q1, o1, rfl, hq1, hc1⟩
              · rw [hc] at hlt; simp at hlt
              rcases H2.out with hc | ⟨q2, o2, rfl, hq2, hc2⟩
              · rw [hc] at hlt2; simp at hlt2
              have c0 := (hbt.cell (p := ⟨q1, o1 + k * 2, none⟩) hq1).trans (hc1 k hlt).1
              have c1 := (hbt.cell (p := ⟨q1, o1 + k * 2 + 1, none⟩) hq1).trans (hc1 k hlt).2
              have c2 := (hbt.cell (p := ⟨q2, o2 + k * 2, none⟩) hq2).trans (hc2 k hlt2).1
              have c3 := (hbt.cell (p := ⟨q2, o2 + k * 2 + 1, none⟩) hq2).trans (hc2 k hlt2).2
              have hte := take_eq ((0, 0) : Int × Int) hlt hlt2 HT.out
              have htn := take_ne (L := L1) (M := L2) ((0, 0) : Int × Int) (k := k)
              obtain ⟨x, hx⟩ : ∃ x, x = L1.getD k (0, 0) := ⟨_, rfl⟩
              obtain ⟨y, hy⟩ : ∃ y, y = L2.getD k (0, 0) := ⟨_, rfl⟩
              rw [← hx] at c0 c1 hte htn
              rw [← hy] at c2 c3 hte htn
              obtain ⟨x1, x2⟩ := x
              obtain ⟨y1, y2⟩ := y
              simp only at c0 c1 c2 c3
              have HTE := Lib.hid hte
              have HTN := Lib.hid htn
              have g1 : (0 : Int) ≤ (k : Int) := by omega
              have g2 : (k : Int) < (L1.length : Int) := by omega
              have g3 : (k : Int) < (L2.length : Int) := by omega
              have heq := neq_stop x1 x2 y1 y2
              clear hx hy hc1 hc2 hte htn ht
              by_cases he : x1 = y1 ∧ x2 = y2
              · obtain ⟨rfl, rfl⟩ := he
                have H3 := Lib.hid (HTE.out rfl)
                rw [show (!(x1 == x1 && x2 == x2)) = false by simp] at heq
                go_wp2
                go_quiet (fail)
                go_wp2
                go_roundw
                case rel => exact ⟨k + 1, by omega, by go_num, H3.out, below_drewN HBW.out _⟩
                case measure => simp [intOf]; omega
              · have hb : B = false := HNO.out fun h => he (by
                  have h4 : (x1, x2) = (y1, y2) := Classical.byContradiction fun hh => HTN.out hh h.2.2.2
                  exact ⟨congrArg Prod.fst h4, congrArg Prod.snd h4⟩)
                subst hb
                rw [andn_true he] at heq
                clear he
                go_wp2
                go_quiet (fail)
                go_wp2
                go_ret
                exact ⟨rfl, below_drewN hbt _⟩
            · obtain rfl : k = L1.length := by omega
              have hb : B = true := HYES.out ⟨by trivial, ⟨by trivial, by trivial⟩, by trivial, take_all HLEN.out HT.out⟩
              subst hb
              clear ht
              go_wp2
              go_ret
              exact ⟨rfl, hbt⟩
        · have g0 := neq_true (show (L1.length : Int) ≠ (L2.length : Int) by omega)
          have hb : B = false := HNO.out fun h => e4 (by rw [h.2.2.2])
          subst hb
          go_enter Tryz.func49, Tryz.ntmps49
          go_wp2
          go_ret
          exact ⟨rfl, b0⟩
      · have g0 := neq_true e3
        have hb : B = false := HNO.out fun h => e3 h.2.2.1
        subst hb
        clear e3
        go_enter Tryz.func49, Tryz.ntmps49
        go_wp2
        go_ret
        exact ⟨rfl, b0⟩
    · have hb : B = false := HNO.out fun h => e2 h.2.1
      subst hb
      rw [andn_true e2] at ht
      clear e2
      go_enter Tryz.func49, Tryz.ntmps49
      go_wp2
      go_ret
      exact ⟨rfl, b0⟩
  · have g0 := strn_true e1
    have g1 := str_ne e1
    have hb : B = false := HNO.out fun h => e1 h.1
    subst hb
    clear e1 ht
    go_enter Tryz.func49, Tryz.ntmps49
    go_wp2
    go_ret
    exact ⟨rfl, b0⟩


/-- are two matters equal -/
noncomputable def sameB (a b : Mat) : Bool := by classical exact decide (a.norm = b.norm)
theorem sameB_iff {a b : Mat} : sameB a b = true ↔ (a.id = b.id ∧ a.opened = b.opened ∧ a.proc = b.proc ∧ a.stage = b.stage ∧ a.case_ = b.case_ ∧ a.moved = b.moved ∧ a.rights = b.rights ∧ a.limits.map Lim.norm = b.limits.map Lim.norm) := by
  have e : sameB a b = true ↔ a.norm = b.norm := by unfold sameB; simp
  rw [e]
  obtain ⟨a1, a2, a3, a4, a5, a6, a7, a8, a9, a10, a11, a12⟩ := a
  obtain ⟨b1, b2, b3, b4, b5, b6, b7, b8, b9, b10, b11, b12⟩ := b
  simp only [Mat.norm, Mat.mk.injEq, true_and]
  exact ⟨fun ⟨a, b, c, d, e, f, g, h⟩ => ⟨a, b, d, e, c, f, g, h⟩, fun ⟨a, b, d, e, c, f, g, h⟩ => ⟨a, b, c, d, e, f, g, h⟩⟩
theorem sameB_no {a b : Mat} (h : ¬ (a.id = b.id ∧ a.opened = b.opened ∧ a.proc = b.proc ∧ a.stage = b.stage ∧ a.case_ = b.case_ ∧ a.moved = b.moved ∧ a.rights = b.rights ∧ a.limits.map Lim.norm = b.limits.map Lim.norm)) : sameB a b = false := by rw [Bool.eq_false_iff, ne_eq, sameB_iff]; exact h
theorem norm_len {L M : List Lim} (h : L.map Lim.norm = M.map Lim.norm) : L.length = M.length := by
  have := congrArg List.length h
  simpa using this
theorem norm_at {L M : List Lim} (h : L.map Lim.norm = M.map Lim.norm) {k : Nat} (h1 : k < L.length) : (L.getD k lim0).norm = (M.getD k lim0).norm := by
  have h2 : k < M.length := norm_len h ▸ h1
  have := congrArg (fun l : List Lim => l[k]?) h
  simp only [List.getElem?_map, List.getElem?_eq_getElem h1, List.getElem?_eq_getElem h2, Option.map_some, Option.some.injEq] at this
  rw [getD_eq L lim0 h1, getD_eq M lim0 h2]; exact this
theorem norm_take {L M : List Lim} {k : Nat} (h1 : k < L.length) (h2 : k < M.length) (ht : (L.take k).map Lim.norm = (M.take k).map Lim.norm) (h : (L.getD k lim0).norm = (M.getD k lim0).norm) : (L.take (k + 1)).map Lim.norm = (M.take (k + 1)).map Lim.norm := by
  rw [take_one L lim0 h1, take_one M lim0 h2, List.map_append, List.map_append, ht, List.map_singleton, List.map_singleton, h]
theorem limEq_norm {x y : Lim} : limEq x y = true ↔ x.norm = y.norm := by unfold limEq; simp
theorem andns_true {a c : ByteArray} {b d : Int} (h : ¬ (a = c ∧ b = d)) : (!(a.toList == c.toList && b == d)) = true := by
  rw [Bool.not_eq_true', Bool.eq_false_iff]
  intro h'
  simp only [Bool.and_eq_true, beq_iff_eq] at h'
  refine h ⟨?_, h'.2⟩
  have e := h'.1
  rw [Lib.toList_data, Lib.toList_data] at e
  exact ByteArray.ext (Array.toList_inj.1 e)
theorem andns_false {a c : ByteArray} {b d : Int} (h : a = c ∧ b = d) : (!(a.toList == c.toList && b == d)) = false := by
  obtain ⟨rfl, rfl⟩ := h; simp

set_option maxHeartbeats 8000000 in
set_option maxRecDepth 100000 in
theorem same_any (a b : Mat) (w : World) (ha : MR w w.heap.size a) (hb : MR w w.heap.size b) :
    Calls Tryz.prog 15 #[.agg a.cells, .agg b.cells] w fun e w' => e = .returned (.bool (sameB a b)) ∧ Below w.heap.size w w' := by
  obtain ⟨A1, p1, e1, _⟩ := id ha.cs
  obtain ⟨A2, p2, e2, _⟩ := id ha.mo
  obtain ⟨⟨A3, p3, e3, _⟩, _⟩ := id ha.ri
  obtain ⟨⟨A4, p4, e4, _⟩, _⟩ := id ha.li
  obtain ⟨B1, q1, f1, _⟩ := id hb.cs
  obtain ⟨B2, q2, f2, _⟩ := id hb.mo
  obtain ⟨⟨B3, q3, f3, _⟩, _⟩ := id hb.ri
  obtain ⟨⟨B4, q4, f4, _⟩, _⟩ := id hb.li
  have hga : ∀ w', Below w.heap.size w w' → MR w' w'.heap.size a := fun w' h => ha.go h
  have hgb : ∀ w', Below w.heap.size w w' → MR w' w'.heap.size b := fun w' h => hb.go h
  have hm1 := (MBox.new w a).below ((Below.refl _ (w.alloc (.cells a.cells 27))).alloc (Nat.le_refl _) (.cells b.cells 27)) (by simp)
  have hm2 := MBox.new (w.alloc (.cells a.cells 27)) b
  rw [World.size_alloc] at hm2
  have b0 : Below w.heap.size w ((w.alloc (.cells a.cells 27)).alloc (.cells b.cells 27)) := ((Below.refl _ _).alloc (Nat.le_refl _) _).alloc (by simp) _
  obtain ⟨B, hB⟩ : ∃ B, B = sameB a b := ⟨_, rfl⟩
  rw [← hB]
  obtain ⟨i1, o1, cv1, c1, pr1, s1, mv1, m1, rv1, r1, lv1, l1⟩ := a
  obtain ⟨i2, o2, cv2, c2, pr2, s2, mv2, m2, rv2, r2, lv2, l2⟩ := b
  simp only at e1 e2 e3 e4 f1 f2 f3 f4
  subst e1 e2 e3 e4 f1 f2 f3 f4
  have hno : ¬ (i1 = i2 ∧ o1 = o2 ∧ pr1 = pr2 ∧ s1 = s2 ∧ c1 = c2 ∧ m1 = m2 ∧ r1 = r2 ∧ l1.map Lim.norm = l2.map Lim.norm) → B = false := fun h => by rw [hB]; exact sameB_no h
  have hyes : (i1 = i2 ∧ o1 = o2 ∧ pr1 = pr2 ∧ s1 = s2 ∧ c1 = c2 ∧ m1 = m2 ∧ r1 = r2 ∧ l1.map Lim.norm = l2.map Lim.norm) → B = true := fun h => by rw [hB]; exact sameB_iff.2 h
  have n1 : ∀ w', Below w.heap.size w w' → Calls Tryz.prog 48 #[.slice A1 c1.length p1, .slice B1 c2.length q1] w' fun e w'' => e = .returned (.bool (decide (c1 = c2))) ∧ Below w'.heap.size w' w'' := fun w' h => ints_any _ _ c1 c2 w' (hga w' h).cs (hgb w' h).cs
  have n2 : ∀ w', Below w.heap.size w w' → Calls Tryz.prog 48 #[.slice A2 m1.length p2, .slice B2 m2.length q2] w' fun e w'' => e = .returned (.bool (decide (m1 = m2))) ∧ Below w'.heap.size w' w'' := fun w' h => ints_any _ _ m1 m2 w' (hga w' h).mo (hgb w' h).mo
  obtain ⟨X1, hX1⟩ : ∃ X, X = decide (c1 = c2) := ⟨_, rfl⟩
  obtain ⟨X2, hX2⟩ : ∃ X, X = decide (m1 = m2) := ⟨_, rfl⟩
  rw [← hX1] at n1
  rw [← hX2] at n2
  have HNO := Lib.hid hno
  have HYES := Lib.hid hyes
  have N1 := Lib.hid n1
  have N2 := Lib.hid n2
  have HX1 := Lib.hid hX1
  have HX2 := Lib.hid hX2
  have HA := Lib.hid hga
  have HB := Lib.hid hgb
  have B0 := Lib.hid b0
  have HM1 := Lib.hid hm1
  have HM2 := Lib.hid hm2
  clear hB hno hyes n1 n2 hX1 hX2 hga hgb ha hb b0
  obtain ⟨a0, a1, a2, a3, a4, a5, a6, a7⟩ := hm1
  obtain ⟨d0, d1, d2, d3, d4, d5, d6, d7⟩ := hm2
  simp only at a0 a1 a2 a3 a4 a5 a6 a7 d0 d1 d2 d3 d4 d5 d6 d7
  simp only [Mat.cells] at B0 HM1 HM2 HA HB ⊢
  by_cases ec : i1 = i2
  · have HEC := Lib.hid ec
    subst ec
    by_cases ec : o1 = o2
    · have HEC := Lib.hid ec
      subst ec
      by_cases ec : pr1 = pr2
      · have HEC := Lib.hid ec
        subst ec
        by_cases ec : s1 = s2
        · have HEC := Lib.hid ec
          subst ec
          go_enter Tryz.func15, Tryz.ntmps15
          go_wp2_with fail
          refine (N1.out _ B0.out).mono ?_
          rintro e w1 ⟨rfl, b1⟩
          have b01 := B0.out.trans (b1.mono B0.out.size)
          have hs1 : w.heap.size + 2 ≤ w1.heap.size := by have := b1.size; simpa using this
          have b2 : Below (w.heap.size + 2) _ w1 := b1.mono (by simp)
          have hm1 := HM1.out.below b2 (by omega)
          have hm2 := HM2.out.below b2 (by omega)
          have HM1 := Lib.hid hm1
          have HM2 := Lib.hid hm2
          have B01 := Lib.hid b01
          clear b1 b2 b01 a0 a1 a2 a3 a4 a5 a6 a7 d0 d1 d2 d3 d4 d5 d6 d7
          obtain ⟨a0, a1, a2, a3, a4, a5, a6, a7⟩ := hm1
          obtain ⟨d0, d1, d2, d3, d4, d5, d6, d7⟩ := hm2
          simp only at a0 a1 a2 a3 a4 a5 a6 a7 d0 d1 d2 d3 d4 d5 d6 d7
          cases X1 with
          | false =>
            have hb : B = false := HNO.out fun h => absurd HX1.out (by rw [h.2.2.2.2.1]; simp)
            subst hb
            go_wp2
            go_ret
            exact ⟨rfl, B01.out⟩
          | true =>
            go_wp2_with fail
            refine (N2.out _ B01.out).mono ?_
            rintro e w2 ⟨rfl, b1⟩
            have b02 := B01.out.trans (b1.mono B01.out.size)
            have hs2 : w.heap.size + 2 ≤ w2.heap.size := Nat.le_trans hs1 b1.size
            have b2 : Below (w.heap.size + 2) _ w2 := b1.mono hs1
            have hm1 := HM1.out.below b2 (by omega)
            have hm2 := HM2.out.below b2 (by omega)
            have HM1 := Lib.hid hm1
            have HM2 := Lib.hid hm2
            have B02 := Lib.hid b02
            clear b1 b2 b02 a0 a1 a2 a3 a4 a5 a6 a7 d0 d1 d2 d3 d4 d5 d6 d7
            obtain ⟨a0, a1, a2, a3, a4, a5, a6, a7⟩ := hm1
            obtain ⟨d0, d1, d2, d3, d4, d5, d6, d7⟩ := hm2
            simp only at a0 a1 a2 a3 a4 a5 a6 a7 d0 d1 d2 d3 d4 d5 d6 d7
            cases X2 with
            | false =>
              have hb : B = false := HNO.out fun h => absurd HX2.out (by rw [h.2.2.2.2.2.1]; simp)
              subst hb
              go_wp2
              go_ret
              exact ⟨rfl, B02.out⟩
            | true =>
              by_cases hr : r1.length = r2.length
              · by_cases hl : l1.length = l2.length
                · have g0 := neq_false (show (r1.length : Int) = (r2.length : Int) by omega)
                  have g1 := neq_false (show (l1.length : Int) = (l2.length : Int) by omega)
                  have HR := Lib.hid hr
                  have HL := Lib.hid hl
                  clear hr hl
                  go_wp2
                  go_loopw [5] (fun i wr => ∃ k : Nat, k ≤ r1.length ∧ i = .int .i64 k ∧ r1.take k = r2.take k ∧ Below w2.heap.size w2 wr) (fun i _ => r1.length - (intOf i).toNat)
                  case atStart => exact ⟨0, Nat.zero_le _, rfl, by simp, Below.refl _ _⟩
                  case round =>
                    obtain ⟨k, hk, rfl, ht, hbw⟩ := hrel
                    have hm1 := HM1.out.below hbw (by omega)
                    have hm2 := HM2.out.below hbw (by omega)
                    clear a0 a1 a2 a3 a4 a5 a6 a7 d0 d1 d2 d3 d4 d5 d6 d7
                    have a6 : wr.cell? ⟨w.heap.size, 6, none⟩ = some (.slice A3 r1.length p3) := hm1.c6
                    have d6 : wr.cell? ⟨w.heap.size + 1, 6, none⟩ = some (.slice B3 r2.length q3) := hm2.c6
                    have a7 : wr.cell? ⟨w.heap.size, 7, none⟩ = some (.slice A4 l1.length p4) := hm1.c7
                    have d7 : wr.cell? ⟨w.heap.size + 1, 7, none⟩ = some (.slice B4 l2.length q4) := hm2.c7
                    have hbt := B02.out.trans (hbw.mono B02.out.size)
                    have HT := Lib.hid ht
                    have HBW := Lib.hid hbw
                    have HBT := Lib.hid hbt
                    clear ht hbw hbt hm1 hm2
                    by_cases hlt : k < r1.length
                    · have hlt2 : k < r2.length := HR.out ▸ hlt
                      obtain ⟨⟨_, _, hv, _, hc1⟩, _⟩ := (HA.out wr HBT.out).ri
                      simp only [Value.slice.injEq] at hv
                      obtain ⟨rfl, _, rfl⟩ := hv
                      obtain ⟨⟨_, _, hv, _, hc2⟩, _⟩ := (HB.out wr HBT.out).ri
                      simp only [Value.slice.injEq] at hv
                      obtain ⟨rfl, _, rfl⟩ := hv
                      rcases hc1 with hc | ⟨g1', o1', rfl, _, hc1⟩
                      · simp only at hc; omega
                      rcases hc2 with hc | ⟨g2', o2', rfl, _, hc2⟩
                      · simp only at hc; omega
                      have k0 : wr.cell? ⟨g1', o1' + k * 2, none⟩ = some (.string (r1.getD k (ByteArray.empty, 0)).1) := by simpa using hc1 k hlt 0 _ rfl
                      have k1 : wr.cell? ⟨g1', o1' + k * 2 + 1, none⟩ = some (.int .i64 (r1.getD k (ByteArray.empty, 0)).2) := by simpa using hc1 k hlt 1 _ rfl
                      have k2 : wr.cell? ⟨g2', o2' + k * 2, none⟩ = some (.string (r2.getD k (ByteArray.empty, 0)).1) := by simpa using hc2 k hlt2 0 _ rfl
                      have k3 : wr.cell? ⟨g2', o2' + k * 2 + 1, none⟩ = some (.int .i64 (r2.getD k (ByteArray.empty, 0)).2) := by simpa using hc2 k hlt2 1 _ rfl
                      have hte := take_eq ((ByteArray.empty, 0) : ByteArray × Int) hlt hlt2 HT.out
                      have htn := take_ne (L := r1) (M := r2) ((ByteArray.empty, 0) : ByteArray × Int) (k := k)
                      obtain ⟨x, hx⟩ : ∃ x, x = r1.getD k (ByteArray.empty, 0) := ⟨_, rfl⟩
                      obtain ⟨y, hy⟩ : ∃ y, y = r2.getD k (ByteArray.empty, 0) := ⟨_, rfl⟩
                      rw [← hx] at k0 k1 hte htn
                      rw [← hy] at k2 k3 hte htn
                      obtain ⟨x1, x2⟩ := x
                      obtain ⟨y1, y2⟩ := y
                      simp only at k0 k1 k2 k3
                      have HTE := Lib.hid hte
                      have HTN := Lib.hid htn
                      have z1 : (0 : Int) ≤ (k : Int) := by omega
                      have z2 : (k : Int) < (r1.length : Int) := by omega
                      have z3 : (k : Int) < (r2.length : Int) := by omega
                      have heq := neq_right x1 y1 x2 y2
                      clear hx hy hc1 hc2 hte htn
                      by_cases he : x1 = y1 ∧ x2 = y2
                      · rw [andns_false he] at heq
                        have H3 := Lib.hid (HTE.out (by rw [he.1, he.2]))
                        clear he
                        go_wp2
                        go_quiet (fail)
                        go_wp2
                        go_roundw
                        case rel => exact ⟨k + 1, by omega, by go_num, H3.out, below_drewN HBW.out _⟩
                        case measure => simp [intOf]; omega
                      · have hb : B = false := HNO.out fun h => he (by
                          have h4 : (x1, x2) = (y1, y2) := Classical.byContradiction fun hh => HTN.out hh h.2.2.2.2.2.2.1
                          exact ⟨congrArg Prod.fst h4, congrArg Prod.snd h4⟩)
                        subst hb
                        rw [andns_true he] at heq
                        clear he
                        go_wp2
                        go_quiet (fail)
                        go_wp2
                        go_ret
                        exact ⟨rfl, below_drewN HBT.out _⟩
                    · obtain rfl : k = r1.length := by omega
                      have hrr := take_all HR.out HT.out
                      have HRR := Lib.hid hrr
                      have HBW0 := HBW
                      clear hrr HT
                      go_wp2
                      go_loopw [6] (fun i wr2 => ∃ k : Nat, k ≤ l1.length ∧ i = .int .i64 k ∧ (l1.take k).map Lim.norm = (l2.take k).map Lim.norm ∧ Below w2.heap.size w2 wr2) (fun i _ => l1.length - (intOf i).toNat)
                      case atStart => exact ⟨0, Nat.zero_le _, rfl, by simp, HBW.out⟩
                      case round =>
                        obtain ⟨k, hk, rfl, ht, hbw⟩ := hrel
                        have hm1 := HM1.out.below hbw (by omega)
                        have hm2 := HM2.out.below hbw (by omega)
                        clear a6 d6 a7 d7
                        have a7 : wr.cell? ⟨w.heap.size, 7, none⟩ = some (.slice A4 l1.length p4) := hm1.c7
                        have d7 : wr.cell? ⟨w.heap.size + 1, 7, none⟩ = some (.slice B4 l2.length q4) := hm2.c7
                        have hbt := B02.out.trans (hbw.mono B02.out.size)
                        have HT := Lib.hid ht
                        have HBW := Lib.hid hbw
                        have HBT := Lib.hid hbt
                        clear ht hbw hbt hm1 hm2 HBW0
                        by_cases hlt : k < l1.length
                        · have hlt2 : k < l2.length := HL.out ▸ hlt
                          obtain ⟨⟨_, _, hv, _, hc1⟩, _, hp1⟩ := (HA.out wr HBT.out).li
                          simp only [Value.slice.injEq] at hv
                          obtain ⟨rfl, _, rfl⟩ := hv
                          obtain ⟨⟨_, _, hv, _, hc2⟩, _, hp2⟩ := (HB.out wr HBT.out).li
                          simp only [Value.slice.injEq] at hv
                          obtain ⟨rfl, _, rfl⟩ := hv
                          rcases hc1 with hc | ⟨g1', o1', rfl, hl1', hc1⟩
                          · simp only at hc; omega
                          rcases hc2 with hc | ⟨g2', o2', rfl, hl2', hc2⟩
                          · simp only at hc; omega
                          have u0 : wr.cell? ⟨g1', o1' + k * 5, none⟩ = some (.string (l1.getD k lim0).id) := by simpa using hc1 k hlt 0 _ rfl
                          have u1 : wr.cell? ⟨g1', o1' + k * 5 + 1, none⟩ = some (.int .i64 (l1.getD k lim0).N) := by simpa using hc1 k hlt 1 _ rfl
                          have u2 : wr.cell? ⟨g1', o1' + k * 5 + 2, none⟩ = some (.int .i64 (l1.getD k lim0).U) := by simpa using hc1 k hlt 2 _ rfl
                          have u3 : wr.cell? ⟨g1', o1' + k * 5 + 3, none⟩ = some (.int .i64 (l1.getD k lim0).f) := by simpa using hc1 k hlt 3 _ rfl
                          have u4 : wr.cell? ⟨g1', o1' + k * 5 + 4, none⟩ = some (l1.getD k lim0).sv := by simpa using hc1 k hlt 4 _ rfl
                          have v0 : wr.cell? ⟨g2', o2' + k * 5, none⟩ = some (.string (l2.getD k lim0).id) := by simpa using hc2 k hlt2 0 _ rfl
                          have v1 : wr.cell? ⟨g2', o2' + k * 5 + 1, none⟩ = some (.int .i64 (l2.getD k lim0).N) := by simpa using hc2 k hlt2 1 _ rfl
                          have v2 : wr.cell? ⟨g2', o2' + k * 5 + 2, none⟩ = some (.int .i64 (l2.getD k lim0).U) := by simpa using hc2 k hlt2 2 _ rfl
                          have v3 : wr.cell? ⟨g2', o2' + k * 5 + 3, none⟩ = some (.int .i64 (l2.getD k lim0).f) := by simpa using hc2 k hlt2 3 _ rfl
                          have v4 : wr.cell? ⟨g2', o2' + k * 5 + 4, none⟩ = some (l2.getD k lim0).sv := by simpa using hc2 k hlt2 4 _ rfl
                          have hpx := hp1 _ (getD_mem l1 lim0 hlt)
                          have hpy := hp2 _ (getD_mem l2 lim0 hlt2)
                          have hte := norm_take hlt hlt2 HT.out
                          have htn := fun h : l1.map Lim.norm = l2.map Lim.norm => norm_at h hlt
                          obtain ⟨x, hx⟩ : ∃ x, x = l1.getD k lim0 := ⟨_, rfl⟩
                          obtain ⟨y, hy⟩ : ∃ y, y = l2.getD k lim0 := ⟨_, rfl⟩
                          rw [← hx] at u0 u1 u2 u3 u4 hpx hte htn
                          rw [← hy] at v0 v1 v2 v3 v4 hpy hte htn
                          obtain ⟨x1, x2, x3, x4, x5, x6⟩ := x
                          obtain ⟨y1, y2, y3, y4, y5, y6⟩ := y
                          simp only at u0 u1 u2 u3 u4 v0 v1 v2 v3 v4 hpx hpy
                          have hcl : Calls Tryz.prog 49 #[.agg #[.string x1, .int .i64 x2, .int .i64 x3, .int .i64 x4, x5], .agg #[.string y1, .int .i64 y2, .int .i64 y3, .int .i64 y4, y5]] wr.drew fun e w' => e = .returned (.bool (limEq ⟨x1, x2, x3, x4, x5, x6⟩ ⟨y1, y2, y3, y4, y5, y6⟩)) ∧ Below wr.heap.size wr.drew w' := same30_any x1 x2 x3 x4 x5 x6 y1 y2 y3 y4 y5 y6 _ ((hpx.below (Below.refl _ _).drew).more (Nat.le_refl _)) ((hpy.below (Below.refl _ _).drew).more (Nat.le_refl _))
                          obtain ⟨X, hX⟩ : ∃ X, X = limEq ⟨x1, x2, x3, x4, x5, x6⟩ ⟨y1, y2, y3, y4, y5, y6⟩ := ⟨_, rfl⟩
                          rw [← hX] at hcl
                          obtain ⟨E1, t1, hev1, _⟩ := id hpx
                          obtain ⟨E2, t2, hev2, _⟩ := id hpy
                          subst hev1 hev2
                          have HTE := Lib.hid hte
                          have HTN := Lib.hid htn
                          have HCL := Lib.hid hcl
                          have HX := Lib.hid hX
                          have z1 : (0 : Int) ≤ (k : Int) := by omega
                          have z2 : (k : Int) < (l1.length : Int) := by omega
                          have z3 : (k : Int) < (l2.length : Int) := by omega
                          clear hx hy hc1 hc2 hte htn hcl hX hp1 hp2 hpx hpy
                          have hs : ∀ w', Below wr.heap.size wr w' → w'.cell? ⟨w.heap.size, 7, none⟩ = some (.slice (some ⟨g1', o1', none⟩) l1.length p4) ∧ w'.cell? ⟨w.heap.size + 1, 7, none⟩ = some (.slice (some ⟨g2', o2', none⟩) l2.length q4) ∧ w'.cell? ⟨g1', o1' + k * 5, none⟩ = some (.string x1) ∧ w'.cell? ⟨g1', o1' + k * 5 + 1, none⟩ = some (.int .i64 x2) ∧ w'.cell? ⟨g1', o1' + k * 5 + 2, none⟩ = some (.int .i64 x3) ∧ w'.cell? ⟨g1', o1' + k * 5 + 3, none⟩ = some (.int .i64 x4) ∧ w'.cell? ⟨g1', o1' + k * 5 + 4, none⟩ = some (.slice E1 x6.length t1) ∧ w'.cell? ⟨g2', o2' + k * 5, none⟩ = some (.string y1) ∧ w'.cell? ⟨g2', o2' + k * 5 + 1, none⟩ = some (.int .i64 y2) ∧ w'.cell? ⟨g2', o2' + k * 5 + 2, none⟩ = some (.int .i64 y3) ∧ w'.cell? ⟨g2', o2' + k * 5 + 3, none⟩ = some (.int .i64 y4) ∧ w'.cell? ⟨g2', o2' + k * 5 + 4, none⟩ = some (.slice E2 y6.length t2) := fun w' hb => ⟨(hb.cell (show w.heap.size < wr.heap.size by have := HBW.out.size; omega)).trans a7, (hb.cell (show w.heap.size + 1 < wr.heap.size by have := HBW.out.size; omega)).trans d7, (hb.cell hl1').trans u0, (hb.cell hl1').trans u1, (hb.cell hl1').trans u2, (hb.cell hl1').trans u3, (hb.cell hl1').trans u4, (hb.cell hl2').trans v0, (hb.cell hl2').trans v1, (hb.cell hl2').trans v2, (hb.cell hl2').trans v3, (hb.cell hl2').trans v4⟩
                          have HS := Lib.hid hs
                          clear hs
                          go_upto_region 11 with fail
                          go_region_held3 (fun w' => w'.cell? ⟨w.heap.size, 7, none⟩ = some (.slice (some ⟨g1', o1', none⟩) l1.length p4) ∧ w'.cell? ⟨w.heap.size + 1, 7, none⟩ = some (.slice (some ⟨g2', o2', none⟩) l2.length q4) ∧ w'.cell? ⟨g1', o1' + k * 5, none⟩ = some (.string x1) ∧ w'.cell? ⟨g1', o1' + k * 5 + 1, none⟩ = some (.int .i64 x2) ∧ w'.cell? ⟨g1', o1' + k * 5 + 2, none⟩ = some (.int .i64 x3) ∧ w'.cell? ⟨g1', o1' + k * 5 + 3, none⟩ = some (.int .i64 x4) ∧ w'.cell? ⟨g1', o1' + k * 5 + 4, none⟩ = some (.slice E1 x6.length t1) ∧ w'.cell? ⟨g2', o2' + k * 5, none⟩ = some (.string y1) ∧ w'.cell? ⟨g2', o2' + k * 5 + 1, none⟩ = some (.int .i64 y2) ∧ w'.cell? ⟨g2', o2' + k * 5 + 2, none⟩ = some (.int .i64 y3) ∧ w'.cell? ⟨g2', o2' + k * 5 + 3, none⟩ = some (.int .i64 y4) ∧ w'.cell? ⟨g2', o2' + k * 5 + 4, none⟩ = some (.slice E2 y6.length t2))
                            (first
                              | exact HS.out _ b4
                              | go_keep)
                            (first
                              | (go_at_call 49; refine HCL.out.mono ?_; rintro e w3 ⟨rfl, b3⟩; have b4 := (Below.refl wr.heap.size wr).drew.trans b3; dsimp only)
                              | fail)
                          have hb5 := HBW.out.trans (b4.mono HBW.out.size)
                          have HB5 := Lib.hid hb5
                          have HBT5 := Lib.hid (B02.out.trans (hb5.mono B02.out.size))
                          clear hb5 b3 b4 HCL
                          cases X with
                          | true =>
                            have H3 := Lib.hid (HTE.out (limEq_norm.1 HX.out.symm))
                            go_wp2_with fail
                            go_roundw
                            case rel => exact ⟨k + 1, by omega, by go_num, H3.out, HB5.out⟩
                            case measure => simp [intOf]; omega
                          | false =>
                            have hb : B = false := HNO.out fun h => by
                              have := limEq_norm.2 (HTN.out h.2.2.2.2.2.2.2)
                              rw [← HX.out] at this
                              cases this
                            subst hb
                            go_wp2
                            go_ret
                            exact ⟨rfl, HBT5.out⟩
                        · obtain rfl : k = l1.length := by omega
                          have hll : l1.map Lim.norm = l2.map Lim.norm := by
                            have := HT.out
                            rw [List.take_length, HL.out, List.take_length] at this
                            exact this
                          have hb : B = true := HYES.out ⟨by trivial, by trivial, by trivial, by trivial, of_decide_eq_true HX1.out.symm, of_decide_eq_true HX2.out.symm, HRR.out, hll⟩
                          subst hb
                          go_wp2
                          go_ret
                          exact ⟨rfl, HBT.out⟩

                · have g0 := neq_false (show (r1.length : Int) = (r2.length : Int) by omega)
                  have g1 := neq_true (show (l1.length : Int) ≠ (l2.length : Int) by omega)
                  have hb : B = false := HNO.out fun h => hl (norm_len h.2.2.2.2.2.2.2)
                  subst hb
                  go_wp2
                  go_ret
                  exact ⟨rfl, B02.out⟩
              · have g0 := neq_true (show (r1.length : Int) ≠ (r2.length : Int) by omega)
                have hb : B = false := HNO.out fun h => hr (by rw [h.2.2.2.2.2.2.1])
                subst hb
                go_wp2
                go_ret
                exact ⟨rfl, B02.out⟩
        · have g0 := neq_true ec
          have HEC := Lib.hid ec
          clear ec
          have hb : B = false := HNO.out fun h => HEC.out h.2.2.2.1
          subst hb
          go_enter Tryz.func15, Tryz.ntmps15
          go_wp2
          go_ret
          exact ⟨rfl, B0.out⟩
      · have g0 := strn_true ec
        have g1 := str_ne ec
        have HEC := Lib.hid ec
        clear ec
        have hb : B = false := HNO.out fun h => HEC.out h.2.2.1
        subst hb
        go_enter Tryz.func15, Tryz.ntmps15
        go_wp2
        go_ret
        exact ⟨rfl, B0.out⟩
    · have g0 := neq_true ec
      have HEC := Lib.hid ec
      clear ec
      have hb : B = false := HNO.out fun h => HEC.out h.2.1
      subst hb
      go_enter Tryz.func15, Tryz.ntmps15
      go_wp2
      go_ret
      exact ⟨rfl, B0.out⟩
  · have g0 := strn_true ec
    have g1 := str_ne ec
    have HEC := Lib.hid ec
    clear ec
    have hb : B = false := HNO.out fun h => HEC.out h.1
    subst hb
    go_enter Tryz.func15, Tryz.ntmps15
    go_wp2
    go_ret
    exact ⟨rfl, B0.out⟩
end Go.Proofs.YtficjcomefaocaaGreatDoor
