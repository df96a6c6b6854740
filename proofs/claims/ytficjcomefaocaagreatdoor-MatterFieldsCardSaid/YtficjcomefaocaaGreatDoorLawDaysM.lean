/- LAW MatterDays: its walk. -/
import Derived.Test.YtficjcomefaocaaGreatDoorHeadM
namespace Go.Proofs.YtficjcomefaocaaGreatDoor
open Go.RowKit Go.Maps
open Lexer

theorem hasB_iff {m : Mat} {name : ByteArray} {day : Int} : hasB m name day = true ↔ ∃ x ∈ m.rights, x.1 = name ∧ x.2 ≤ day := by
  unfold hasB
  rw [List.any_eq_true]
  constructor
  · rintro ⟨x, hx, h⟩; exact ⟨x, hx, oneB_iff.1 h⟩
  · rintro ⟨x, hx, h⟩; exact ⟨x, hx, oneB_iff.2 h⟩
theorem hasB_mono {m : Mat} {name : ByteArray} {a b : Int} (hab : a ≤ b) (h : hasB m name a = true) : hasB m name b = true := by
  obtain ⟨x, hx, h1, h2⟩ := hasB_iff.1 h
  exact hasB_iff.2 ⟨x, hx, h1, by omega⟩
theorem hasB_zero (name : ByteArray) (day : Int) : hasB zeroM name day = false := by
  rw [Bool.eq_false_iff, ne_eq, hasB_iff]
  rintro ⟨x, hx, _⟩
  simp [zeroM] at hx
/-- what a grant says -/
theorem grant_ok {m : Mat} {name : ByteArray} {day : Int} (h : grantE m name day = 0) : formedB m = true ∧ nameB name = true ∧ dayB day = true ∧ hasB m name 1000000 = false ∧ m.opened ≤ day ∧ m.rights.length < 60 := by
  unfold grantE at h
  split at h
  · exact absurd h (by decide)
  · rename_i h1
    simp only [Bool.and_eq_false_iff, not_or, Bool.not_eq_false] at h1
    split at h
    · exact absurd h (by decide)
    · rename_i h2
      split at h
      · exact absurd h (by decide)
      · split at h
        · exact absurd h (by decide)
        · exact ⟨h1.1, h1.2.1, h1.2.2, by simpa using h2, by omega, by omega⟩
theorem grant_none {m : Mat} {name : ByteArray} {day : Int} (h : grantE m name day = 0) : ∀ x ∈ m.rights, x.1 ≠ name := by
  intro x hx e
  obtain ⟨h1, _, _, h4, _⟩ := grant_ok h
  have hn := of_decide_eq_true ((formed_fm h1).ri x hx).2.2
  have := hasB_iff.2 ⟨x, hx, e, hn.2⟩
  rw [h4] at this
  cases this
theorem grant_new {m : Mat} {name : ByteArray} {one two : Int} {v : Value} (h : grantE m name one = 0) : hasB { m with rv := v, rights := m.rights ++ [(name, one)] } name two = decide (one ≤ two) := by
  rw [Bool.eq_iff_iff, hasB_iff, decide_eq_true_iff]
  constructor
  · rintro ⟨x, hx, h1, h2⟩
    rcases List.mem_append.1 hx with hx | hx
    · exact absurd h1 (grant_none h x hx)
    · rw [List.mem_singleton.1 hx] at h2; exact h2
  · intro h2
    exact ⟨_, List.mem_append.2 (.inr (List.mem_singleton.2 rfl)), rfl, h2⟩
theorem grant_again {m : Mat} {name : ByteArray} {one two : Int} {v : Value} (h : grantE m name one = 0) : grantE { m with rv := v, rights := m.rights ++ [(name, one)] } name two = 9 ∨ grantE { m with rv := v, rights := m.rights ++ [(name, one)] } name two = 1 := by
  have hd := of_decide_eq_true (grant_ok h).2.2.1
  have hh : hasB { m with rv := v, rights := m.rights ++ [(name, one)] } name 1000000 = true := by rw [grant_new h]; exact decide_eq_true hd.2
  unfold grantE
  rw [hh]
  split
  · exact .inr rfl
  · exact .inl rfl

set_option maxHeartbeats 16000000 in
set_option maxRecDepth 100000 in
theorem days_law (m : Mat) (name : ByteArray) (one two : Int) (w : World) (hE : Env w.heap.size w) (hm : MR w w.heap.size m) (hn : name.size ≤ 140737488355328) :
    Calls Tryz.prog 5 #[.agg m.cells, .string name, .int .i64 one, .int .i64 two] w fun e w' => e = .returned (.bool true) ∧ Below w.heap.size w w' := by
  have hh := Held.new hm
  have b0 := (Below.refl w.heap.size w).alloc (Nat.le_refl _) (.cells m.cells 27)
  have hh1 := head_any _ ((hE.on b0).more b0.size)
  obtain ⟨A1, c1, A2, c2, A3, c3, A4, c4, g1, g2, g3, g4⟩ := mat_form hm
  have HE := Lib.hid hE
  have HH := Lib.hid hh
  have H1 := Lib.hid hh1
  have B0 := Lib.hid b0
  clear hE hm hh hh1 b0
  obtain ⟨i, o, cv, cs, pr, st, mv, mo, rv, ri, lv, li⟩ := m
  simp only at g1 g2 g3 g4
  subst g1 g2 g3 g4
  simp only [Mat.cells] at HH H1 B0 ⊢
  go_enter Tryz.func5, Tryz.ntmps5
  go_wp2_with fail
  refine H1.out.mono ?_
  rintro e w1 ⟨rfl, b1⟩
  have hq := HH.out.go b1
  have bw1 := B0.out.trans (b1.mono B0.out.size)
  obtain ⟨z0, z1, z2, z3, z4, z5, z6, z7⟩ := hq.box
  simp only at z0 z1 z2 z3 z4 z5 z6 z7
  have hf := few_any _ w1 hq.mr
  have HQ := Lib.hid hq
  have BW1 := Lib.hid bw1
  have HF := Lib.hid hf
  clear hq bw1 b1 hf HH H1 B0
  go_wp2_with fail
  refine HF.out.mono ?_
  rintro e w2 ⟨⟨fb, rfl⟩, b2⟩
  have hq := HQ.out.go b2
  have bw2 := BW1.out.trans (b2.mono BW1.out.size)
  have HQ2 := Lib.hid hq
  have BW2 := Lib.hid bw2
  clear z0 z1 z2 z3 z4 z5 z6 z7 bw2 b2
  obtain ⟨z0, z1, z2, z3, z4, z5, z6, z7⟩ := hq.box
  simp only at z0 z1 z2 z3 z4 z5 z6 z7
  clear hq
  cases fb with
  | false =>
    go_wp2
    go_ret
    exact ⟨rfl, BW2.out⟩
  | true =>
    by_cases h60 : 60 < name.size
    · have hd : decide ((60 : Int) < (name.size : Int)) = true := decide_eq_true (by omega)
      clear h60
      go_wp2
      go_ret
      exact ⟨rfl, BW2.out⟩
    · have hd : decide ((60 : Int) < (name.size : Int)) = false := decide_eq_false (by omega)
      clear h60
      go_wp2_with fail
      have hX := has_any _ name (min one two) w2 HQ2.out.mr
      obtain ⟨X, hXe⟩ : ∃ X, X = hasB ⟨i, o, .slice A1 cs.length c1, cs, pr, st, .slice A2 mo.length c2, mo, .slice A3 ri.length c3, ri, .slice A4 li.length c4, li⟩ name (min one two) := ⟨_, rfl⟩
      rw [← hXe] at hX
      have HX := Lib.hid hX
      have HXE := Lib.hid hXe
      clear hX hXe
      refine HX.out.mono ?_
      rintro e w3 ⟨rfl, b3⟩
      have hq := HQ2.out.go b3
      have bw3 := BW2.out.trans (b3.mono BW2.out.size)
      have HQ3 := Lib.hid hq
      have BW3 := Lib.hid bw3
      clear z0 z1 z2 z3 z4 z5 z6 z7 bw3 b3 HX
      obtain ⟨z0, z1, z2, z3, z4, z5, z6, z7⟩ := hq.box
      simp only at z0 z1 z2 z3 z4 z5 z6 z7
      clear hq
      cases X
      case' true =>
        have hX := has_any _ name (max one two) w3 HQ3.out.mr
        rw [hasB_mono (a := min one two) (by omega) HXE.out.symm] at hX
        have HX := Lib.hid hX
        clear hX
        go_wp2_with fail
        refine HX.out.mono ?_
        rintro e w4 ⟨rfl, b4⟩
        have hq := HQ3.out.go b4
        have bw4 := BW3.out.trans (b4.mono BW3.out.size)
        have HQ4 := Lib.hid hq
        have BW4 := Lib.hid bw4
        clear z0 z1 z2 z3 z4 z5 z6 z7 bw4 b4 HX
        obtain ⟨z0, z1, z2, z3, z4, z5, z6, z7⟩ := hq.box
        simp only at z0 z1 z2 z3 z4 z5 z6 z7
        clear hq
      case' false =>
        obtain ⟨w4, rfl⟩ : ∃ x, x = w3 := ⟨w3, rfl⟩
        have HQ4 := HQ3
        have BW4 := BW3
      all_goals
        go_wp2_with fail
        refine (grant_any _ name one w4 HQ4.out.mr hn).mono ?_
        rintro e w5 ⟨v, rfl, hmr5, b5, _⟩
        obtain ⟨E, hEE⟩ : ∃ E, E = grantE ⟨i, o, .slice A1 cs.length c1, cs, pr, st, .slice A2 mo.length c2, mo, .slice A3 ri.length c3, ri, .slice A4 li.length c4, li⟩ name one := ⟨_, rfl⟩
        have hq := HQ4.out.go b5
        have bw5 := BW4.out.trans (b5.mono BW4.out.size)
        have HEE := Lib.hid hEE
        rw [← hEE]
        by_cases hz : E = 0
        · subst hz
          have hgm : grantM ⟨i, o, .slice A1 cs.length c1, cs, pr, st, .slice A2 mo.length c2, mo, .slice A3 ri.length c3, ri, .slice A4 li.length c4, li⟩ name one v = ⟨i, o, .slice A1 cs.length c1, cs, pr, st, .slice A2 mo.length c2, mo, v, ri ++ [(name, one)], .slice A4 li.length c4, li⟩ := by unfold grantM; rw [if_pos hEE.symm]
          rw [hgm] at hmr5 ⊢
          obtain ⟨⟨A5, c5, hv5, _⟩, _⟩ := id hmr5.ri
          simp only [List.length_append, List.length_cons, List.length_nil, Nat.zero_add] at hv5
          subst hv5
          have hnb := Held.new hmr5
          have hqa := hq.go ((Below.refl _ _).alloc (Nat.le_refl _) (.cells #[.string i, .int .i64 o, .slice A1 cs.length c1, .string pr, .int .i64 st, .slice A2 mo.length c2, .slice A5 (ri.length + 1) c5, .slice A4 li.length c4] 27))
          have bwa := bw5.alloc bw5.size (.cells #[.string i, .int .i64 o, .slice A1 cs.length c1, .string pr, .int .i64 st, .slice A2 mo.length c2, .slice A5 (ri.length + 1) c5, .slice A4 li.length c4] 27)
          have HNB := Lib.hid hnb
          have HQA := Lib.hid hqa
          have BWA := Lib.hid bwa
          have HNO := Lib.hid (grant_none hEE.symm)
          clear z0 z1 z2 z3 z4 z5 z6 z7
          obtain ⟨z0, z1, z2, z3, z4, z5, z6, z7⟩ := hq.box
          simp only at z0 z1 z2 z3 z4 z5 z6 z7
          have hlt5 := hq.lt
          have hne5 : w5.heap.size ≠ w.heap.size := Nat.ne_of_gt hlt5
          clear hEE hgm hmr5 hnb hqa bwa hq b5 bw5
          dsimp only [Mat.cells] at HNB HQA BWA ⊢
          go_wp2_with fail
          generalize hWN : w5.alloc (.cells #[.string i, .int .i64 o, .slice A1 cs.length c1, .string pr, .int .i64 st, .slice A2 mo.length c2, .slice A5 (ri.length + 1) c5, .slice A4 li.length c4] 27) = WN at HNB HQA BWA ⊢
          have hrl : ri.length ≤ 140737488355328 := by obtain ⟨⟨_, _, _, hl, _⟩, _⟩ := HQA.out.mr.ri; exact hl
          have hw5 : w5.heap.size < WN.heap.size := HNB.out.lt
          clear z0 z1 z2 z3 z4 z5 z6 z7 hWN
          obtain ⟨z0, z1, z2, z3, z4, z5, z6, z7⟩ := HQA.out.box
          simp only at z0 z1 z2 z3 z4 z5 z6 z7
          obtain ⟨y0, y1, y2, y3, y4, y5, y6, y7⟩ := HNB.out.box
          simp only at y0 y1 y2 y3 y4 y5 y6 y7
          go_loopw [12] (fun i' wr => ∃ k : Nat, k ≤ ri.length ∧ i' = .int .i64 k ∧ wr = WN) (fun i' _ => ri.length - (intOf i').toNat)
          case atStart => exact ⟨0, Nat.zero_le _, rfl, rfl⟩
          case round =>
            obtain ⟨k, hk, rfl, hwr⟩ := hrel
            subst hwr
            by_cases hlt : k < ri.length
            · obtain ⟨⟨_, _, hv, _, hc⟩, _⟩ := HQA.out.mr.ri
              simp only [Value.slice.injEq] at hv
              obtain ⟨rfl, _, rfl⟩ := hv
              rcases hc with hc | ⟨q, off, rfl, hq, hc⟩
              · simp only at hc; omega
              have d0 : wr.cell? ⟨q, off + k * 2, none⟩ = some (.string (ri.getD k (ByteArray.empty, 0)).1) := by simpa using hc k hlt 0 _ rfl
              have hne := HNO.out _ (getD_mem ri (ByteArray.empty, 0) hlt)
              obtain ⟨x, hx⟩ : ∃ x, x = (ri.getD k (ByteArray.empty, 0)).1 := ⟨_, rfl⟩
              rw [← hx] at d0 hne
              have g5 := str_ne hne
              have g1 : (0 : Int) ≤ (k : Int) := by omega
              have g2 : (k : Int) < (ri.length : Int) := by omega
              clear hx hc hne
              go_wp2
              go_roundw
              case rel => exact ⟨k + 1, by omega, by go_num, by trivial⟩
              case measure => simp [intOf]; omega
            · obtain rfl : k = ri.length := by omega
              go_wp2_with fail
              refine (grant_any _ name two wr HNB.out.mr hn).mono ?_
              rintro e w6 ⟨v6, rfl, hmr6, b6, _⟩
              obtain ⟨E2, hE2⟩ : ∃ E, E = grantE ⟨i, o, .slice A1 cs.length c1, cs, pr, st, .slice A2 mo.length c2, mo, .slice A5 (ri.length + 1) c5, ri ++ [(name, one)], .slice A4 li.length c4, li⟩ name two := ⟨_, rfl⟩
              have h91 : E2 = 9 ∨ E2 = 1 := by rw [hE2]; exact grant_again HEE.out.symm
              have hg : grantM ⟨i, o, .slice A1 cs.length c1, cs, pr, st, .slice A2 mo.length c2, mo, .slice A5 (ri.length + 1) c5, ri ++ [(name, one)], .slice A4 li.length c4, li⟩ name two v6 = zeroM := by
                unfold grantM
                rw [← hE2, if_neg (by rcases h91 with h | h <;> rw [h] <;> decide)]
              rw [hg, ← hE2]
              have b6a := b6.alloc b6.size (.cells zeroM.cells 27)
              have hq6 := HQA.out.go b6a
              have hn6 := HNB.out.go b6a
              have bw6 := BWA.out.trans (b6a.mono BWA.out.size)
              have hX := has_any _ name two _ hn6.mr
              rw [show hasB ⟨i, o, .slice A1 cs.length c1, cs, pr, st, .slice A2 mo.length c2, mo, .slice A5 (ri.length + 1) c5, ri ++ [(name, one)], .slice A4 li.length c4, li⟩ name two = decide (one ≤ two) from grant_new HEE.out.symm] at hX
              have hop : decide (o ≤ one) = true := decide_eq_true (grant_ok HEE.out.symm).2.2.2.2.1
              clear z0 z1 z2 z3 z4 z5 z6 z7 y0 y1 y2 y3 y4 y5 y6 y7
              obtain ⟨y0, y1, y2, y3, y4, y5, y6, y7⟩ := (HNB.out.go b6).box
              simp only at y0 y1 y2 y3 y4 y5 y6 y7
              have hl6 : w5.heap.size < w6.heap.size := (HNB.out.go b6).lt
              have hn6' : w6.heap.size ≠ w5.heap.size := Nat.ne_of_gt hl6
              have HX := Lib.hid hX
              have HQ6 := Lib.hid hq6
              have HN6 := Lib.hid hn6
              have BW6 := Lib.hid bw6
              have H91 := Lib.hid h91
              clear hE2 h91 hg hmr6 b6 b6a hq6 hn6 bw6 hX
              dsimp only [Mat.cells, zeroM] at HX HQ6 HN6 BW6 ⊢
              go_wp2_with fail
              refine HX.out.mono ?_
              rintro e w7 ⟨rfl, b7⟩
              have hq7 := HQ6.out.go b7
              have hn7 := HN6.out.go b7
              have bw7 := BW6.out.trans (b7.mono BW6.out.size)
              clear y0 y1 y2 y3 y4 y5 y6 y7
              have z1 : w7.cell? ⟨w.heap.size, 1, none⟩ = some (.int .i64 o) := hq7.box.c1
              have z6 : w7.cell? ⟨w.heap.size, 6, none⟩ = some (.slice A3 ri.length c3) := hq7.box.c6
              have y6 : w7.cell? ⟨w5.heap.size, 6, none⟩ = some (.slice A5 (ri.length + 1) c5) := hn7.box.c6
              have BW7 := Lib.hid bw7
              clear hq7 hn7 bw7 b7 HX HQ6 HN6 BW6
              have hlen : (((ri.length : Int) + 1) == (ri.length : Int) + 1) = true := by simp
              rcases H91.out with h9 | h9
              · subst h9
                by_cases hle : one ≤ two
                · have hd2 : decide (one ≤ two) = true := decide_eq_true hle
                  clear hle
                  go_wp2
                  go_ret
                  exact ⟨rfl, BW7.out⟩
                · have hd2 : decide (one ≤ two) = false := decide_eq_false hle
                  clear hle
                  go_wp2
                  go_ret
                  exact ⟨rfl, BW7.out⟩
              · subst h9
                by_cases hle : one ≤ two
                · have hd2 : decide (one ≤ two) = true := decide_eq_true hle
                  clear hle
                  go_wp2
                  go_ret
                  exact ⟨rfl, BW7.out⟩
                · have hd2 : decide (one ≤ two) = false := decide_eq_false hle
                  clear hle
                  go_wp2
                  go_ret
                  exact ⟨rfl, BW7.out⟩
        · have hgm : grantM ⟨i, o, .slice A1 cs.length c1, cs, pr, st, .slice A2 mo.length c2, mo, .slice A3 ri.length c3, ri, .slice A4 li.length c4, li⟩ name one v = zeroM := by unfold grantM; rw [if_neg (by rw [← hEE]; exact hz)]
          rw [hgm] at hmr5 ⊢
          have hnz : (E != 0) = true := by simpa using hz
          have hnb := Held.new hmr5
          have hX := has_any zeroM name 1000000 _ hnb.mr
          rw [hasB_zero] at hX
          have bwa := bw5.alloc bw5.size (.cells zeroM.cells 27)
          have HX := Lib.hid hX
          have BWA := Lib.hid bwa
          clear hEE hgm hmr5 hnb hq b5 bw5 hz hX bwa
          dsimp only [Mat.cells, zeroM] at HX BWA ⊢
          go_wp2_with fail
          refine HX.out.mono ?_
          rintro e w6 ⟨rfl, b6⟩
          have BW6 := Lib.hid (BWA.out.trans (b6.mono BWA.out.size))
          clear b6
          go_wp2
          go_ret
          exact ⟨rfl, BW6.out⟩
end Go.Proofs.YtficjcomefaocaaGreatDoor
