/- WALK of the reference's Parse. -/
import Derived.Test.YtpelnfolnlmhdaaDoorRefD
import Derived.Test.YtpelnfolnlmhdaaDoorParse
namespace Go.Proofs.YtpelnfolnlmhdaaDoor
open Go.RowKit
open Cal

theorem at_list (s : ByteArray) (k : Nat) (h : k < s.size) : s.data.toList.getD k 0 = s[k] := by
  have h2 : k < s.data.toList.length := h
  rw [List.getD_eq_getElem?_getD, List.getElem?_eq_getElem h2]
  rfl

/-- what holds at the head of each round -/
structure RPW (w : World) (l : List UInt8) (k : Nat) (wr : World) : Prop where
  v : ∀ j : Nat, j < 10 → wr.cell? ⟨w.heap.size, j, none⟩ = some (.int .i64 (if j < k then nb l j else 0))
  f : ∀ j : Nat, wr.frozen? ⟨w.heap.size, j, none⟩ = false
  b : Below w.heap.size w wr

theorem RPW.store {w : World} {l : List UInt8} {k : Nat} {wr : World} (h : RPW w l k wr) : RPW w l (k + 1) (wr.setCell ⟨w.heap.size, k, none⟩ (.int .i64 (nb l k))) := by
  refine ⟨fun j hj => ?_, fun j => ?_, h.b.setCell (Nat.le_refl _) _⟩
  · by_cases hj2 : k = j
    · subst hj2
      rw [World.cell?_setCell_same _ _ _ (h.v k hj), if_pos (Nat.lt_succ_self k)]
    · rw [World.cell?_setCell_other _ _ _ _ (by simp <;> omega), h.v j hj]
      by_cases h2 : j < k
      · rw [if_pos h2, if_pos (by omega)]
      · rw [if_neg h2, if_neg (by omega)]
  · rw [World.frozen?_setCell]; exact h.f j

theorem RPW.start (w : World) (l : List UInt8) : RPW w l 0 (w.alloc (.cells #[.int .i64 0, .int .i64 0, .int .i64 0, .int .i64 0, .int .i64 0, .int .i64 0, .int .i64 0, .int .i64 0, .int .i64 0, .int .i64 0] 70)) := by
  refine ⟨fun j hj => ?_, fun j => ?_, (Below.refl _ _).alloc (Nat.le_refl _) _⟩
  · have h10 : j = 0 ∨ j = 1 ∨ j = 2 ∨ j = 3 ∨ j = 4 ∨ j = 5 ∨ j = 6 ∨ j = 7 ∨ j = 8 ∨ j = 9 := by omega
    rcases h10 with rfl | rfl | rfl | rfl | rfl | rfl | rfl | rfl | rfl | rfl <;> simp [go_sem]
  · simp [go_sem]

set_option maxRecDepth 100000 in
theorem rparse_len (s : ByteArray) (w : World) (hn : s.size ≠ 10) :
    Calls Tryd.prog 24 #[.string s] w fun e w' => e = .returned (.tuple #[.int .i64 0, .int .i64 5]) ∧ Below w.heap.size w w' := by
  have hn2 : ((s.size : Int) != 10) = true := by rw [bne_iff_ne]; omega
  go_enter Tryd.func24, Tryd.ntmps24
  go_wp2
  go_ret2
  exact ⟨rfl, Below.refl _ _⟩

/-- the answer, from the bytes -/
noncomputable def tenV (l : List UInt8) : Int × Int := if (dayV (1000 * nb l 0 + 100 * nb l 1 + 10 * nb l 2 + nb l 3) (10 * nb l 5 + nb l 6) (10 * nb l 8 + nb l 9)).2 = 0 then dayV (1000 * nb l 0 + 100 * nb l 1 + 10 * nb l 2 + nb l 3) (10 * nb l 5 + nb l 6) (10 * nb l 8 + nb l 9) else (0, 5)

set_option maxHeartbeats 2000000 in
set_option maxRecDepth 100000 in
theorem rparse_ten (s : ByteArray) (w : World) (hs : s.size = 10) :
    Calls Tryd.prog 24 #[.string s] w fun e w' => e = .returned (.tuple #[.int .i64 (parseV s.data.toList).1, .int .i64 (parseV s.data.toList).2]) ∧ Below w.heap.size w w' := by
  have hn2 : ((s.size : Int) != 10) = false := by rw [bne_eq_false_iff_eq]; omega
  obtain ⟨V, hV⟩ : ∃ V, V = parseV s.data.toList := ⟨_, rfl⟩
  rw [← hV]
  have HV := Lib.hid hV
  have HS := Lib.hid hs
  clear hV
  have HAT := Lib.hid (at_list s)
  go_enter Tryd.func24, Tryd.ntmps24
  clear hs
  go_wp2
  go_loopw [5] (fun i wr => ∃ k : Nat, k ≤ 10 ∧ i = .int .i64 k ∧ (∀ j : Nat, j < k → okAt j (s.data.toList.getD j 0)) ∧ RPW w s.data.toList k wr) (fun i _ => 10 - (intOf i).toNat)
  case atStart => exact ⟨0, by omega, rfl, fun j hj => absurd hj (by omega), RPW.start w _⟩
  case round =>
    obtain ⟨k, hk, rfl, hok, hW⟩ := hrel
    by_cases hlt : k < 10
    · have hks : k < s.size := by rw [HS.out]; exact hlt
      have h255 : s[k].toNat < 256 := UInt8.toNat_lt _
      have hg := HAT.out k hks
      have hv := hW.v k hlt
      have hf := hW.f k
      have hst := hW.store
      have hnb : nb s.data.toList k = (s[k].toNat : Int) - 48 := by unfold nb; rw [hg]
      rw [hnb] at hst
      have hbw := hW.b
      have HST := Lib.hid hst
      have HOK := Lib.hid hok
      have HG := Lib.hid hg
      clear hst hok hg hnb hW
      have hbad : ¬ okAt k s[k] → Ending.returned (.tuple #[.int .i64 0, .int .i64 5]) = .returned (.tuple #[.int .i64 V.1, .int .i64 V.2]) := fun hb => ret_pair (by rw [HV.out]; exact parse_bad hlt (by rw [HG.out]; exact hb))
      have HB := Lib.hid hbad
      clear hbad
      have hnext : okAt k s[k] → ∀ j : Nat, j < k + 1 → okAt j (s.data.toList.getD j 0) := fun hb j hj => by
        by_cases e : j = k
        · rw [e, HG.out]; exact hb
        · exact HOK.out j (by omega)
      have HN := Lib.hid hnext
      clear hnext
      have h45 : s[k] = 45 ↔ s[k].toNat = 45 := by rw [← UInt8.toNat_inj]; rfl
      have H45 := Lib.hid h45
      clear h45
      have hdb : digB s[k] = true ↔ (48 ≤ s[k].toNat ∧ s[k].toNat ≤ 57) := digB_iff
      have HDB := Lib.hid hdb
      clear hdb
      by_cases hsep : k = 4 ∨ k = 7
      · by_cases hb : s[k].toNat = 45
        · have hok2 : okAt k s[k] := ⟨fun _ => H45.out.2 hb, fun h => absurd hsep h⟩
          have HK := Lib.hid hok2
          clear hok2
          have cb : ((s[k].toNat : Int) == 45) = true := by rw [beq_iff_eq]; omega
          rcases hsep with h4 | h7
          · have c4 : ((k : Int) == 4) = true := by rw [beq_iff_eq]; omega
            have c4n : ((k : Int) != 4) = false := by rw [bne_eq_false_iff_eq]; omega
            clear h4
            go_wp2
            go_roundw
            case rel => exact ⟨k + 1, by omega, by go_num, HN.out HK.out, by rw [show (-3 : Int) = (s[k].toNat : Int) - 48 by omega]; exact HST.out⟩
            case measure => simp [intOf]; omega
          · have c4 : ((k : Int) == 4) = false := by rw [beq_eq_false_iff_ne]; omega
            have c4n : ((k : Int) != 4) = true := by rw [bne_iff_ne]; omega
            have c7 : ((k : Int) == 7) = true := by rw [beq_iff_eq]; omega
            have c7n : ((k : Int) != 7) = false := by rw [bne_eq_false_iff_eq]; omega
            clear h7
            go_wp2
            go_roundw
            case rel => exact ⟨k + 1, by omega, by go_num, HN.out HK.out, by rw [show (-3 : Int) = (s[k].toNat : Int) - 48 by omega]; exact HST.out⟩
            case measure => simp [intOf]; omega
        · have hno : ¬ okAt k s[k] := fun h => hb (H45.out.1 (h.1 hsep))
          have HK := Lib.hid (HB.out hno)
          clear hno
          have cb : ((s[k].toNat : Int) == 45) = false := by rw [beq_eq_false_iff_ne]; omega
          rcases hsep with h4 | h7
          · have c4 : ((k : Int) == 4) = true := by rw [beq_iff_eq]; omega
            clear h4
            go_wp2
            go_ret2
            exact ⟨HK.out, hbw⟩
          · have c4 : ((k : Int) == 4) = false := by rw [beq_eq_false_iff_ne]; omega
            have c7 : ((k : Int) == 7) = true := by rw [beq_iff_eq]; omega
            clear h7
            go_wp2
            go_ret2
            exact ⟨HK.out, hbw⟩
      · have c4 : ((k : Int) == 4) = false := by rw [beq_eq_false_iff_ne]; omega
        have c4n : ((k : Int) != 4) = true := by rw [bne_iff_ne]; omega
        have c7 : ((k : Int) == 7) = false := by rw [beq_eq_false_iff_ne]; omega
        have c7n : ((k : Int) != 7) = true := by rw [bne_iff_ne]; omega
        by_cases hb : s[k].toNat = 45
        · have hno : ¬ okAt k s[k] := fun h => by have := HDB.out.1 (h.2 hsep); omega
          have HK := Lib.hid (HB.out hno)
          clear hno hsep
          have cb : ((s[k].toNat : Int) == 45) = true := by rw [beq_iff_eq]; omega
          go_wp2
          go_ret2
          exact ⟨HK.out, hbw⟩
        · have cb : ((s[k].toNat : Int) == 45) = false := by rw [beq_eq_false_iff_ne]; omega
          by_cases hlo : s[k].toNat < 48
          · have hno : ¬ okAt k s[k] := fun h => by have := HDB.out.1 (h.2 hsep); omega
            have HK := Lib.hid (HB.out hno)
            clear hno hsep
            have cl : decide ((s[k].toNat : Int) < 48) = true := by simp; omega
            go_wp2
            go_ret2
            exact ⟨HK.out, hbw⟩
          · have cl : decide ((s[k].toNat : Int) < 48) = false := by simp; omega
            by_cases hhi : 57 < s[k].toNat
            · have hno : ¬ okAt k s[k] := fun h => by have := HDB.out.1 (h.2 hsep); omega
              have HK := Lib.hid (HB.out hno)
              clear hno hsep
              have cg : decide (57 < (s[k].toNat : Int)) = true := by simp; omega
              go_wp2
              go_ret2
              exact ⟨HK.out, hbw⟩
            · have hok2 : okAt k s[k] := ⟨fun h => absurd h hsep, fun _ => HDB.out.2 (by omega)⟩
              have HK := Lib.hid hok2
              clear hok2 hsep
              have cg : decide (57 < (s[k].toNat : Int)) = false := by simp; omega
              go_wp2
              go_roundw
              case rel => exact ⟨k + 1, by omega, by go_num, HN.out HK.out, HST.out⟩
              case measure => simp [intOf]; omega
    · obtain rfl : k = 10 := by omega
      obtain ⟨l, hl⟩ : ∃ l, l = s.data.toList := ⟨_, rfl⟩
      have hlen : l.length = 10 := by rw [hl]; exact HS.out
      rw [← hl] at hok hW
      have hdg : ∀ j : Nat, j < 10 → ¬ (j = 4 ∨ j = 7) → 0 ≤ nb l j ∧ nb l j ≤ 9 := fun j hj h => nb_dig ((hok j hj).2 h)
      have hv := fun (j : Nat) (hj : j < 10) => (hW.v j hj).trans (by rw [if_pos hj])
      have d0 := hdg 0 (by omega) (by omega)
      have d1 := hdg 1 (by omega) (by omega)
      have d2 := hdg 2 (by omega) (by omega)
      have d3 := hdg 3 (by omega) (by omega)
      have d5 := hdg 5 (by omega) (by omega)
      have d6 := hdg 6 (by omega) (by omega)
      have d8 := hdg 8 (by omega) (by omega)
      have d9 := hdg 9 (by omega) (by omega)
      have c0 := hv 0 (by omega)
      have c1 := hv 1 (by omega)
      have c2 := hv 2 (by omega)
      have c3 := hv 3 (by omega)
      have c5 := hv 5 (by omega)
      have c6 := hv 6 (by omega)
      have c8 := hv 8 (by omega)
      have c9 := hv 9 (by omega)
      have hVV : V = tenV l := by rw [HV.out, ← hl, parseV_iso (iso_of_ok hlen hok), tenV]
      unfold tenV at hVV
      have hbw := hW.b
      clear hv hdg hok hW hlen
      generalize nb l 0 = n0 at *
      generalize nb l 1 = n1 at *
      generalize nb l 2 = n2 at *
      generalize nb l 3 = n3 at *
      generalize nb l 5 = n5 at *
      generalize nb l 6 = n6 at *
      generalize nb l 8 = n8 at *
      generalize nb l 9 = n9 at *
      have HVV := Lib.hid hVV
      clear hVV hl
      go_wp2_with fail
      refine (rday_any (1000 * n0 + 100 * n1 + 10 * n2 + n3) (10 * n5 + n6) (10 * n8 + n9) _).mono ?_
      rintro e w5 ⟨rfl, b5⟩
      have hb := hbw.trans (b5.mono hbw.size)
      clear b5 hbw
      generalize dayV (1000 * n0 + 100 * n1 + 10 * n2 + n3) (10 * n5 + n6) (10 * n8 + n9) = D at *
      by_cases he : D.2 = 0
      · have he2 : (D.2 != 0) = false := by rw [bne_eq_false_iff_eq]; exact he
        have HE := Lib.hid he
        clear he
        go_wp2
        go_ret2
        exact ⟨ret_pair (by rw [HVV.out, if_pos HE.out]; exact Prod.ext rfl HE.out), hb⟩
      · have he2 : (D.2 != 0) = true := by rw [bne_iff_ne]; exact he
        have HE := Lib.hid he
        clear he
        go_wp2
        go_ret2
        exact ⟨ret_pair (by rw [HVV.out, if_neg HE.out]), hb⟩

theorem rparse_any (s : ByteArray) (w : World) :
    Calls Tryd.prog 24 #[.string s] w fun e w' => e = .returned (.tuple #[.int .i64 (parseV s.data.toList).1, .int .i64 (parseV s.data.toList).2]) ∧ Below w.heap.size w w' := by
  by_cases hs : s.size = 10
  · exact rparse_ten s w hs
  · rw [parseV_not]
    · exact rparse_len s w hs
    · rintro ⟨y, m, d, hi⟩
      exact hs hi.len
end Go.Proofs.YtpelnfolnlmhdaaDoor
