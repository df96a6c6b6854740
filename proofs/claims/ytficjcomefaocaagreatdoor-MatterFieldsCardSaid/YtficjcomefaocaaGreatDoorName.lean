/- WALK of matter.name: NameOK. -/
import Derived.Test.YtficjcomefaocaaGreatDoorLexE
namespace Go.Proofs.YtficjcomefaocaaGreatDoor
open Go.RowKit Go.Maps
open Lexer

theorem nameB_true {s : ByteArray} (h : nameS s) : nameB s = true := by unfold nameB; simpa using h
theorem nameB_false {s : ByteArray} (h : ¬ nameS s) : nameB s = false := by unfold nameB; simpa using h

set_option maxHeartbeats 1000000 in
set_option maxRecDepth 100000 in
theorem nameOK : NameOK := by
  intro s w hs
  go_enter Tryz.func52, Tryz.ntmps52
  go_wp2_with fail
  refine (lex_any s _).mono ?_
  rintro e w1 ⟨h, b1⟩
  rcases h with ⟨T, v, rfl, hcame, herr, hfew, base, hrow⟩ | ⟨v, ev, a, rfl, hev, hnn⟩
  · by_cases h1 : T.length = 1
    · obtain ⟨x, rfl⟩ : ∃ x, T = [x] := List.length_eq_one_iff.1 h1
      obtain ⟨g, cap, rfl, _, _⟩ := World.ownsRow.form hrow (by simp)
      have c0 := hrow.cellAt 0 (by simp)
      have c1 := hrow.cellAt 1 (by simp)
      simp [tokL, tokC] at c0 c1
      have hx0 := herr x (by simp)
      have hfp := hcame.ok x (by simp)
      by_cases hk : x.kind = 1
      · have hkb : ((x.kind : Int) == 1) = true := by simpa using hk
        by_cases ht : x.text = s
        · have hn : nameS s := name_of_FP hfp hx0 hk ht
          have HN := Lib.hid (nameB_true hn)
          clear hn hfp hcame herr hrow h1
          subst ht
          go_wp2
          go_ret
          exact ⟨lret_bool HN.out.symm, b1⟩
        · have hn : ¬ nameS s := fun hn => by
            have := hcame.name hn
            simp at this
            subst this
            exact ht rfl
          have HN := Lib.hid (nameB_false hn)
          have htb : (x.text.toList == s.toList) = false := by
            rw [beq_eq_false_iff_ne]
            intro e
            apply ht
            rw [Lib.toList_data, Lib.toList_data] at e
            exact ByteArray.ext (Array.toList_inj.1 e)
          clear hn hfp hcame herr hrow h1 ht
          go_wp2
          go_ret
          exact ⟨lret_bool HN.out.symm, b1⟩
      · have hn : ¬ nameS s := fun hn => by
          have := hcame.name hn
          simp at this
          subst this
          exact hk rfl
        have HN := Lib.hid (nameB_false hn)
        have hkb : ((x.kind : Int) == 1) = false := by simpa using hk
        clear hn hfp hcame herr hrow h1 hk
        go_wp2
        go_ret
        exact ⟨lret_bool HN.out.symm, b1⟩
    · have hn : ¬ nameS s := fun hn => h1 (by rw [hcame.name hn]; rfl)
      have HN := Lib.hid (nameB_false hn)
      have hvf : ∃ A c, v = .slice A T.length c := by
        rcases hrow.2 with ⟨rfl, h0⟩ | ⟨g, cap, cur, rfl, _⟩
        · exact ⟨_, _, by rw [h0]⟩
        · exact ⟨_, _, rfl⟩
      obtain ⟨A, c, rfl⟩ := hvf
      have h1b : ((T.length : Int) == 1) = false := by rw [beq_eq_false_iff_ne]; omega
      clear hn hcame herr hrow h1
      go_wp2
      go_ret
      exact ⟨lret_bool HN.out.symm, b1⟩
  · have hevb : ((ev : Int) == 0) = false := by simpa using hev
    have HN := Lib.hid (nameB_false hnn)
    clear hev hnn
    go_wp2
    go_ret
    exact ⟨lret_bool HN.out.symm, b1⟩
end Go.Proofs.YtficjcomefaocaaGreatDoor
