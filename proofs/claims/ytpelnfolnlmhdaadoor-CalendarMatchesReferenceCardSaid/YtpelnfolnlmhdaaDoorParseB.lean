/- The contract of Parse. -/
import Derived.Test.YtpelnfolnlmhdaaDoorParse
namespace Go.Proofs.YtpelnfolnlmhdaaDoor
open Go.RowKit
open Cal

theorem not_iso {l a b c : List UInt8} (h : splitL 45 l = [a, b, c]) (hn : ¬ (a.length = 4 ∧ b.length = 2 ∧ c.length = 2 ∧ digL a = true ∧ digL b = true ∧ digL c = true)) : ¬ ∃ y m d, Iso l y m d := by
  rintro ⟨y, m, d, p, q, r, hs, hp, hq, hr, dp, dq, dr, _⟩
  rw [h] at hs
  simp only [List.cons.injEq, and_true] at hs
  obtain ⟨rfl, rfl, rfl⟩ := hs
  exact hn ⟨hp, hq, hr, dp, dq, dr⟩

theorem parse_any (s : ByteArray) (w : World) (h : MT w) (hs : s.size ≤ 40) :
    Calls Tryd.prog 23 #[.string s] w fun e w' => e = .returned (.tuple #[.int .i64 (parseV s.data.toList).1, .int .i64 (parseV s.data.toList).2]) ∧ Below w.heap.size w w' := by
  have hsl : s.data.toList.length = s.size := rfl
  by_cases h10 : s.size = 10
  · by_cases h3 : (splitL 45 s.data.toList).length = 3
    · obtain ⟨a, b, c, habc⟩ : ∃ a b c, splitL 45 s.data.toList = [a, b, c] := by
        match splitL 45 s.data.toList, h3 with
        | [a, b, c], _ => exact ⟨a, b, c, rfl⟩
      by_cases h4 : a.length = 4
      · by_cases h2 : b.length = 2
        · have hl := congrArg List.length (splitL_three.1 habc).1
          simp only [List.length_append, List.length_cons] at hl
          have hc : c.length = 2 := by omega
          refine parse_three s w h h10 a b c habc h4 h2 hc _ ?_
          unfold threeV
          show parseV _ = if (digL a && digL b && digL c) = true then (if (dayV (numL a) (numL b) (numL c)).2 = 0 then dayV (numL a) (numL b) (numL c) else (0, 5)) else (0, 5)
          by_cases hd : (digL a && digL b && digL c) = true
          · rw [if_pos hd]
            simp only [Bool.and_eq_true] at hd
            exact parseV_iso ⟨a, b, c, habc, h4, h2, hc, hd.1.1, hd.1.2, hd.2, rfl, rfl, rfl⟩
          · rw [if_neg hd]
            refine parseV_not (not_iso habc fun hx => hd ?_)
            simp [hx.2.2.2.1, hx.2.2.2.2.1, hx.2.2.2.2.2]
        · rw [parseV_not (not_iso habc fun hx => h2 hx.2.1)]
          exact parse_q s w h h10 a b c habc h4 h2
      · rw [parseV_not (not_iso habc fun hx => h4 hx.1)]
        exact parse_p s w h h10 a b c habc h4
    · rw [parseV_not]
      · exact parse_cnt s w h h10 h3
      · rintro ⟨y, m, d, p, q, r, hp, _⟩
        rw [hp] at h3
        exact h3 rfl
  · rw [parseV_not]
    · exact parse_len s w h hs h10
    · rintro ⟨y, m, d, hi⟩
      have := hi.len
      omega

end Go.Proofs.YtpelnfolnlmhdaaDoor
