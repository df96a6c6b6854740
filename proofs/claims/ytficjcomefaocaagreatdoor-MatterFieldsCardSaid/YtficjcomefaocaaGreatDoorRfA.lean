/- WALKS of the references' small functions: days, stops, terms, names, limits; texts in a list. -/
import Derived.Test.YtficjcomefaocaaGreatDoorMove
namespace Go.Proofs.YtficjcomefaocaaGreatDoor
open Go.RowKit Go.Maps
open Lexer

theorem rday_any (n : Int) (w : World) :
    Calls Tryz.prog 57 #[.int .i64 n] w fun e w' => e = .returned (.bool (dayB n)) ∧ w = w' := by
  by_cases h0 : 0 ≤ n
  · by_cases h1 : n ≤ 1000000
    · have hb : dayB n = true := by unfold dayB; simp; omega
      rw [hb]
      go_enter Tryz.func57, Tryz.ntmps57
      go_wp2
      go_ret
      exact ⟨rfl, rfl⟩
    · have hb : dayB n = false := by unfold dayB; simp; omega
      have h2 : decide (n ≤ 1000000) = false := by simp; omega
      rw [hb]
      go_enter Tryz.func57, Tryz.ntmps57
      go_wp2
      go_ret
      exact ⟨rfl, rfl⟩
  · have hb : dayB n = false := by unfold dayB; simp; omega
    have h2 : decide (0 ≤ n) = false := by simp; omega
    rw [hb]
    go_enter Tryz.func57, Tryz.ntmps57
    go_wp2
    go_ret
    exact ⟨rfl, rfl⟩
theorem r04is_any (n : Int) (w : World) :
    Calls Tryz.prog 98 #[.int .i64 n] w fun e w' => e = .returned (.bool (dayB n)) ∧ w = w' := by
  by_cases h0 : 0 ≤ n
  · by_cases h1 : n ≤ 1000000
    · have hb : dayB n = true := by unfold dayB; simp; omega
      rw [hb]
      go_enter Tryz.func98, Tryz.ntmps98
      go_wp2
      go_ret
      exact ⟨rfl, rfl⟩
    · have hb : dayB n = false := by unfold dayB; simp; omega
      have h2 : decide (n ≤ 1000000) = false := by simp; omega
      rw [hb]
      go_enter Tryz.func98, Tryz.ntmps98
      go_wp2
      go_ret
      exact ⟨rfl, rfl⟩
  · have hb : dayB n = false := by unfold dayB; simp; omega
    have h2 : decide (0 ≤ n) = false := by simp; omega
    rw [hb]
    go_enter Tryz.func98, Tryz.ntmps98
    go_wp2
    go_ret
    exact ⟨rfl, rfl⟩
theorem rterm_any (N U : Int) (w : World) :
    Calls Tryz.prog 99 #[.agg #[.int .i64 N, .int .i64 U]] w fun e w' => e = .returned (.bool (termB N U)) ∧ Below w.heap.size w w' := by
  go_enter Tryz.func99, Tryz.ntmps99
  go_wp2
  all_goals go_ret
  all_goals exact ⟨lret_bool (by rw [Bool.eq_iff_iff]; simp [termB]; omega), (Below.refl _ _).alloc (Nat.le_refl _) _⟩
theorem rstop_any (a b : Int) (w : World) :
    Calls Tryz.prog 97 #[.agg #[.int .i64 a, .int .i64 b]] w fun e w' => e = .returned (.bool (stopB a b)) ∧ Below w.heap.size w w' := by
  go_enter Tryz.func97, Tryz.ntmps97
  go_wp2
  all_goals go_ret
  all_goals exact ⟨lret_bool (by rw [Bool.eq_iff_iff]; simp [stopB]; omega), (Below.refl _ _).alloc (Nat.le_refl _) _⟩

/-- bytes of names -/
def letB (n : Int) : Bool := decide ((97 ≤ n ∧ n ≤ 122) ∨ (65 ≤ n ∧ n ≤ 90))
def digN (n : Int) : Bool := decide (48 ≤ n ∧ n ≤ 57)
def wordB (n : Int) : Bool := letB n || (digN n || decide (n = 95))
theorem letter_any (n : Int) (w : World) :
    Calls Tryz.prog 108 #[.int .u8 n] w fun e w' => e = .returned (.bool (letB n)) ∧ w = w' := by
  obtain ⟨B, hB⟩ : ∃ B, B = letB n := ⟨_, rfl⟩
  rw [← hB]
  unfold letB at hB
  rcases (by omega : (97 ≤ n ∧ n ≤ 122) ∨ (122 < n) ∨ (65 ≤ n ∧ n ≤ 90) ∨ (90 < n ∧ n < 97) ∨ n < 65) with hc | hc | hc | hc | hc
  · have hb : B = true := by rw [hB]; simp; omega
    have f0 : decide (97 ≤ n) = true := by simp; omega
    have f1 : decide (n ≤ 122) = true := by simp; omega
    subst hb
    clear hB hc
    go_enter Tryz.func108, Tryz.ntmps108
    go_wp2
    go_ret
    exact ⟨rfl, rfl⟩
  · have hb : B = false := by rw [hB]; simp; omega
    have f0 : decide (97 ≤ n) = true := by simp; omega
    have f1 : decide (n ≤ 122) = false := by simp; omega
    have f2 : decide (65 ≤ n) = true := by simp; omega
    have f3 : decide (n ≤ 90) = false := by simp; omega
    subst hb
    clear hB hc
    go_enter Tryz.func108, Tryz.ntmps108
    go_wp2
    go_ret
    exact ⟨rfl, rfl⟩
  · have hb : B = true := by rw [hB]; simp; omega
    have f0 : decide (97 ≤ n) = false := by simp; omega
    have f2 : decide (65 ≤ n) = true := by simp; omega
    have f3 : decide (n ≤ 90) = true := by simp; omega
    subst hb
    clear hB hc
    go_enter Tryz.func108, Tryz.ntmps108
    go_wp2
    go_ret
    exact ⟨rfl, rfl⟩
  · have hb : B = false := by rw [hB]; simp; omega
    have f0 : decide (97 ≤ n) = false := by simp; omega
    have f2 : decide (65 ≤ n) = true := by simp; omega
    have f3 : decide (n ≤ 90) = false := by simp; omega
    subst hb
    clear hB hc
    go_enter Tryz.func108, Tryz.ntmps108
    go_wp2
    go_ret
    exact ⟨rfl, rfl⟩
  · have hb : B = false := by rw [hB]; simp; omega
    have f0 : decide (97 ≤ n) = false := by simp; omega
    have f2 : decide (65 ≤ n) = false := by simp; omega
    subst hb
    clear hB hc
    go_enter Tryz.func108, Tryz.ntmps108
    go_wp2
    go_ret
    exact ⟨rfl, rfl⟩
theorem digit_any (n : Int) (w : World) :
    Calls Tryz.prog 129 #[.int .u8 n] w fun e w' => e = .returned (.bool (digN n)) ∧ w = w' := by
  obtain ⟨B, hB⟩ : ∃ B, B = digN n := ⟨_, rfl⟩
  rw [← hB]
  unfold digN at hB
  rcases (by omega : (48 ≤ n ∧ n ≤ 57) ∨ (57 < n) ∨ n < 48) with hc | hc | hc
  · have hb : B = true := by rw [hB]; simp; omega
    have f0 : decide (48 ≤ n) = true := by simp; omega
    have f1 : decide (n ≤ 57) = true := by simp; omega
    subst hb
    clear hB hc
    go_enter Tryz.func129, Tryz.ntmps129
    go_wp2
    go_ret
    exact ⟨rfl, rfl⟩
  · have hb : B = false := by rw [hB]; simp; omega
    have f0 : decide (48 ≤ n) = true := by simp; omega
    have f1 : decide (n ≤ 57) = false := by simp; omega
    subst hb
    clear hB hc
    go_enter Tryz.func129, Tryz.ntmps129
    go_wp2
    go_ret
    exact ⟨rfl, rfl⟩
  · have hb : B = false := by rw [hB]; simp; omega
    have f0 : decide (48 ≤ n) = false := by simp; omega
    subst hb
    clear hB hc
    go_enter Tryz.func129, Tryz.ntmps129
    go_wp2
    go_ret
    exact ⟨rfl, rfl⟩
theorem word5_any (n : Int) (w : World) :
    Calls Tryz.prog 107 #[.int .u8 n] w fun e w' => e = .returned (.bool (wordB n)) ∧ w = w' := by
  unfold wordB
  obtain ⟨B1, h1⟩ : ∃ B, B = letB n := ⟨_, rfl⟩
  obtain ⟨B2, h2⟩ : ∃ B, B = digN n := ⟨_, rfl⟩
  have n1 := letter_any n
  have n2 := digit_any n
  rw [← h1] at n1 ⊢
  rw [← h2] at n2 ⊢
  have H1 := Lib.hid n1
  have H2 := Lib.hid n2
  clear h1 h2 n1 n2
  go_enter Tryz.func107, Tryz.ntmps107
  go_wp2_with fail
  refine (H1.out _).mono ?_
  rintro e w1 ⟨rfl, rfl⟩
  cases B1 with
  | true =>
    go_wp2
    go_ret
    exact ⟨rfl, rfl⟩
  | false =>
    go_wp2_with fail
    refine (H2.out _).mono ?_
    rintro e w1 ⟨rfl, rfl⟩
    cases B2 with
    | true =>
      go_wp2
      go_ret
      exact ⟨rfl, rfl⟩
    | false =>
      by_cases h : n = 95
      · subst h
        go_wp2
        go_ret
        exact ⟨rfl, rfl⟩
      · have hb : (n == 95) = false := by rw [beq_eq_false_iff_ne]; exact h
        go_wp2
        go_ret
        exact ⟨lret_bool (by simp [h]), rfl⟩
theorem letB_okN {b : Nat} (h : letB b = true) (k : Nat) : okN k b := by
  have := of_decide_eq_true h
  unfold okN
  omega
theorem wordB_iff {n : Int} : wordB n = true ↔ ((97 ≤ n ∧ n ≤ 122) ∨ (65 ≤ n ∧ n ≤ 90) ∨ (48 ≤ n ∧ n ≤ 57) ∨ n = 95) := by
  simp only [wordB, letB, digN, Bool.or_eq_true, decide_eq_true_eq]
  omega
theorem nameB_word {s : ByteArray} : nameB s = true ↔ (0 < s.size ∧ s.size ≤ 24 ∧ letB (bt s 0) = true ∧ ∀ k, k < s.size → wordB (bt s k) = true) := by
  have e : nameB s = true ↔ nameS s := by unfold nameB; simp
  rw [e, nameS_iff]
  constructor
  · rintro ⟨h1, h2, h3⟩
    refine ⟨h1, h2, ?_, fun k hk => ?_⟩
    · have := h3 0 h1
      unfold okN at this
      unfold letB
      rw [decide_eq_true_iff]
      omega
    · have := h3 k hk
      unfold okN at this
      rw [wordB_iff]
      omega
  · rintro ⟨h1, h2, h3, h4⟩
    refine ⟨h1, h2, fun k hk => ?_⟩
    have a := wordB_iff.1 (h4 k hk)
    by_cases hk0 : k = 0
    · subst hk0; exact letB_okN h3 0
    · unfold okN
      omega

set_option maxHeartbeats 2000000 in
theorem name5_any (s : ByteArray) (w : World) (hs : s.size ≤ 140737488355328) :
    Calls Tryz.prog 90 #[.string s] w fun e w' => e = .returned (.bool (nameB s)) ∧ w = w' := by
  obtain ⟨B, hB⟩ : ∃ B, B = nameB s := ⟨_, rfl⟩
  rw [← hB]
  have HB := Lib.hid hB
  clear hB
  go_enter Tryz.func90, Tryz.ntmps90
  go_wp2
  go_loop [3] (fun i => ∃ k : Nat, k ≤ s.size ∧ i = .int .i64 k ∧ ∀ j : Nat, j < k → wordB (bt s j) = true) (fun i => s.size - (intOf i).toNat)
  case atStart => exact ⟨0, by omega, rfl, fun j hj => absurd hj (by omega)⟩
  case round =>
    obtain ⟨k, hk, rfl, hok⟩ := hrel
    by_cases hlt : k < s.size
    · have hbt := bt_at s k hlt
      have HOK := Lib.hid hok
      have hc := fun w => word5_any (s[k].toNat : Int) w
      rw [← hbt] at hc
      obtain ⟨X, hX⟩ : ∃ X, X = wordB (bt s k) := ⟨_, rfl⟩
      rw [← hX] at hc
      rw [hbt] at hc
      have HX := Lib.hid hX
      have HC := Lib.hid hc
      clear hok hbt hc hX
      go_wp2_with fail
      refine (HC.out _).mono ?_
      rintro e w1 ⟨rfl, rfl⟩
      cases X with
      | false =>
        have hb : B = false := by
          rw [HB.out, Bool.eq_false_iff, ne_eq, nameB_word]
          intro h
          rw [h.2.2.2 k hlt] at HX
          exact absurd HX.out (by decide)
        subst hb
        go_wp2
        go_ret
        exact ⟨rfl, rfl⟩
      | true =>
        go_wp2
        go_round
        case rel =>
          refine ⟨k + 1, by omega, by go_num, fun j hj => ?_⟩
          by_cases e : j = k
          · rw [e]; exact HX.out.symm
          · exact HOK.out j (by omega)
        case measure => simp [intOf]; omega
    · obtain rfl : k = s.size := by omega
      have HOK := Lib.hid hok
      clear hok
      by_cases h0 : 0 < s.size
      · by_cases h24 : s.size ≤ 24
        · have hbt := bt_at s 0 h0
          have hc := fun w => letter_any (s[0].toNat : Int) w
          rw [← hbt] at hc
          obtain ⟨X, hX⟩ : ∃ X, X = letB (bt s 0) := ⟨_, rfl⟩
          rw [← hX] at hc
          rw [hbt] at hc
          have HC := Lib.hid hc
          have hb : B = X := by
            rw [HB.out, hX, Bool.eq_iff_iff, nameB_word]
            exact ⟨fun h => h.2.2.1, fun h => ⟨h0, h24, h, HOK.out⟩⟩
          subst hb
          clear hbt hc hX
          go_wp2_with fail
          refine (HC.out _).mono ?_
          rintro e w1 ⟨rfl, rfl⟩
          go_wp2
          go_ret
          exact ⟨rfl, rfl⟩
        · have hb : B = false := by
            rw [HB.out, Bool.eq_false_iff, ne_eq, nameB_word]
            exact fun h => h24 h.2.1
          subst hb
          have hd : decide ((s.size : Int) ≤ 24) = false := by simp; omega
          go_wp2
          go_ret
          exact ⟨rfl, rfl⟩
      · have hb : B = false := by
          rw [HB.out, Bool.eq_false_iff, ne_eq, nameB_word]
          exact fun h => h0 h.1
        subst hb
        have hd : decide ((0 : Int) < (s.size : Int)) = false := decide_eq_false (by omega)
        go_wp2
        go_ret
        exact ⟨rfl, rfl⟩

set_option maxHeartbeats 4000000 in
theorem name7_any (s : ByteArray) (w : World) (hs : s.size ≤ 140737488355328) :
    Calls Tryz.prog 58 #[.string s] w fun e w' => e = .returned (.bool (nameB s)) ∧ w = w' := by
  obtain ⟨B, hB⟩ : ∃ B, B = nameB s := ⟨_, rfl⟩
  rw [← hB]
  have HB := Lib.hid hB
  clear hB
  go_enter Tryz.func58, Tryz.ntmps58
  go_wp2
  go_loop [3] (fun i => ∃ k : Nat, k ≤ s.size ∧ i = .int .i64 k ∧ ∀ j : Nat, j < k → okN j (bt s j)) (fun i => s.size - (intOf i).toNat)
  case atStart => exact ⟨0, by omega, rfl, fun j hj => absurd hj (by omega)⟩
  case round =>
    obtain ⟨k, hk, rfl, hok⟩ := hrel
    by_cases hlt : k < s.size
    · have h255 : s[k].toNat < 256 := UInt8.toNat_lt _
      have hbt := bt_at s k hlt
      have hno : ¬ okN k s[k].toNat → B = false := fun h => by rw [HB.out]; exact nameB_no hlt (by rw [hbt]; exact h)
      have hyes : okN k s[k].toNat → ∀ j : Nat, j < k + 1 → okN j (bt s j) := fun h j hj => by
        by_cases e : j = k
        · rw [e, hbt]; exact h
        · exact hok j (by omega)
      have HNO := Lib.hid hno
      have HYES := Lib.hid hyes
      clear hno hyes hok hbt
      rcases (by omega : (97 ≤ s[k].toNat ∧ s[k].toNat ≤ 122) ∨ (65 ≤ s[k].toNat ∧ s[k].toNat ≤ 90) ∨ (48 ≤ s[k].toNat ∧ s[k].toNat ≤ 57) ∨ (s[k].toNat = 95) ∨ (s[k].toNat < 48) ∨ (58 ≤ s[k].toNat ∧ s[k].toNat ≤ 64) ∨ (91 ≤ s[k].toNat ∧ s[k].toNat ≤ 96 ∧ s[k].toNat ≠ 95) ∨ (123 ≤ s[k].toNat)) with hc | hc | hc | hc | hc | hc | hc | hc
      · skip
        have f0 : decide (97 ≤ (s[k].toNat : Int)) = true := by simp; omega
        have f1 : decide ((s[k].toNat : Int) ≤ 122) = true := by simp; omega
        have f2 : decide (65 ≤ (s[k].toNat : Int)) = true := by simp; omega
        have f3 : decide ((s[k].toNat : Int) ≤ 90) = false := by simp; omega
        have f4 : ((s[k].toNat : Int) != 95) = true := by simp; omega
        have f5 : decide ((s[k].toNat : Int) < 48) = false := by simp; omega
        have f6 : decide (57 < (s[k].toNat : Int)) = true := by simp; omega
        have hy := HYES.out (by unfold okN; omega)
        have HY := Lib.hid hy
        clear hy hc
        go_wp2
        go_round
        case rel => exact ⟨k + 1, by omega, by go_num, HY.out⟩
        case measure => simp [intOf]; omega
      · skip
        have f0 : decide (97 ≤ (s[k].toNat : Int)) = false := by simp; omega
        have f1 : decide ((s[k].toNat : Int) ≤ 122) = true := by simp; omega
        have f2 : decide (65 ≤ (s[k].toNat : Int)) = true := by simp; omega
        have f3 : decide ((s[k].toNat : Int) ≤ 90) = true := by simp; omega
        have f4 : ((s[k].toNat : Int) != 95) = true := by simp; omega
        have f5 : decide ((s[k].toNat : Int) < 48) = false := by simp; omega
        have f6 : decide (57 < (s[k].toNat : Int)) = true := by simp; omega
        have hy := HYES.out (by unfold okN; omega)
        have HY := Lib.hid hy
        clear hy hc
        go_wp2
        go_round
        case rel => exact ⟨k + 1, by omega, by go_num, HY.out⟩
        case measure => simp [intOf]; omega
      · skip
        have f0 : decide (97 ≤ (s[k].toNat : Int)) = false := by simp; omega
        have f1 : decide ((s[k].toNat : Int) ≤ 122) = true := by simp; omega
        have f2 : decide (65 ≤ (s[k].toNat : Int)) = false := by simp; omega
        have f3 : decide ((s[k].toNat : Int) ≤ 90) = true := by simp; omega
        have f4 : ((s[k].toNat : Int) != 95) = true := by simp; omega
        have f5 : decide ((s[k].toNat : Int) < 48) = false := by simp; omega
        have f6 : decide (57 < (s[k].toNat : Int)) = false := by simp; omega
        by_cases hk0 : k = 0
        · subst hk0
          have hn := HNO.out (by unfold okN; omega)
          have HN := Lib.hid hn
          clear hn hc
          go_wp2
          go_ret
          exact ⟨lret_bool HN.out.symm, rfl⟩
        · have hk1 : ((k : Int) == 0) = false := by rw [beq_eq_false_iff_ne]; omega
          have hy := HYES.out (by unfold okN; omega)
          have HY := Lib.hid hy
          clear hy hc
          go_wp2
          go_round
          case rel => exact ⟨k + 1, by omega, by go_num, HY.out⟩
          case measure => simp [intOf]; omega
      · skip
        have f0 : decide (97 ≤ (s[k].toNat : Int)) = false := by simp; omega
        have f1 : decide ((s[k].toNat : Int) ≤ 122) = true := by simp; omega
        have f2 : decide (65 ≤ (s[k].toNat : Int)) = true := by simp; omega
        have f3 : decide ((s[k].toNat : Int) ≤ 90) = false := by simp; omega
        have f4 : ((s[k].toNat : Int) != 95) = false := by simp; omega
        have f5 : decide ((s[k].toNat : Int) < 48) = false := by simp; omega
        have f6 : decide (57 < (s[k].toNat : Int)) = true := by simp; omega
        by_cases hk0 : k = 0
        · subst hk0
          have hn := HNO.out (by unfold okN; omega)
          have HN := Lib.hid hn
          clear hn hc
          go_wp2
          go_ret
          exact ⟨lret_bool HN.out.symm, rfl⟩
        · have hk1 : ((k : Int) == 0) = false := by rw [beq_eq_false_iff_ne]; omega
          have hy := HYES.out (by unfold okN; omega)
          have HY := Lib.hid hy
          clear hy hc
          go_wp2
          go_round
          case rel => exact ⟨k + 1, by omega, by go_num, HY.out⟩
          case measure => simp [intOf]; omega
      · skip
        have f0 : decide (97 ≤ (s[k].toNat : Int)) = false := by simp; omega
        have f1 : decide ((s[k].toNat : Int) ≤ 122) = true := by simp; omega
        have f2 : decide (65 ≤ (s[k].toNat : Int)) = false := by simp; omega
        have f3 : decide ((s[k].toNat : Int) ≤ 90) = true := by simp; omega
        have f4 : ((s[k].toNat : Int) != 95) = true := by simp; omega
        have f5 : decide ((s[k].toNat : Int) < 48) = true := by simp; omega
        have f6 : decide (57 < (s[k].toNat : Int)) = false := by simp; omega
        by_cases hk0 : k = 0
        · subst hk0
          have hn := HNO.out (by unfold okN; omega)
          have HN := Lib.hid hn
          clear hn hc
          go_wp2
          go_ret
          exact ⟨lret_bool HN.out.symm, rfl⟩
        · have hk1 : ((k : Int) == 0) = false := by rw [beq_eq_false_iff_ne]; omega
          have hn := HNO.out (by unfold okN; omega)
          have HN := Lib.hid hn
          clear hn hc
          go_wp2
          go_ret
          exact ⟨lret_bool HN.out.symm, rfl⟩
      · skip
        have f0 : decide (97 ≤ (s[k].toNat : Int)) = false := by simp; omega
        have f1 : decide ((s[k].toNat : Int) ≤ 122) = true := by simp; omega
        have f2 : decide (65 ≤ (s[k].toNat : Int)) = false := by simp; omega
        have f3 : decide ((s[k].toNat : Int) ≤ 90) = true := by simp; omega
        have f4 : ((s[k].toNat : Int) != 95) = true := by simp; omega
        have f5 : decide ((s[k].toNat : Int) < 48) = false := by simp; omega
        have f6 : decide (57 < (s[k].toNat : Int)) = true := by simp; omega
        by_cases hk0 : k = 0
        · subst hk0
          have hn := HNO.out (by unfold okN; omega)
          have HN := Lib.hid hn
          clear hn hc
          go_wp2
          go_ret
          exact ⟨lret_bool HN.out.symm, rfl⟩
        · have hk1 : ((k : Int) == 0) = false := by rw [beq_eq_false_iff_ne]; omega
          have hn := HNO.out (by unfold okN; omega)
          have HN := Lib.hid hn
          clear hn hc
          go_wp2
          go_ret
          exact ⟨lret_bool HN.out.symm, rfl⟩
      · skip
        have f0 : decide (97 ≤ (s[k].toNat : Int)) = false := by simp; omega
        have f1 : decide ((s[k].toNat : Int) ≤ 122) = true := by simp; omega
        have f2 : decide (65 ≤ (s[k].toNat : Int)) = true := by simp; omega
        have f3 : decide ((s[k].toNat : Int) ≤ 90) = false := by simp; omega
        have f4 : ((s[k].toNat : Int) != 95) = true := by simp; omega
        have f5 : decide ((s[k].toNat : Int) < 48) = false := by simp; omega
        have f6 : decide (57 < (s[k].toNat : Int)) = true := by simp; omega
        by_cases hk0 : k = 0
        · subst hk0
          have hn := HNO.out (by unfold okN; omega)
          have HN := Lib.hid hn
          clear hn hc
          go_wp2
          go_ret
          exact ⟨lret_bool HN.out.symm, rfl⟩
        · have hk1 : ((k : Int) == 0) = false := by rw [beq_eq_false_iff_ne]; omega
          have hn := HNO.out (by unfold okN; omega)
          have HN := Lib.hid hn
          clear hn hc
          go_wp2
          go_ret
          exact ⟨lret_bool HN.out.symm, rfl⟩
      · skip
        have f0 : decide (97 ≤ (s[k].toNat : Int)) = true := by simp; omega
        have f1 : decide ((s[k].toNat : Int) ≤ 122) = false := by simp; omega
        have f2 : decide (65 ≤ (s[k].toNat : Int)) = true := by simp; omega
        have f3 : decide ((s[k].toNat : Int) ≤ 90) = false := by simp; omega
        have f4 : ((s[k].toNat : Int) != 95) = true := by simp; omega
        have f5 : decide ((s[k].toNat : Int) < 48) = false := by simp; omega
        have f6 : decide (57 < (s[k].toNat : Int)) = true := by simp; omega
        by_cases hk0 : k = 0
        · subst hk0
          have hn := HNO.out (by unfold okN; omega)
          have HN := Lib.hid hn
          clear hn hc
          go_wp2
          go_ret
          exact ⟨lret_bool HN.out.symm, rfl⟩
        · have hk1 : ((k : Int) == 0) = false := by rw [beq_eq_false_iff_ne]; omega
          have hn := HNO.out (by unfold okN; omega)
          have HN := Lib.hid hn
          clear hn hc
          go_wp2
          go_ret
          exact ⟨lret_bool HN.out.symm, rfl⟩
    · obtain rfl : k = s.size := by omega
      have hall := nameB_all hok
      have HOK := Lib.hid hok
      clear hok
      by_cases h0 : 0 < s.size
      · by_cases h24 : s.size ≤ 24
        · have hb : B = true := by rw [HB.out, hall]; simp; omega
          subst hb
          clear hall
          go_wp2
          go_ret
          exact ⟨lret_bool (decide_eq_true (by omega)), rfl⟩
        · have hb : B = false := by rw [HB.out, hall]; simp; omega
          subst hb
          have hd : decide ((s.size : Int) ≤ 24) = false := by simp; omega
          clear hall
          go_wp2
          go_ret
          exact ⟨rfl, rfl⟩
      · have hb : B = false := by rw [HB.out, hall]; simp; omega
        subst hb
        have hd : decide ((0 : Int) < (s.size : Int)) = false := decide_eq_false (by omega)
        clear hall
        go_wp2
        go_ret
        exact ⟨rfl, rfl⟩

/-- is a text in a list -/
noncomputable def inB (s : ByteArray) (L : List ByteArray) : Bool := by classical exact decide (s ∈ L)
theorem inB_iff {s : ByteArray} {L : List ByteArray} : inB s L = true ↔ s ∈ L := by unfold inB; simp
theorem RS.take {w : World} {B : Nat} {A : Option Addr} {n cap : Nat} {L : List ByteArray} (h : RS w B (.slice A n cap) L) {k : Nat} (hk : k ≤ L.length) : RS w B (.slice A k cap) (L.take k) := by
  obtain ⟨⟨A', c', hv, hl, h⟩, hs⟩ := h
  simp only [Value.slice.injEq] at hv
  obtain ⟨rfl, rfl, rfl⟩ := hv
  have hlen : (L.take k).length = k := by rw [List.length_take]; omega
  refine ⟨⟨A, cap, by rw [hlen], by rw [hlen]; omega, ?_⟩, fun s hm => hs s (List.mem_of_mem_take hm)⟩
  rw [hlen]
  rcases h with h | ⟨b, off, ha, hB, hc⟩
  · exact .inl (by omega)
  · refine .inr ⟨b, off, ha, hB, fun j hj i x hx => ?_⟩
    have e : (L.take k).getD j ByteArray.empty = L.getD j ByteArray.empty := by
      rw [List.getD_eq_getElem?_getD, List.getD_eq_getElem?_getD, List.getElem?_take, if_pos hj]
    simp only at hx
    rw [e] at hx
    exact hc j (by omega) i x hx
theorem RR.take {w : World} {B : Nat} {A : Option Addr} {n cap : Nat} {L : List (ByteArray × Int)} (h : RR w B (.slice A n cap) L) {k : Nat} (hk : k ≤ L.length) : RR w B (.slice A k cap) (L.take k) := by
  obtain ⟨⟨A', c', hv, hl, h⟩, hs⟩ := h
  simp only [Value.slice.injEq] at hv
  obtain ⟨rfl, rfl, rfl⟩ := hv
  have hlen : (L.take k).length = k := by rw [List.length_take]; omega
  refine ⟨⟨A, cap, by rw [hlen], by rw [hlen]; omega, ?_⟩, fun s hm => hs s (List.mem_of_mem_take hm)⟩
  rw [hlen]
  rcases h with h | ⟨b, off, ha, hB, hc⟩
  · exact .inl (by omega)
  · refine .inr ⟨b, off, ha, hB, fun j hj i x hx => ?_⟩
    have e : (L.take k).getD j (ByteArray.empty, 0) = L.getD j (ByteArray.empty, 0) := by
      rw [List.getD_eq_getElem?_getD, List.getD_eq_getElem?_getD, List.getElem?_take, if_pos hj]
    simp only at hx
    rw [e] at hx
    exact hc j (by omega) i x hx
set_option maxHeartbeats 1000000 in
theorem in7_any (v : Value) (L : List ByteArray) (s : ByteArray) (w : World) (h : RS w w.heap.size v L) :
    Calls Tryz.prog 65 #[v, .string s] w fun e w' => e = .returned (.bool (inB s L)) ∧ w = w' := by
  obtain ⟨B, hB⟩ : ∃ B, B = inB s L := ⟨_, rfl⟩
  rw [← hB]
  have HB := Lib.hid hB
  clear hB
  obtain ⟨⟨A, cap, rfl, hl, hc⟩, _⟩ := h
  have HC := Lib.hid hc
  clear hc
  go_enter Tryz.func65, Tryz.ntmps65
  go_wp2
  go_loop [5] (fun i => ∃ k : Nat, k ≤ L.length ∧ i = .int .i64 k ∧ s ∉ L.take k) (fun i => L.length - (intOf i).toNat)
  case atStart => exact ⟨0, Nat.zero_le _, rfl, by simp⟩
  case round =>
    obtain ⟨k, hk, rfl, hn⟩ := hrel
    have HN := Lib.hid hn
    clear hn
    by_cases hlt : k < L.length
    · rcases HC.out with hc | ⟨q, off, rfl, hq, hc⟩
      · omega
      have c0 : w.cell? ⟨q, off + k, none⟩ = some (.string (L.getD k ByteArray.empty)) := by simpa using hc k hlt 0 _ rfl
      have hmem := getD_mem L ByteArray.empty hlt
      have htk : L.take (k + 1) = L.take k ++ [L.getD k ByteArray.empty] := by rw [getD_eq L _ hlt, List.take_append_getElem]
      obtain ⟨x, hx⟩ : ∃ x, x = L.getD k ByteArray.empty := ⟨_, rfl⟩
      rw [← hx] at c0 hmem htk
      have HM := Lib.hid hmem
      have HT := Lib.hid htk
      clear hx hc hmem htk
      by_cases he : x = s
      · have hb : B = true := by rw [HB.out, inB_iff, ← he]; exact HM.out
        subst hb he
        go_wp2
        go_ret
        exact ⟨rfl, rfl⟩
      · have hne := str_ne he
        have hn2 : s ∉ L.take (k + 1) := by
          rw [HT.out, List.mem_append, List.mem_singleton]
          rintro (h | h)
          · exact HN.out h
          · exact he h.symm
        have HN2 := Lib.hid hn2
        clear he hn2
        go_wp2
        go_round
        case rel => exact ⟨k + 1, by omega, by go_num, HN2.out⟩
        case measure => simp [intOf]; omega
    · have hb : B = false := by
        rw [HB.out, Bool.eq_false_iff, ne_eq, inB_iff]
        have := HN.out
        rwa [List.take_of_length_le (by omega)] at this
      subst hb
      go_wp2
      go_ret
      exact ⟨rfl, rfl⟩

set_option maxHeartbeats 4000000 in
theorem rproper_any (id : ByteArray) (N U f : Int) (v : Value) (L : List (Int × Int)) (w : World) (hs : id.size ≤ 140737488355328) (h : RP w w.heap.size v L) :
    Calls Tryz.prog 81 #[.agg #[.string id, .int .i64 N, .int .i64 U, .int .i64 f, v]] w fun e w' => e = .returned (.bool (limB id N U f L)) ∧ Below w.heap.size w w' := by
  obtain ⟨A, cap, rfl, hl, hst⟩ := h
  have hb0 : Below w.heap.size w (w.alloc (.cells #[.string id, .int .i64 N, .int .i64 U, .int .i64 f, .slice A L.length cap] 65)) := (Below.refl _ _).alloc (Nat.le_refl _) _
  have hk0 : ∀ i v, #[Value.string id, .int .i64 N, .int .i64 U, .int .i64 f, .slice A L.length cap][i]? = some v → (w.alloc (.cells #[.string id, .int .i64 N, .int .i64 U, .int .i64 f, .slice A L.length cap] 65)).cell? ⟨w.heap.size, i, none⟩ = some v := fun i v hv => by
    rw [World.cell?_alloc_new]; exact hv
  unfold limB
  obtain ⟨B1, h1⟩ : ∃ B, B = nameB id := ⟨_, rfl⟩
  obtain ⟨B2, h2⟩ : ∃ B, B = dayB f := ⟨_, rfl⟩
  obtain ⟨B3, h3⟩ : ∃ B, B = termB N U := ⟨_, rfl⟩
  obtain ⟨B5, h5⟩ : ∃ B, B = L.all fun x => stopB x.1 x.2 := ⟨_, rfl⟩
  have n1 := name5_any id
  have n2 := r04is_any f
  have n3 := rterm_any N U
  rw [← h1] at n1 ⊢
  rw [← h2] at n2 ⊢
  rw [← h3] at n3 ⊢
  rw [← h5]
  have H1 := Lib.hid n1
  have H2 := Lib.hid n2
  have H3 := Lib.hid n3
  have H5 := Lib.hid h5
  have HST := Lib.hid hst
  have HK := Lib.hid hk0
  clear h1 h2 h3 h5 n1 n2 n3 hst hk0
  go_enter Tryz.func81, Tryz.ntmps81
  go_wp2
  go_loopw [3] (fun i wr => ∃ k : Nat, k ≤ L.length ∧ i = .int .i64 k ∧ (∀ x ∈ L.take k, stopB x.1 x.2 = true) ∧ Below (w.heap.size + 1) (w.alloc (.cells #[.string id, .int .i64 N, .int .i64 U, .int .i64 f, .slice A L.length cap] 65)) wr) (fun i _ => L.length - (intOf i).toNat)
  case atStart => exact ⟨0, Nat.zero_le _, rfl, by simp, Below.refl _ _⟩
  case round =>
    obtain ⟨k, hk, rfl, hok, hbw⟩ := hrel
    have HOK := Lib.hid hok
    clear hok
    have kc : ∀ i v, #[Value.string id, .int .i64 N, .int .i64 U, .int .i64 f, .slice A L.length cap][i]? = some v → wr.cell? ⟨w.heap.size, i, none⟩ = some v := fun i v hv => (hbw.cell (p := ⟨w.heap.size, i, none⟩) (Nat.lt_succ_self _)).trans (HK.out i v hv)
    have k4 : wr.cell? ⟨w.heap.size, 4, none⟩ = some (.slice A L.length cap) := kc 4 _ rfl
    by_cases hlt : k < L.length
    · rcases HST.out with hc | ⟨q, off, rfl, hq, hc⟩
      · rw [hc] at hlt; simp at hlt
      have hbt := hb0.trans (hbw.mono (Nat.le_succ _))
      have d0 := (hbt.cell (p := ⟨q, off + k * 2, none⟩) hq).trans (hc k hlt).1
      have d1 := (hbt.cell (p := ⟨q, off + k * 2 + 1, none⟩) hq).trans (hc k hlt).2
      have hmem := getD_mem L (0, 0) hlt
      have htk : L.take (k + 1) = L.take k ++ [L.getD k (0, 0)] := by rw [getD_eq L _ hlt, List.take_append_getElem]
      obtain ⟨x, hx⟩ : ∃ x, x = L.getD k (0, 0) := ⟨_, rfl⟩
      rw [← hx] at d0 d1 hmem htk
      obtain ⟨a, b⟩ := x
      simp only at d0 d1
      have HM := Lib.hid hmem
      have HT := Lib.hid htk
      have HBW := Lib.hid hbw
      obtain ⟨X, hX⟩ : ∃ X, X = stopB a b := ⟨_, rfl⟩
      have hcl := fun w => rstop_any a b w
      rw [← hX] at hcl
      have HX := Lib.hid hX
      have HCL := Lib.hid hcl
      clear hx hc hmem htk hX hcl hbt kc hbw
      go_wp2_with fail
      refine (HCL.out _).mono ?_
      rintro e w2 ⟨rfl, b2⟩
      have hbw2 := HBW.out.trans (b2.mono (by have := HBW.out.size; simp at this; omega))
      have HBW2 := Lib.hid hbw2
      clear b2 hbw2
      cases X with
      | false =>
        have h5 : B5 = false := by
          rw [H5.out, List.all_eq_false]
          exact ⟨_, HM.out, by rw [← HX.out]; decide⟩
        subst h5
        go_wp2
        go_ret
        exact ⟨lret_bool (by simp), hb0.trans (HBW2.out.mono (Nat.le_succ _))⟩
      | true =>
        go_wp2
        go_roundw
        case rel =>
          refine ⟨k + 1, by omega, by go_num, fun x hx => ?_, HBW2.out⟩
          rw [HT.out] at hx
          rcases List.mem_append.1 hx with hx | hx
          · exact HOK.out x hx
          · rw [List.mem_singleton.1 hx]; exact HX.out.symm
        case measure => simp [intOf]; omega
    · obtain rfl : k = L.length := by omega
      have h5 : B5 = true := by
        rw [H5.out, List.all_eq_true]
        intro x hx
        have := HOK.out
        rw [List.take_length] at this
        exact this x hx
      subst h5
      have k0 : wr.cell? ⟨w.heap.size, 0, none⟩ = some (.string id) := kc 0 _ rfl
      have k1 : wr.cell? ⟨w.heap.size, 1, none⟩ = some (.int .i64 N) := kc 1 _ rfl
      have k2 : wr.cell? ⟨w.heap.size, 2, none⟩ = some (.int .i64 U) := kc 2 _ rfl
      have k3 : wr.cell? ⟨w.heap.size, 3, none⟩ = some (.int .i64 f) := kc 3 _ rfl
      have hbt := hb0.trans (hbw.mono (Nat.le_succ _))
      have HBT := Lib.hid hbt
      have HBW := Lib.hid hbw
      clear hbt hbw kc
      go_wp2_with fail
      refine (H1.out _ hs).mono ?_
      rintro e w1 ⟨rfl, rfl⟩
      cases B1 with
      | false =>
        go_wp2
        go_ret
        exact ⟨rfl, HBT.out⟩
      | true =>
        go_wp2_with fail
        refine (H2.out _).mono ?_
        rintro e w1 ⟨rfl, rfl⟩
        cases B2 with
        | false =>
          go_wp2
          go_ret
          exact ⟨rfl, HBT.out⟩
        | true =>
          go_wp2_with fail
          refine (H3.out _).mono ?_
          rintro e w2 ⟨rfl, b2⟩
          have c4 := (b2.cell (p := ⟨w.heap.size, 4, none⟩) (by have := HBW.out.size; simp at this; show w.heap.size < _; omega)).trans k4
          have bw := HBT.out.trans (b2.mono HBT.out.size)
          have BW := Lib.hid bw
          clear b2 bw k0 k1 k2 k3 k4
          cases B3 with
          | false =>
            go_wp2
            go_ret
            exact ⟨rfl, BW.out⟩
          | true =>
            by_cases h60 : L.length ≤ 60
            · go_wp2
              go_ret
              exact ⟨lret_bool (by simp [h60]; omega), BW.out⟩
            · have h6b : decide ((L.length : Int) ≤ 60) = false := by simp; omega
              go_wp2
              go_ret
              exact ⟨lret_bool (by simp [h60]), BW.out⟩
end Go.Proofs.YtficjcomefaocaaGreatDoor
