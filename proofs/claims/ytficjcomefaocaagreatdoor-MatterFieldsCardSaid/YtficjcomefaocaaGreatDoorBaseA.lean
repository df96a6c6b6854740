/- MERGED (LexPlain, LexPlainB, LimA, LimB, LimC, LimD, LimE, Lists, MatA, MatB, Seen, Read, MatC): THE LEXER IN PLAIN LEAN, as far as names need it: classes of bytes, names. Imports nothing of the program. -/
import Derived.Test.YtficjcomefaocaaGreatDoorRows
import Derived.WalkKit
import Derived.Lib.Hide
import Derived.Lib.Strings
import Derived.Maps.OwnOps
import Derived.Maps.Views
import Derived.WideKeyPair
import Derived.StringKeys
/- THE LEXER IN PLAIN LEAN, as far as names need it: classes of bytes, names. Imports nothing of the program. -/
namespace Go.Proofs.YtficjcomefaocaaGreatDoor
namespace Lexer

/-- the class of a byte: 0 other, 1 blank, 2 hash, 3 letter, 4 digit, 5 under, 6 symbol, 7 prefix, 8 bang -/
def cls (b : Nat) : Nat :=
  if (97 ≤ b ∧ b ≤ 122) ∨ (65 ≤ b ∧ b ≤ 90) then 3 else if 48 ≤ b ∧ b ≤ 57 then 4 else if b = 32 ∨ b = 9 ∨ b = 10 then 1
  else if b = 59 ∨ b = 44 ∨ b = 46 ∨ b = 58 ∨ b = 40 ∨ b = 41 ∨ b = 91 ∨ b = 93 ∨ b = 123 ∨ b = 125 ∨ b = 61 then 6
  else if b = 60 ∨ b = 62 then 7 else if b = 35 then 2 else if b = 95 then 5 else if b = 33 then 8 else 0
/-- what stands in the table before its last three places are set -/
def cls0 (b : Nat) : Nat := if b = 35 ∨ b = 95 ∨ b = 33 then 0 else cls b
theorem cls_le (b : Nat) : cls b ≤ 8 := by unfold cls; repeat' (first | omega | split)
/-- the byte at a place -/
def bt (s : ByteArray) (j : Nat) : Nat := (s.data.toList.getD j 0).toNat
/-- the class at a place -/
def at' (s : ByteArray) (j : Nat) : Nat := if s.size ≤ j then 0 else cls (bt s j)
/-- may this class go on in a name -/
def wordC (c : Nat) : Prop := c = 3 ∨ c = 4 ∨ c = 5
instance (c : Nat) : Decidable (wordC c) := by unfold wordC; infer_instance
/-- is a text a name -/
def nameS (s : ByteArray) : Prop := 0 < s.size ∧ s.size ≤ 24 ∧ at' s 0 = 3 ∧ ∀ j, j < s.size → wordC (at' s j)

theorem at_end {s : ByteArray} {j : Nat} (h : s.size ≤ j) : at' s j = 0 := by unfold at'; rw [if_pos h]
theorem at_in {s : ByteArray} {j : Nat} (h : at' s j ≠ 0) : j < s.size := by
  rcases Nat.lt_or_ge j s.size with h2 | h2
  · exact h2
  · exact absurd (at_end h2) h
/-- a part of a text that is the whole text -/
theorem whole {s : ByteArray} {i j : Nat} (hij : i ≤ j) (hj : j ≤ s.size) (h : s.extract i j = s) : i = 0 ∧ j = s.size := by
  have hs : (s.extract i j).size = s.size := by rw [h]
  simp only [ByteArray.size_extract] at hs
  by_cases h0 : s.size = 0
  · omega
  · omega
/-- a word token that is the whole text makes it a name -/
theorem name_of_whole {s : ByteArray} {i j : Nat} (hij : i < j) (hj : j ≤ s.size) (hlen : j - i ≤ 24) (h3 : at' s i = 3) (hw : ∀ k, i ≤ k → k < j → wordC (at' s k)) (h : s.extract i j = s) : nameS s := by
  obtain ⟨rfl, rfl⟩ := whole (Nat.le_of_lt hij) hj h
  exact ⟨by omega, by omega, h3, fun k hk => hw k (Nat.zero_le _) hk⟩
end Lexer
end Go.Proofs.YtficjcomefaocaaGreatDoor

/- THE LEXER IN PLAIN LEAN: what the iterator yields, as far as names need it. Imports nothing of the program. -/
namespace Go.Proofs.YtficjcomefaocaaGreatDoor
namespace Lexer

/-- what the iterator yields -/
structure Fnd where
  kind : Int
  text : ByteArray
  n : Int
  pos : Int
  err : Int
/-- an error, no name, or a word of the text -/
def FP (s : ByteArray) (x : Fnd) : Prop :=
  x.err ≠ 0 ∨ x.kind ≠ 1 ∨ ∃ i j, i < j ∧ j ≤ s.size ∧ j - i ≤ 24 ∧ at' s i = 3 ∧ (∀ k, i ≤ k → k < j → wordC (at' s k)) ∧ x.text = s.extract i j
theorem name_of_FP {s : ByteArray} {x : Fnd} (h : FP s x) (he : x.err = 0) (hk : x.kind = 1) (ht : x.text = s) : nameS s := by
  rcases h with h | h | ⟨i, j, hij, hj, hl, h3, hw, hx⟩
  · exact absurd he h
  · exact absurd hk h
  · exact name_of_whole hij hj hl h3 hw (hx.symm.trans ht)
/-- the token of a text that is a name -/
def whole1 (s : ByteArray) : Fnd := ⟨1, s, 0, 0, 0⟩
/-- what has come when the iterator stands at k -/
structure Come (s : ByteArray) (pre : List Fnd) (k : Nat) : Prop where
  le : k ≤ s.size
  len : pre.length ≤ k
  ok : ∀ x ∈ pre, FP s x
  noerr : ∀ x ∈ pre, x.err = 0
  name : nameS s → (k = 0 ∧ pre = []) ∨ (k = s.size ∧ pre = [whole1 s])
theorem come_zero (s : ByteArray) : Come s [] 0 := ⟨Nat.zero_le _, Nat.le_refl _, by simp, by simp, fun _ => .inl ⟨rfl, rfl⟩⟩
/-- what has come when the iterator is done -/
structure Came (s : ByteArray) (xs : List Fnd) : Prop where
  len : xs.length ≤ s.size
  ok : ∀ x ∈ xs, FP s x
  name : nameS s → xs = [whole1 s]
theorem came_of {s : ByteArray} {pre : List Fnd} (h : Come s pre s.size) : Came s pre := by
  refine ⟨h.len, h.ok, fun hn => ?_⟩
  rcases h.name hn with ⟨h0, _⟩ | ⟨_, h1⟩
  · have := hn.1; omega
  · exact h1
/-- at a place that is no letter the text is no name -/
theorem not_name_at {s : ByteArray} {pre : List Fnd} {k : Nat} (h : Come s pre k) (hk : k < s.size) (hc : at' s k ≠ 3) : ¬ nameS s := fun hn => by
  rcases h.name hn with ⟨rfl, _⟩ | ⟨rfl, _⟩
  · exact hc hn.2.2.1
  · omega
/-- going on without a token -/
theorem Come.skip {s : ByteArray} {pre : List Fnd} {k j : Nat} (h : Come s pre k) (hk : k < s.size) (hc : at' s k ≠ 3) (hkj : k ≤ j) (hj : j ≤ s.size) : Come s pre j :=
  ⟨hj, Nat.le_trans h.len hkj, h.ok, h.noerr, fun hn => absurd hn (not_name_at h hk hc)⟩
/-- a token that is no name -/
theorem Come.other {s : ByteArray} {pre : List Fnd} {k j : Nat} {x : Fnd} (h : Come s pre k) (hk : k < s.size) (hc : at' s k ≠ 3) (hkj : k < j) (hj : j ≤ s.size) (hx : x.kind ≠ 1) (he : x.err = 0) : Come s (pre ++ [x]) j := by
  refine ⟨hj, by have := h.len; simp; omega, fun y hy => ?_, fun y hy => ?_, fun hn => absurd hn (not_name_at h hk hc)⟩
  · rcases List.mem_append.1 hy with hy | hy
    · exact h.ok y hy
    · rw [List.mem_singleton.1 hy]; exact .inr (.inl hx)
  · rcases List.mem_append.1 hy with hy | hy
    · exact h.noerr y hy
    · rw [List.mem_singleton.1 hy]; exact he
/-- a word -/
theorem Come.word {s : ByteArray} {pre : List Fnd} {k j : Nat} (h : Come s pre k) (hk : k < s.size) (hc : at' s k = 3) (hkj : k < j) (hj : j ≤ s.size) (hl : j - k ≤ 24)
    (hw : ∀ i, k ≤ i → i < j → wordC (at' s i)) (hend : ¬ wordC (at' s j)) : Come s (pre ++ [⟨1, s.extract k j, 0, k, 0⟩]) j := by
  refine ⟨hj, by have := h.len; simp; omega, fun y hy => ?_, fun y hy => ?_, fun hn => ?_⟩
  · rcases List.mem_append.1 hy with hy | hy
    · exact h.ok y hy
    · rw [List.mem_singleton.1 hy]; exact .inr (.inr ⟨k, j, hkj, hj, hl, hc, hw, rfl⟩)
  · rcases List.mem_append.1 hy with hy | hy
    · exact h.noerr y hy
    · rw [List.mem_singleton.1 hy]
  · rcases h.name hn with ⟨rfl, rfl⟩ | ⟨rfl, _⟩
    · have hjs : j = s.size := by
        rcases Nat.lt_or_ge j s.size with h2 | h2
        · exact absurd (hn.2.2.2 j h2) hend
        · omega
      subst hjs
      refine .inr ⟨rfl, ?_⟩
      simp [whole1]
    · omega
/-- an error comes last: then the text is no name -/
theorem Come.bad {s : ByteArray} {pre : List Fnd} {k : Nat} {x : Fnd} (h : Come s pre k) (hk : k < s.size) (hne : ¬ nameS s) (he : x.err ≠ 0) : Came s (pre ++ [x]) := by
  refine ⟨by have := h.len; simp; omega, fun y hy => ?_, fun hn => absurd hn hne⟩
  rcases List.mem_append.1 hy with hy | hy
  · exact h.ok y hy
  · rw [List.mem_singleton.1 hy]; exact .inl he
/-- a word that is too long -/
theorem not_name_long {s : ByteArray} {pre : List Fnd} {k j : Nat} (h : Come s pre k) (hk : k < s.size) (hj : j ≤ s.size) (hl : 24 < j - k) : ¬ nameS s := fun hn => by
  rcases h.name hn with ⟨rfl, _⟩ | ⟨rfl, _⟩
  · have := hn.2.1; omega
  · omega
end Lexer
end Go.Proofs.YtficjcomefaocaaGreatDoor

/- WALKS of package limit's small functions: isDay, properStop, properTerm, isName. -/
namespace Go.Proofs.YtficjcomefaocaaGreatDoor
open Go.RowKit
open Lexer

theorem lret_bool {a b : Bool} (h : a = b) : Ending.returned (.bool a) = .returned (.bool b) := by rw [h]

/-- is a number a day -/
def dayB (n : Int) : Bool := decide (0 ≤ n ∧ n ≤ 1000000)
theorem isDay_any (n : Int) (w : World) :
    Calls Tryz.prog 132 #[.int .i64 n] w fun e w' => e = .returned (.bool (dayB n)) ∧ w = w' := by
  by_cases h0 : 0 ≤ n
  · by_cases h1 : n ≤ 1000000
    · have hb : dayB n = true := by unfold dayB; simp; omega
      rw [hb]
      go_enter Tryz.func132, Tryz.ntmps132
      go_wp2
      go_ret
      exact ⟨rfl, rfl⟩
    · have hb : dayB n = false := by unfold dayB; simp; omega
      have h2 : decide (n ≤ 1000000) = false := by simp; omega
      rw [hb]
      go_enter Tryz.func132, Tryz.ntmps132
      go_wp2
      go_ret
      exact ⟨rfl, rfl⟩
  · have hb : dayB n = false := by unfold dayB; simp; omega
    have h2 : decide (0 ≤ n) = false := by simp; omega
    rw [hb]
    go_enter Tryz.func132, Tryz.ntmps132
    go_wp2
    go_ret
    exact ⟨rfl, rfl⟩
theorem mis_any (n : Int) (w : World) :
    Calls Tryz.prog 53 #[.int .i64 n] w fun e w' => e = .returned (.bool (dayB n)) ∧ w = w' := by
  by_cases h0 : 0 ≤ n
  · by_cases h1 : n ≤ 1000000
    · have hb : dayB n = true := by unfold dayB; simp; omega
      rw [hb]
      go_enter Tryz.func53, Tryz.ntmps53
      go_wp2
      go_ret
      exact ⟨rfl, rfl⟩
    · have hb : dayB n = false := by unfold dayB; simp; omega
      have h2 : decide (n ≤ 1000000) = false := by simp; omega
      rw [hb]
      go_enter Tryz.func53, Tryz.ntmps53
      go_wp2
      go_ret
      exact ⟨rfl, rfl⟩
  · have hb : dayB n = false := by unfold dayB; simp; omega
    have h2 : decide (0 ≤ n) = false := by simp; omega
    rw [hb]
    go_enter Tryz.func53, Tryz.ntmps53
    go_wp2
    go_ret
    exact ⟨rfl, rfl⟩

/-- is a term proper -/
def termB (N U : Int) : Bool := decide (1 ≤ U ∧ U ≤ 5 ∧ 0 ≤ N ∧ N ≤ 1000000)
theorem properTerm_any (N U : Int) (w : World) :
    Calls Tryz.prog 133 #[.agg #[.int .i64 N, .int .i64 U]] w fun e w' => e = .returned (.bool (termB N U)) ∧ Below w.heap.size w w' := by
  go_enter Tryz.func133, Tryz.ntmps133
  go_wp2
  all_goals go_ret
  all_goals exact ⟨lret_bool (by rw [Bool.eq_iff_iff]; simp [termB]; omega), (Below.refl _ _).alloc (Nat.le_refl _) _⟩

/-- is a stop proper -/
def stopB (a b : Int) : Bool := decide (0 ≤ a ∧ a ≤ b ∧ b ≤ 1000000)
theorem properStop_any (a b : Int) (w : World) :
    Calls Tryz.prog 111 #[.agg #[.int .i64 a, .int .i64 b]] w fun e w' => e = .returned (.bool (stopB a b)) ∧ Below w.heap.size w w' := by
  go_enter Tryz.func111, Tryz.ntmps111
  go_wp2
  all_goals go_ret
  all_goals exact ⟨lret_bool (by rw [Bool.eq_iff_iff]; simp [stopB]; omega), (Below.refl _ _).alloc (Nat.le_refl _) _⟩
end Go.Proofs.YtficjcomefaocaaGreatDoor

/- WALK of package limit's isName. -/
namespace Go.Proofs.YtficjcomefaocaaGreatDoor
open Go.RowKit
open Lexer

theorem bt_at (s : ByteArray) (k : Nat) (h : k < s.size) : bt s k = s[k].toNat := by
  have h2 : k < s.data.toList.length := h
  unfold bt
  rw [List.getD_eq_getElem?_getD, List.getElem?_eq_getElem h2]
  rfl
/-- may this byte stand at this place of a name -/
def okN (k b : Nat) : Prop := (97 ≤ b ∧ b ≤ 122) ∨ (65 ≤ b ∧ b ≤ 90) ∨ (k ≠ 0 ∧ ((48 ≤ b ∧ b ≤ 57) ∨ b = 95))
instance (k b : Nat) : Decidable (okN k b) := by unfold okN; infer_instance
theorem cls_3 {b : Nat} : cls b = 3 ↔ ((97 ≤ b ∧ b ≤ 122) ∨ (65 ≤ b ∧ b ≤ 90)) := by
  unfold cls
  repeat' (first | omega | split)
theorem cls_word {b : Nat} : wordC (cls b) ↔ ((97 ≤ b ∧ b ≤ 122) ∨ (65 ≤ b ∧ b ≤ 90) ∨ (48 ≤ b ∧ b ≤ 57) ∨ b = 95) := by
  unfold wordC cls
  repeat' (first | omega | split)
theorem nameS_iff (s : ByteArray) : nameS s ↔ (0 < s.size ∧ s.size ≤ 24 ∧ ∀ k, k < s.size → okN k (bt s k)) := by
  constructor
  · rintro ⟨h0, h1, h3, hw⟩
    refine ⟨h0, h1, fun k hk => ?_⟩
    have hwk := hw k hk
    unfold at' at hwk h3
    rw [if_neg (by omega)] at hwk h3
    rw [cls_word] at hwk
    rw [cls_3] at h3
    unfold okN
    by_cases hk0 : k = 0
    · subst hk0; omega
    · omega
  · rintro ⟨h0, h1, hk⟩
    refine ⟨h0, h1, ?_, fun k hks => ?_⟩
    · have := hk 0 h0
      unfold okN at this
      unfold at'
      rw [if_neg (by omega), cls_3]
      omega
    · have := hk k hks
      unfold okN at this
      unfold at'
      rw [if_neg (by omega), cls_word]
      omega

open Classical in
/-- is a text a name -/
noncomputable def nameB (s : ByteArray) : Bool := decide (nameS s)
theorem nameB_no {s : ByteArray} {k : Nat} (hk : k < s.size) (h : ¬ okN k (bt s k)) : nameB s = false := by
  unfold nameB
  rw [decide_eq_false_iff_not, nameS_iff]
  exact fun hn => h (hn.2.2 k hk)
theorem nameB_all {s : ByteArray} (h : ∀ k, k < s.size → okN k (bt s k)) : nameB s = decide (0 < s.size ∧ s.size ≤ 24) := by
  unfold nameB
  rw [decide_eq_decide, nameS_iff]
  exact ⟨fun hn => ⟨hn.1, hn.2.1⟩, fun hn => ⟨hn.1, hn.2, h⟩⟩

set_option maxHeartbeats 4000000 in
theorem isName_any (s : ByteArray) (w : World) (hs : s.size ≤ 140737488355328) :
    Calls Tryz.prog 131 #[.string s] w fun e w' => e = .returned (.bool (nameB s)) ∧ w = w' := by
  obtain ⟨B, hB⟩ : ∃ B, B = nameB s := ⟨_, rfl⟩
  rw [← hB]
  have HB := Lib.hid hB
  clear hB
  go_enter Tryz.func131, Tryz.ntmps131
  go_wp2
  go_loop [9] (fun i => ∃ k : Nat, k ≤ s.size ∧ i = .int .i64 k ∧ ∀ j : Nat, j < k → okN j (bt s j)) (fun i => s.size - (intOf i).toNat)
  case atStart => exact ⟨0, by omega, rfl, fun j hj => absurd hj (by omega)⟩
  case round =>
    obtain ⟨k, hk, rfl, hok⟩ := hrel
    by_cases hlt : k < s.size
    · have h255 : s[k].toNat < 256 := UInt8.toNat_lt _
      have hbt := bt_at s k hlt
      have hno : ¬ okN k s[k].toNat → B = false := fun h => by rw [HB.out]; exact nameB_no hlt (by rw [hbt]; exact h)
      have hyes : okN k s[k].toNat → ∀ j : Nat, j < k + 1 → okN j (bt s j) := fun h j hj => by
        by_cases e : j = k
        · rw [e, hbt]; exact h
        · exact hok j (by omega)
      have HNO := Lib.hid hno
      have HYES := Lib.hid hyes
      clear hno hyes hok hbt
      rcases (by omega : (97 ≤ s[k].toNat ∧ s[k].toNat ≤ 122) ∨ (65 ≤ s[k].toNat ∧ s[k].toNat ≤ 90) ∨ (48 ≤ s[k].toNat ∧ s[k].toNat ≤ 57) ∨ (s[k].toNat = 95) ∨ (s[k].toNat < 48) ∨ (58 ≤ s[k].toNat ∧ s[k].toNat ≤ 64) ∨ (91 ≤ s[k].toNat ∧ s[k].toNat ≤ 96 ∧ s[k].toNat ≠ 95) ∨ (123 ≤ s[k].toNat)) with hc | hc | hc | hc | hc | hc | hc | hc
      · skip
        have f0 : decide (97 ≤ (s[k].toNat : Int)) = true := by simp; omega
        have f1 : decide ((s[k].toNat : Int) ≤ 122) = true := by simp; omega
        have f2 : decide (65 ≤ (s[k].toNat : Int)) = true := by simp; omega
        have f3 : decide ((s[k].toNat : Int) ≤ 90) = false := by simp; omega
        have f4 : decide (48 ≤ (s[k].toNat : Int)) = true := by simp; omega
        have f5 : decide ((s[k].toNat : Int) ≤ 57) = false := by simp; omega
        have f6 : ((s[k].toNat : Int) == 95) = false := by rw [beq_eq_false_iff_ne]; omega
        have hy := HYES.out (by unfold okN; omega)
        have HY := Lib.hid hy
        clear hy hc
        go_wp2
        go_round
        case rel => exact ⟨k + 1, by omega, by go_num, HY.out⟩
        case measure => simp [intOf]; omega
      · skip
        have f0 : decide (97 ≤ (s[k].toNat : Int)) = false := by simp; omega
        have f1 : decide ((s[k].toNat : Int) ≤ 122) = true := by simp; omega
        have f2 : decide (65 ≤ (s[k].toNat : Int)) = true := by simp; omega
        have f3 : decide ((s[k].toNat : Int) ≤ 90) = true := by simp; omega
        have f4 : decide (48 ≤ (s[k].toNat : Int)) = true := by simp; omega
        have f5 : decide ((s[k].toNat : Int) ≤ 57) = false := by simp; omega
        have f6 : ((s[k].toNat : Int) == 95) = false := by rw [beq_eq_false_iff_ne]; omega
        have hy := HYES.out (by unfold okN; omega)
        have HY := Lib.hid hy
        clear hy hc
        go_wp2
        go_round
        case rel => exact ⟨k + 1, by omega, by go_num, HY.out⟩
        case measure => simp [intOf]; omega
      · skip
        have f0 : decide (97 ≤ (s[k].toNat : Int)) = false := by simp; omega
        have f1 : decide ((s[k].toNat : Int) ≤ 122) = true := by simp; omega
        have f2 : decide (65 ≤ (s[k].toNat : Int)) = false := by simp; omega
        have f3 : decide ((s[k].toNat : Int) ≤ 90) = true := by simp; omega
        have f4 : decide (48 ≤ (s[k].toNat : Int)) = true := by simp; omega
        have f5 : decide ((s[k].toNat : Int) ≤ 57) = true := by simp; omega
        have f6 : ((s[k].toNat : Int) == 95) = false := by rw [beq_eq_false_iff_ne]; omega
        by_cases hk0 : k = 0
        · subst hk0
          have hn := HNO.out (by unfold okN; omega)
          have HN := Lib.hid hn
          clear hn hc
          go_wp2
          go_ret
          exact ⟨lret_bool HN.out.symm, rfl⟩
        · have g : ((k : Int) == 0) = false := by rw [beq_eq_false_iff_ne]; omega
          have hy := HYES.out (by unfold okN; omega)
          have HY := Lib.hid hy
          clear hy hc
          go_wp2
          go_round
          case rel => exact ⟨k + 1, by omega, by go_num, HY.out⟩
          case measure => simp [intOf]; omega
      · skip
        have f0 : decide (97 ≤ (s[k].toNat : Int)) = false := by simp; omega
        have f1 : decide ((s[k].toNat : Int) ≤ 122) = true := by simp; omega
        have f2 : decide (65 ≤ (s[k].toNat : Int)) = true := by simp; omega
        have f3 : decide ((s[k].toNat : Int) ≤ 90) = false := by simp; omega
        have f4 : decide (48 ≤ (s[k].toNat : Int)) = true := by simp; omega
        have f5 : decide ((s[k].toNat : Int) ≤ 57) = false := by simp; omega
        have f6 : ((s[k].toNat : Int) == 95) = true := by rw [beq_iff_eq]; omega
        by_cases hk0 : k = 0
        · subst hk0
          have hn := HNO.out (by unfold okN; omega)
          have HN := Lib.hid hn
          clear hn hc
          go_wp2
          go_ret
          exact ⟨lret_bool HN.out.symm, rfl⟩
        · have g : ((k : Int) == 0) = false := by rw [beq_eq_false_iff_ne]; omega
          have hy := HYES.out (by unfold okN; omega)
          have HY := Lib.hid hy
          clear hy hc
          go_wp2
          go_round
          case rel => exact ⟨k + 1, by omega, by go_num, HY.out⟩
          case measure => simp [intOf]; omega
      · skip
        have f0 : decide (97 ≤ (s[k].toNat : Int)) = false := by simp; omega
        have f1 : decide ((s[k].toNat : Int) ≤ 122) = true := by simp; omega
        have f2 : decide (65 ≤ (s[k].toNat : Int)) = false := by simp; omega
        have f3 : decide ((s[k].toNat : Int) ≤ 90) = true := by simp; omega
        have f4 : decide (48 ≤ (s[k].toNat : Int)) = false := by simp; omega
        have f5 : decide ((s[k].toNat : Int) ≤ 57) = true := by simp; omega
        have f6 : ((s[k].toNat : Int) == 95) = false := by rw [beq_eq_false_iff_ne]; omega
        by_cases hk0 : k = 0
        · subst hk0
          have hn := HNO.out (by unfold okN; omega)
          have HN := Lib.hid hn
          clear hn hc
          go_wp2
          go_ret
          exact ⟨lret_bool HN.out.symm, rfl⟩
        · have g : ((k : Int) == 0) = false := by rw [beq_eq_false_iff_ne]; omega
          have hn := HNO.out (by unfold okN; omega)
          have HN := Lib.hid hn
          clear hn hc
          go_wp2
          go_ret
          exact ⟨lret_bool HN.out.symm, rfl⟩
      · skip
        have f0 : decide (97 ≤ (s[k].toNat : Int)) = false := by simp; omega
        have f1 : decide ((s[k].toNat : Int) ≤ 122) = true := by simp; omega
        have f2 : decide (65 ≤ (s[k].toNat : Int)) = false := by simp; omega
        have f3 : decide ((s[k].toNat : Int) ≤ 90) = true := by simp; omega
        have f4 : decide (48 ≤ (s[k].toNat : Int)) = true := by simp; omega
        have f5 : decide ((s[k].toNat : Int) ≤ 57) = false := by simp; omega
        have f6 : ((s[k].toNat : Int) == 95) = false := by rw [beq_eq_false_iff_ne]; omega
        by_cases hk0 : k = 0
        · subst hk0
          have hn := HNO.out (by unfold okN; omega)
          have HN := Lib.hid hn
          clear hn hc
          go_wp2
          go_ret
          exact ⟨lret_bool HN.out.symm, rfl⟩
        · have g : ((k : Int) == 0) = false := by rw [beq_eq_false_iff_ne]; omega
          have hn := HNO.out (by unfold okN; omega)
          have HN := Lib.hid hn
          clear hn hc
          go_wp2
          go_ret
          exact ⟨lret_bool HN.out.symm, rfl⟩
      · skip
        have f0 : decide (97 ≤ (s[k].toNat : Int)) = false := by simp; omega
        have f1 : decide ((s[k].toNat : Int) ≤ 122) = true := by simp; omega
        have f2 : decide (65 ≤ (s[k].toNat : Int)) = true := by simp; omega
        have f3 : decide ((s[k].toNat : Int) ≤ 90) = false := by simp; omega
        have f4 : decide (48 ≤ (s[k].toNat : Int)) = true := by simp; omega
        have f5 : decide ((s[k].toNat : Int) ≤ 57) = false := by simp; omega
        have f6 : ((s[k].toNat : Int) == 95) = false := by rw [beq_eq_false_iff_ne]; omega
        by_cases hk0 : k = 0
        · subst hk0
          have hn := HNO.out (by unfold okN; omega)
          have HN := Lib.hid hn
          clear hn hc
          go_wp2
          go_ret
          exact ⟨lret_bool HN.out.symm, rfl⟩
        · have g : ((k : Int) == 0) = false := by rw [beq_eq_false_iff_ne]; omega
          have hn := HNO.out (by unfold okN; omega)
          have HN := Lib.hid hn
          clear hn hc
          go_wp2
          go_ret
          exact ⟨lret_bool HN.out.symm, rfl⟩
      · skip
        have f0 : decide (97 ≤ (s[k].toNat : Int)) = true := by simp; omega
        have f1 : decide ((s[k].toNat : Int) ≤ 122) = false := by simp; omega
        have f2 : decide (65 ≤ (s[k].toNat : Int)) = true := by simp; omega
        have f3 : decide ((s[k].toNat : Int) ≤ 90) = false := by simp; omega
        have f4 : decide (48 ≤ (s[k].toNat : Int)) = true := by simp; omega
        have f5 : decide ((s[k].toNat : Int) ≤ 57) = false := by simp; omega
        have f6 : ((s[k].toNat : Int) == 95) = false := by rw [beq_eq_false_iff_ne]; omega
        by_cases hk0 : k = 0
        · subst hk0
          have hn := HNO.out (by unfold okN; omega)
          have HN := Lib.hid hn
          clear hn hc
          go_wp2
          go_ret
          exact ⟨lret_bool HN.out.symm, rfl⟩
        · have g : ((k : Int) == 0) = false := by rw [beq_eq_false_iff_ne]; omega
          have hn := HNO.out (by unfold okN; omega)
          have HN := Lib.hid hn
          clear hn hc
          go_wp2
          go_ret
          exact ⟨lret_bool HN.out.symm, rfl⟩
    · obtain rfl : k = s.size := by omega
      have hall := HB.out.trans (nameB_all hok)
      have hem : s.toList.isEmpty = decide (s.size = 0) := by
        have : s.data.toList.length = s.size := rfl
        rw [Lib.toList_data, Bool.eq_iff_iff, List.isEmpty_iff, decide_eq_true_eq, ← this, List.length_eq_zero_iff]
      by_cases h0 : s.size = 0
      · have he : s.toList.isEmpty = true := by rw [hem]; simpa using h0
        have hb : B = false := by rw [hall]; simp; omega
        have HBB := Lib.hid hb
        clear hall hok hem hb h0
        go_wp2
        go_ret
        exact ⟨lret_bool HBB.out.symm, rfl⟩
      · have he : s.toList.isEmpty = false := by rw [hem]; simpa using h0
        by_cases h24 : s.size ≤ 24
        · have hb : B = true := by rw [hall]; simp; omega
          have HBB := Lib.hid hb
          clear hall hok hem hb h0
          go_wp2
          go_ret
          exact ⟨lret_bool (by rw [HBB.out]; simp; omega), rfl⟩
        · have hb : B = false := by rw [hall]; simp; omega
          have h24b : decide ((s.size : Int) ≤ 24) = false := by simp; omega
          have HBB := Lib.hid hb
          clear hall hok hem hb h0
          go_wp2
          go_ret
          exact ⟨lret_bool HBB.out.symm, rfl⟩
end Go.Proofs.YtficjcomefaocaaGreatDoor

/- WALKS of package limit: the closure of proper. -/
namespace Go.Proofs.YtficjcomefaocaaGreatDoor
open Go.RowKit

theorem properC_any (a b : Int) (w : World) :
    Calls Tryz.prog 130 #[.agg #[.int .i64 a, .int .i64 b]] w fun e w' => e = .returned (.bool (!stopB a b)) ∧ Below w.heap.size w w' := by
  go_enter Tryz.func130, Tryz.ntmps130
  go_wp2_with fail
  refine (properStop_any a b _).mono ?_
  rintro e w1 ⟨rfl, b1⟩
  have bw := ((Below.refl w.heap.size w).alloc (Nat.le_refl _) (.cells #[.int .i64 a, .int .i64 b] 77)).trans (b1.mono (by simp))
  clear b1
  go_wp2
  go_ret
  exact ⟨rfl, bw⟩
end Go.Proofs.YtficjcomefaocaaGreatDoor

/- WALKS of package limit: lists of stops; ContainsFunc over them. -/
namespace Go.Proofs.YtficjcomefaocaaGreatDoor
open Go.RowKit

/-- a slice reads as a list of pairs (stops): two cells an element, below B -/
def RP (w : World) (B : Nat) (v : Value) (L : List (Int × Int)) : Prop :=
  ∃ A cap, v = .slice A L.length cap ∧ L.length ≤ 140737488355328 ∧ (L = [] ∨ ∃ b off, A = some ⟨b, off, none⟩ ∧ b < B ∧ ∀ k, k < L.length → w.cell? ⟨b, off + k * 2, none⟩ = some (.int .i64 (L.getD k (0, 0)).1) ∧ w.cell? ⟨b, off + k * 2 + 1, none⟩ = some (.int .i64 (L.getD k (0, 0)).2))
theorem RP.below {w w' : World} {B : Nat} {v : Value} {L : List (Int × Int)} (h : RP w B v L) (hb : Below B w w') : RP w' B v L := by
  obtain ⟨A, cap, hv, hl, h⟩ := h
  refine ⟨A, cap, hv, hl, ?_⟩
  rcases h with h | ⟨b, off, ha, hB, hc⟩
  · exact .inl h
  · exact .inr ⟨b, off, ha, hB, fun k hk => ⟨(hb.cell (p := ⟨b, off + k * 2, none⟩) hB).trans (hc k hk).1, (hb.cell (p := ⟨b, off + k * 2 + 1, none⟩) hB).trans (hc k hk).2⟩⟩
theorem RP.more {w : World} {B B' : Nat} {v : Value} {L : List (Int × Int)} (h : RP w B v L) (hB : B ≤ B') : RP w B' v L := by
  obtain ⟨A, cap, hv, hl, h⟩ := h
  refine ⟨A, cap, hv, hl, ?_⟩
  rcases h with h | ⟨b, off, ha, hb, hc⟩
  · exact .inl h
  · exact .inr ⟨b, off, ha, Nat.lt_of_lt_of_le hb hB, hc⟩

/-- the place of the first bad stop, or -1 -/
def badAt (L : List (Int × Int)) (i : Int) : Prop := (i = -1 ∧ ∀ x ∈ L, stopB x.1 x.2 = true) ∨ (0 ≤ i ∧ ∃ x ∈ L, stopB x.1 x.2 = false)

set_option maxHeartbeats 1000000 in
theorem stopsIdx_any (v : Value) (L : List (Int × Int)) (w : World) (h : RP w w.heap.size v L) :
    Calls Tryz.prog 149 #[v, .func (.func 130) #[] #[]] w fun e w' => (∃ i, e = .returned (.int .i64 i) ∧ badAt L i) ∧ Below w.heap.size w w' := by
  obtain ⟨A, cap, rfl, hl, h⟩ := h
  rcases h with rfl | ⟨b, off, rfl, hB, hc⟩
  · go_enter Tryz.func149, Tryz.ntmps149
    go_wp2
    refine wp_loop_rounds 1 ?_
    rw [rounds_succ]
    go_wp2
    go_ret
    exact ⟨⟨_, rfl, .inl ⟨rfl, by simp⟩⟩, Below.refl _ _⟩
  · go_enter Tryz.func149, Tryz.ntmps149
    go_wp2
    go_loopw [8] (fun i wr => ∃ k : Nat, k ≤ L.length ∧ i = .int .i64 k ∧ (∀ j, j < k → stopB (L.getD j (0, 0)).1 (L.getD j (0, 0)).2 = true) ∧ Below w.heap.size w wr) (fun i _ => L.length - (intOf i).toNat)
    case atStart => exact ⟨0, Nat.zero_le _, rfl, fun j hj => absurd hj (by omega), Below.refl _ _⟩
    case round =>
      obtain ⟨k, hk, rfl, hok, hbw⟩ := hrel
      by_cases hlt : k < L.length
      · have c0 := (hbw.cell (p := ⟨b, off + k * 2, none⟩) hB).trans (hc k hlt).1
        have c1 := (hbw.cell (p := ⟨b, off + k * 2 + 1, none⟩) hB).trans (hc k hlt).2
        obtain ⟨x, hx⟩ : ∃ x, x = L.getD k (0, 0) := ⟨_, rfl⟩
        have hxm : x ∈ L := by rw [hx, List.getD_eq_getElem?_getD, List.getElem?_eq_getElem hlt]; simp
        rw [← hx] at c0 c1
        have HX := Lib.hid hx
        have HXM := Lib.hid hxm
        have HC := Lib.hid hc
        have HOK := Lib.hid hok
        clear hx hxm hc hok
        go_wp2_with fail
        refine (properC_any x.1 x.2 _).mono ?_
        rintro e w2 ⟨rfl, b2⟩
        have bw2 := hbw.trans (b2.mono hbw.size)
        clear b2
        cases hs : stopB x.1 x.2 with
        | false =>
          have HS := Lib.hid hs
          clear hs
          go_wp2
          go_ret
          exact ⟨⟨_, rfl, .inr ⟨by omega, x, HXM.out, HS.out⟩⟩, bw2⟩
        | true =>
          have HS := Lib.hid hs
          clear hs
          go_wp2
          go_roundw
          case rel =>
            refine ⟨k + 1, by omega, by go_num, fun j hj => ?_, bw2⟩
            by_cases e : j = k
            · rw [e, ← HX.out]; exact HS.out
            · exact HOK.out j (by omega)
          case measure => simp [intOf]; omega
      · obtain rfl : k = L.length := by omega
        have hall : ∀ x ∈ L, stopB x.1 x.2 = true := fun x hx => by
          obtain ⟨j, hj, rfl⟩ := List.getElem_of_mem hx
          have := hok j hj
          rwa [List.getD_eq_getElem?_getD, List.getElem?_eq_getElem hj] at this
        have HALL := Lib.hid hall
        clear hall hok hc
        go_wp2
        go_ret
        exact ⟨⟨_, rfl, .inl ⟨rfl, HALL.out⟩⟩, hbw⟩
end Go.Proofs.YtficjcomefaocaaGreatDoor

/- WALK of package limit's proper. -/
namespace Go.Proofs.YtficjcomefaocaaGreatDoor
open Go.RowKit

theorem stopsAny (v : Value) (L : List (Int × Int)) (w : World) (h : RP w w.heap.size v L) :
    Calls Tryz.prog 134 #[v, .func (.func 130) #[] #[]] w fun e w' => e = .returned (.bool (!L.all fun x => stopB x.1 x.2)) ∧ Below w.heap.size w w' := by
  have hi := stopsIdx_any v L w h
  obtain ⟨A, cap, rfl, hl, _⟩ := h
  go_enter Tryz.func134, Tryz.ntmps134
  go_wp2_with fail
  refine hi.mono ?_
  rintro e w1 ⟨⟨i, rfl, hb⟩, b1⟩
  have hr : decide (0 ≤ i) = !L.all fun x => stopB x.1 x.2 := by
    rcases hb with ⟨rfl, ha⟩ | ⟨h0, x, hx, hs⟩
    · have : (L.all fun x => stopB x.1 x.2) = true := by rw [List.all_eq_true]; exact ha
      rw [this]; rfl
    · have : (L.all fun x => stopB x.1 x.2) = false := by
        rw [List.all_eq_false]; exact ⟨x, hx, by rw [hs]; decide⟩
      rw [this]; simpa using h0
  have HR := Lib.hid hr
  clear hr hb hi
  go_wp2
  go_ret
  exact ⟨lret_bool HR.out, b1⟩

/-- is a limit proper -/
noncomputable def limB (id : ByteArray) (N U f : Int) (L : List (Int × Int)) : Bool := nameB id && dayB f && termB N U && decide (L.length ≤ 60) && (L.all fun x => stopB x.1 x.2)

set_option maxHeartbeats 2000000 in
theorem lproper_any (id : ByteArray) (N U f : Int) (v : Value) (L : List (Int × Int)) (w : World) (hs : id.size ≤ 140737488355328) (h : RP w w.heap.size v L) :
    Calls Tryz.prog 110 #[.agg #[.string id, .int .i64 N, .int .i64 U, .int .i64 f, v]] w fun e w' => e = .returned (.bool (limB id N U f L)) ∧ Below w.heap.size w w' := by
  have hri : ∀ w', Below w.heap.size w w' → RP w' w'.heap.size v L := fun w' hb => (h.below hb).more hb.size
  have HRI := Lib.hid hri
  obtain ⟨A, cap, rfl, hl, _⟩ := h
  have hb0 : Below w.heap.size w (w.alloc (.cells #[.string id, .int .i64 N, .int .i64 U, .int .i64 f, .slice A L.length cap] 65)) := (Below.refl _ _).alloc (Nat.le_refl _) _
  unfold limB
  obtain ⟨B1, h1⟩ : ∃ B, B = nameB id := ⟨_, rfl⟩
  obtain ⟨B2, h2⟩ : ∃ B, B = dayB f := ⟨_, rfl⟩
  obtain ⟨B3, h3⟩ : ∃ B, B = termB N U := ⟨_, rfl⟩
  obtain ⟨B5, h5⟩ : ∃ B, B = L.all fun x => stopB x.1 x.2 := ⟨_, rfl⟩
  have n1 := isName_any id
  have n2 := isDay_any f
  have n3 := properTerm_any N U
  have n5 := fun w h => stopsAny (.slice A L.length cap) L w h
  rw [← h1] at n1 ⊢
  rw [← h2] at n2 ⊢
  rw [← h3] at n3 ⊢
  rw [← h5] at n5 ⊢
  have H1 := Lib.hid n1
  have H2 := Lib.hid n2
  have H3 := Lib.hid n3
  have H5 := Lib.hid n5
  clear h1 h2 h3 h5 n1 n2 n3 n5 hri
  go_enter Tryz.func110, Tryz.ntmps110
  go_wp2_with fail
  refine (H1.out _ hs).mono ?_
  rintro e w1 ⟨rfl, rfl⟩
  cases B1 with
  | false =>
    go_wp2
    go_ret
    exact ⟨rfl, hb0⟩
  | true =>
    go_wp2_with fail
    refine (H2.out _).mono ?_
    rintro e w1 ⟨rfl, rfl⟩
    cases B2 with
    | false =>
      go_wp2
      go_ret
      exact ⟨rfl, hb0⟩
    | true =>
      go_wp2_with fail
      refine (H3.out _).mono ?_
      rintro e w2 ⟨rfl, b2⟩
      have c4 := (b2.cell (p := ⟨w.heap.size, 4, none⟩) (by simp)).trans (show (w.alloc (.cells #[.string id, .int .i64 N, .int .i64 U, .int .i64 f, .slice A L.length cap] 65)).cell? ⟨w.heap.size, 4, none⟩ = some (.slice A L.length cap) by simp [go_sem])
      have bw := hb0.trans (b2.mono hb0.size)
      clear b2
      cases B3 with
      | false =>
        go_wp2
        go_ret
        exact ⟨rfl, bw⟩
      | true =>
        by_cases h60 : L.length ≤ 60
        · go_wp2_with fail
          refine (H5.out _ (HRI.out _ bw)).mono ?_
          rintro e w3 ⟨rfl, b3⟩
          have bw3 := bw.trans (b3.mono bw.size)
          clear b3
          go_wp2
          go_ret
          exact ⟨lret_bool (by simp [h60]), bw3⟩
        · have h6b : decide ((L.length : Int) ≤ 60) = false := by simp; omega
          go_wp2
          go_ret
          exact ⟨lret_bool (by simp [h60]), bw⟩
end Go.Proofs.YtficjcomefaocaaGreatDoor

/- LISTS as slices read, where the calendar's texts are not to be had. -/
namespace Go.Proofs.YtficjcomefaocaaGreatDoor
open Go.RowKit

/-- a slice reads as a list of numbers, below B -/
def RI (w : World) (B : Nat) (v : Value) (L : List Int) : Prop :=
  ∃ A cap, v = .slice A L.length cap ∧ L.length * 8 ≤ 140737488355328 ∧ (∀ x ∈ L, (Lit.int .i64 x).wf = true) ∧ (L = [] ∨ ∃ b off, A = some ⟨b, off, none⟩ ∧ b < B ∧ ∀ k, k < L.length → w.cell? ⟨b, off + k, none⟩ = some (.int .i64 (L.getD k 0)))
theorem RI.below {w w' : World} {B : Nat} {v : Value} {L : List Int} (h : RI w B v L) (hb : Below B w w') : RI w' B v L := by
  obtain ⟨A, cap, hv, hl, hw, h⟩ := h
  refine ⟨A, cap, hv, hl, hw, ?_⟩
  rcases h with h | ⟨b, off, ha, hB, hc⟩
  · exact .inl h
  · exact .inr ⟨b, off, ha, hB, fun k hk => (hb.cell (p := ⟨b, off + k, none⟩) hB).trans (hc k hk)⟩
theorem RI.more {w : World} {B B' : Nat} {v : Value} {L : List Int} (h : RI w B v L) (hB : B ≤ B') : RI w B' v L := by
  obtain ⟨A, cap, hv, hl, hw, h⟩ := h
  refine ⟨A, cap, hv, hl, hw, ?_⟩
  rcases h with h | ⟨b, off, ha, hb, hc⟩
  · exact .inl h
  · exact .inr ⟨b, off, ha, by omega, hc⟩
theorem RI.alloc {w : World} {v : Value} {L : List Int} (h : RI w w.heap.size v L) (o : Obj) : RI (w.alloc o) w.heap.size v L := h.below ((Below.refl w.heap.size w).alloc (Nat.le_refl _) o)
end Go.Proofs.YtficjcomefaocaaGreatDoor

/- WALKS of matter: the closure over a case's values, ContainsFunc over them. -/
namespace Go.Proofs.YtficjcomefaocaaGreatDoor
open Go.RowKit

/-- is a number a fact's value -/
def valB (n : Int) : Bool := decide (0 ≤ n ∧ n ≤ 1000000)
theorem valC_any (n : Int) (w : World) :
    Calls Tryz.prog 71 #[.int .i64 n] w fun e w' => e = .returned (.bool (!valB n)) ∧ w = w' := by
  by_cases h0 : n < 0
  · have hb : valB n = false := by unfold valB; simp; omega
    rw [hb]
    go_enter Tryz.func71, Tryz.ntmps71
    go_wp2
    go_ret
    exact ⟨rfl, rfl⟩
  · have h0b : decide (n < 0) = false := by simp; omega
    by_cases h1 : 1000000 < n
    · have hb : valB n = false := by unfold valB; simp; omega
      rw [hb]
      go_enter Tryz.func71, Tryz.ntmps71
      go_wp2
      go_ret
      exact ⟨rfl, rfl⟩
    · have hb : valB n = true := by unfold valB; simp; omega
      have h1b : decide (1000000 < n) = false := by simp; omega
      rw [hb]
      go_enter Tryz.func71, Tryz.ntmps71
      go_wp2
      go_ret
      exact ⟨rfl, rfl⟩

/-- the place of the first bad stop, or -1 -/
def caseAt (L : List Int) (i : Int) : Prop := (i = -1 ∧ ∀ x ∈ L, valB x = true) ∨ (0 ≤ i ∧ ∃ x ∈ L, valB x = false)

set_option maxHeartbeats 1000000 in
theorem caseIdx_any (v : Value) (L : List Int) (w : World) (h : RI w w.heap.size v L) :
    Calls Tryz.prog 92 #[v, .func (.func 71) #[] #[]] w fun e w' => (∃ i, e = .returned (.int .i64 i) ∧ caseAt L i) ∧ Below w.heap.size w w' := by
  obtain ⟨A, cap, rfl, hl, _, h⟩ := h
  rcases h with rfl | ⟨b, off, rfl, hB, hc⟩
  · go_enter Tryz.func92, Tryz.ntmps92
    go_wp2
    refine wp_loop_rounds 1 ?_
    rw [rounds_succ]
    go_wp2
    go_ret
    exact ⟨⟨_, rfl, .inl ⟨rfl, by simp⟩⟩, Below.refl _ _⟩
  · go_enter Tryz.func92, Tryz.ntmps92
    go_wp2
    go_loopw [8] (fun i wr => ∃ k : Nat, k ≤ L.length ∧ i = .int .i64 k ∧ (∀ j, j < k → valB (L.getD j 0) = true) ∧ Below w.heap.size w wr) (fun i _ => L.length - (intOf i).toNat)
    case atStart => exact ⟨0, Nat.zero_le _, rfl, fun j hj => absurd hj (by omega), Below.refl _ _⟩
    case round =>
      obtain ⟨k, hk, rfl, hok, hbw⟩ := hrel
      by_cases hlt : k < L.length
      · have c0 := (hbw.cell (p := ⟨b, off + k, none⟩) hB).trans (hc k hlt)
        obtain ⟨x, hx⟩ : ∃ x, x = L.getD k 0 := ⟨_, rfl⟩
        have hxm : x ∈ L := by rw [hx, List.getD_eq_getElem?_getD, List.getElem?_eq_getElem hlt]; simp
        rw [← hx] at c0
        have HX := Lib.hid hx
        have HXM := Lib.hid hxm
        have HC := Lib.hid hc
        have HOK := Lib.hid hok
        clear hx hxm hc hok
        go_wp2_with fail
        refine (valC_any x _).mono ?_
        rintro e w2 ⟨rfl, rfl⟩
        have bw2 := hbw
        cases hs : valB x with
        | false =>
          have HS := Lib.hid hs
          clear hs
          go_wp2
          go_ret
          exact ⟨⟨_, rfl, .inr ⟨by omega, x, HXM.out, HS.out⟩⟩, bw2⟩
        | true =>
          have HS := Lib.hid hs
          clear hs
          go_wp2
          go_roundw
          case rel =>
            refine ⟨k + 1, by omega, by go_num, fun j hj => ?_, bw2⟩
            by_cases e : j = k
            · rw [e, ← HX.out]; exact HS.out
            · exact HOK.out j (by omega)
          case measure => simp [intOf]; omega
      · obtain rfl : k = L.length := by omega
        have hall : ∀ x ∈ L, valB x = true := fun x hx => by
          obtain ⟨j, hj, rfl⟩ := List.getElem_of_mem hx
          have := hok j hj
          rwa [List.getD_eq_getElem?_getD, List.getElem?_eq_getElem hj] at this
        have HALL := Lib.hid hall
        clear hall hok hc
        go_wp2
        go_ret
        exact ⟨⟨_, rfl, .inl ⟨rfl, HALL.out⟩⟩, hbw⟩
theorem caseAny (v : Value) (L : List Int) (w : World) (h : RI w w.heap.size v L) :
    Calls Tryz.prog 70 #[v, .func (.func 71) #[] #[]] w fun e w' => e = .returned (.bool (!L.all fun x => valB x)) ∧ Below w.heap.size w w' := by
  have hi := caseIdx_any v L w h
  obtain ⟨A, cap, rfl, hl, _, _⟩ := h
  go_enter Tryz.func70, Tryz.ntmps70
  go_wp2_with fail
  refine hi.mono ?_
  rintro e w1 ⟨⟨i, rfl, hb⟩, b1⟩
  have hr : decide (0 ≤ i) = !L.all fun x => valB x := by
    rcases hb with ⟨rfl, ha⟩ | ⟨h0, x, hx, hs⟩
    · have : (L.all fun x => valB x) = true := by rw [List.all_eq_true]; exact ha
      rw [this]; rfl
    · have : (L.all fun x => valB x) = false := by
        rw [List.all_eq_false]; exact ⟨x, hx, by rw [hs]; decide⟩
      rw [this]; simpa using h0
  have HR := Lib.hid hr
  clear hr hb hi
  go_wp2
  go_ret
  exact ⟨lret_bool HR.out, b1⟩

end Go.Proofs.YtficjcomefaocaaGreatDoor

/- WALKS of matter: the key closures. -/
namespace Go.Proofs.YtficjcomefaocaaGreatDoor
open Go.RowKit

theorem keyS_any (s : ByteArray) (w : World) : Calls Tryz.prog 61 #[.string s] w fun e w' => e = .returned (.string s) ∧ w = w' := by
  go_enter Tryz.func61, Tryz.ntmps61
  go_wp2
  go_ret
  exact ⟨rfl, rfl⟩
theorem keyR_any (s : ByteArray) (n : Int) (w : World) : Calls Tryz.prog 74 #[.agg #[.string s, .int .i64 n]] w fun e w' => e = .returned (.string s) ∧ Below w.heap.size w w' := by
  go_enter Tryz.func74, Tryz.ntmps74
  go_wp2
  go_ret
  exact ⟨rfl, (Below.refl _ _).alloc (Nat.le_refl _) _⟩
theorem keyL_any (s : ByteArray) (N U f : Int) (v : Value) (w : World) : Calls Tryz.prog 77 #[.agg #[.string s, .int .i64 N, .int .i64 U, .int .i64 f, v]] w fun e w' => e = .returned (.string s) ∧ Below w.heap.size w w' := by
  go_enter Tryz.func77, Tryz.ntmps77
  go_wp2
  go_ret
  exact ⟨rfl, (Below.refl _ _).alloc (Nat.le_refl _) _⟩
end Go.Proofs.YtficjcomefaocaaGreatDoor

/- THE MAPS of matter.different: a set of keys that were seen, by the key's literal. -/
namespace Go.Proofs.YtficjcomefaocaaGreatDoor
open Go.RowKit Go.Maps

theorem zeroBool (w : World) : (zeroValue 4).run Tryz.prog w = .ok (.bool false) w := by kernel_rfl
theorem plainElem_bool_inv {H : Type} {P : Program} {e : TypeId} (he : P.underlying e = some .bool) {v : Value} {z : DataW H × List MemPlace} (h : plainElem P e v = some z) : ∃ x, v = .bool x ∧ z = (.lit (.bool x), []) := by
  unfold plainElem at h
  rw [he] at h
  cases v <;> simp at h
  exact ⟨_, rfl, h.symm⟩

/-- block b is a set of keys: those in S -/
def Seen (w : World) (K : TypeId) (b n : Nat) (S : List Lit) : Prop :=
  ∃ D : DataW Unit, w.ownsMap Tryz.prog K (plainElem Tryz.prog 4) b n D ∧ IsMap D ∧ ∀ l, (l ∈ S → D.atKey l (.lit (.bool false)) = .lit (.bool true)) ∧ (l ∉ S → D.atKey l (.lit (.bool false)) = .lit (.bool false))
theorem Seen.lt {w : World} {K : TypeId} {b n : Nat} {S : List Lit} (h : Seen w K b n S) : b < w.heap.size := by obtain ⟨D, h, _⟩ := h; exact h.lt
theorem Seen.below {w w' : World} {K : TypeId} {b n B : Nat} {S : List Lit} (h : Seen w K b n S) (hb : Below B w w') (hB : b < B) : Seen w' K b n S := by
  obtain ⟨D, ⟨es, clock, hh, F, hs, hD⟩, h2⟩ := h
  exact ⟨D, ⟨es, clock, (hb.block b hB).trans hh, F, hs, hD⟩, h2⟩
theorem seen_made (w : World) (K : TypeId) : Seen (w.alloc (.map #[] 0)) K w.heap.size 0 [] :=
  ⟨_, World.ownsMap_made _ _ _ _, isMap_empty, fun x => by simp [DataW.atKey]⟩
theorem Seen.look {w : World} {K : TypeId} {b n : Nat} {S : List Lit} (h : Seen w K b n S) (hK : Keyed Tryz.prog K) {T : TypeId} (hT : Tryz.prog.underlying T = some (.map K 4)) {v : Value} {l : Lit} (hv : keyOf Tryz.prog K v = some l) :
    (l ∈ S → (Instr.lookup T (.map (some b)) v false).run Tryz.prog w = .ok (.bool true) w) ∧ (l ∉ S → (Instr.lookup T (.map (some b)) v false).run Tryz.prog w = .ok (.bool false) w) := by
  obtain ⟨D, ho, _, hat⟩ := h
  obtain ⟨z, ps, hrun, hz⟩ := ho.lookup hK hT (zeroBool w) (plainElem_bool Tryz.underlying4 false) hv
  obtain ⟨y, rfl, hy⟩ := plainElem_bool_inv Tryz.underlying4 hz
  simp only [Prod.mk.injEq] at hy
  rw [hrun]
  refine ⟨fun hm => ?_, fun hm => ?_⟩
  · rw [(hat l).1 hm] at hy
    simp at hy
    rw [← hy.1]
  · rw [(hat l).2 hm] at hy
    simp at hy
    rw [← hy.1]
theorem seen_put {D : DataW Unit} {S : List Lit} (hm : IsMap D) (hat : ∀ l, (l ∈ S → D.atKey l (.lit (.bool false)) = .lit (.bool true)) ∧ (l ∉ S → D.atKey l (.lit (.bool false)) = .lit (.bool false))) {k : Lit} (hk : WideAt.IsKeyLit k) :
    IsMap (D.put k (.lit (.bool true))) ∧ ∀ l, (l ∈ k :: S → (D.put k (.lit (.bool true))).atKey l (.lit (.bool false)) = .lit (.bool true)) ∧ (l ∉ k :: S → (D.put k (.lit (.bool true))).atKey l (.lit (.bool false)) = .lit (.bool false)) := by
  refine ⟨hm.put _ _, fun l => ?_⟩
  by_cases e : l = k
  · subst e
    rw [atKey_put_same hm hk]
    simp
  · rw [atKey_put_other e]
    refine ⟨fun h => (hat l).1 ?_, fun h => (hat l).2 ?_⟩
    · rcases List.mem_cons.1 h with h | h
      · exact absurd h e
      · exact h
    · exact fun h2 => h (List.mem_cons.2 (.inr h2))

theorem lawStr : Keyed Tryz.prog 9 := string_keyed Tryz.underlying9
/-- a text's literal -/
def litS (s : ByteArray) : Lit := .string s.data.toList
theorem litS_inj {a b : ByteArray} (h : litS a = litS b) : a = b := by
  simp [litS] at h
  rcases a with ⟨a⟩
  rcases b with ⟨b⟩
  simp at h
  rw [h]
theorem keyS {s : ByteArray} (h : s.size ≤ maxLen) : keyOf Tryz.prog 9 (.string s) = some (litS s) := WideMaps.keyOf_string_mk Tryz.underlying9 h
theorem keyS_lit (s : ByteArray) : WideAt.IsKeyLit (litS s) := trivial

/-- are all elements good, their keys different, at most 60 -/
noncomputable def diffB {α κ : Type} (good : α → Bool) (key : α → κ) (L : List α) : Bool := by
  classical
  exact L.all good && decide ((L.map key).Nodup) && decide (L.length ≤ 60)
theorem diffB_iff {α κ : Type} {good : α → Bool} {key : α → κ} {L : List α} : diffB good key L = true ↔ (∀ x ∈ L, good x = true) ∧ (L.map key).Nodup ∧ L.length ≤ 60 := by
  unfold diffB
  simp [and_assoc]
/-- what holds when k elements are gone through -/
def diffAt {α κ : Type} (good : α → Bool) (key : α → κ) (L : List α) (k : Nat) : Prop := (∀ x ∈ L.take k, good x = true) ∧ ((L.take k).map key).Nodup
theorem diffAt_zero {α κ : Type} (good : α → Bool) (key : α → κ) (L : List α) : diffAt good key L 0 := by simp [diffAt]
theorem take_snoc {α : Type} (L : List α) (k : Nat) (hk : k < L.length) : L.take (k + 1) = L.take k ++ [L[k]] := by
  rw [List.take_add_one, List.getElem?_eq_getElem hk]; simp
theorem diffAt_succ {α κ : Type} {good : α → Bool} {key : α → κ} {L : List α} {k : Nat} (hk : k < L.length) (h : diffAt good key L k) (hg : good L[k] = true) (hn : key L[k] ∉ (L.take k).map key) : diffAt good key L (k + 1) := by
  unfold diffAt
  rw [take_snoc L k hk]
  refine ⟨fun x hx => ?_, ?_⟩
  · rcases List.mem_append.1 hx with hx | hx
    · exact h.1 x hx
    · rw [List.mem_singleton.1 hx]; exact hg
  · rw [List.map_append, List.nodup_append]
    refine ⟨h.2, by simp, fun a ha b hb e => ?_⟩
    simp at hb
    rw [e, hb] at ha
    exact hn ha
theorem diffB_bad {α κ : Type} {good : α → Bool} {key : α → κ} {L : List α} {k : Nat} (hk : k < L.length) (hg : good L[k] = false) : diffB good key L = false := by
  rw [Bool.eq_false_iff, ne_eq, diffB_iff]
  intro h
  have := h.1 L[k] (List.getElem_mem hk)
  rw [hg] at this
  cases this
theorem diffB_twice {α κ : Type} {good : α → Bool} {key : α → κ} {L : List α} {k : Nat} (hk : k < L.length) (hn : key L[k] ∈ (L.take k).map key) : diffB good key L = false := by
  rw [Bool.eq_false_iff, ne_eq, diffB_iff]
  intro h
  have h2 := h.2.1
  rw [← List.take_append_drop k L, List.map_append, List.nodup_append] at h2
  exact h2.2.2 _ hn (key L[k]) (List.mem_map.2 ⟨L[k], by rw [List.drop_eq_getElem_cons hk]; exact List.mem_cons_self, rfl⟩) rfl
theorem diffB_end {α κ : Type} {good : α → Bool} {key : α → κ} {L : List α} (h : diffAt good key L L.length) : decide ((L.length : Int) ≤ 60) = diffB good key L := by
  rw [Bool.eq_iff_iff, diffB_iff, decide_eq_true_iff]
  unfold diffAt at h
  rw [List.take_length] at h
  refine ⟨fun h2 => ⟨h.1, h.2, by omega⟩, fun h2 => by have := h2.2.2; omega⟩
end Go.Proofs.YtficjcomefaocaaGreatDoor

/- LISTS as slices read: rows of cells; texts; rights; limits. -/
namespace Go.Proofs.YtficjcomefaocaaGreatDoor
open Go.RowKit

/-- a slice of n elements of c cells each: element k's cells hold cs k; below B -/
def RG (w : World) (B : Nat) (v : Value) (n c : Nat) (cs : Nat → List Value) : Prop :=
  ∃ A cap, v = .slice A n cap ∧ n ≤ 140737488355328 ∧ (n = 0 ∨ ∃ b off, A = some ⟨b, off, none⟩ ∧ b < B ∧ ∀ k, k < n → ∀ j x, (cs k)[j]? = some x → w.cell? ⟨b, off + k * c + j, none⟩ = some x)
theorem RG.below {w w' : World} {B : Nat} {v : Value} {n c : Nat} {cs : Nat → List Value} (h : RG w B v n c cs) (hb : Below B w w') : RG w' B v n c cs := by
  obtain ⟨A, cap, hv, hl, h⟩ := h
  refine ⟨A, cap, hv, hl, ?_⟩
  rcases h with h | ⟨b, off, ha, hB, hc⟩
  · exact .inl h
  · exact .inr ⟨b, off, ha, hB, fun k hk j x hx => (hb.cell (p := ⟨b, off + k * c + j, none⟩) hB).trans (hc k hk j x hx)⟩
theorem RG.more {w : World} {B B' : Nat} {v : Value} {n c : Nat} {cs : Nat → List Value} (h : RG w B v n c cs) (hB : B ≤ B') : RG w B' v n c cs := by
  obtain ⟨A, cap, hv, hl, h⟩ := h
  refine ⟨A, cap, hv, hl, ?_⟩
  rcases h with h | ⟨b, off, ha, hb, hc⟩
  · exact .inl h
  · exact .inr ⟨b, off, ha, Nat.lt_of_lt_of_le hb hB, hc⟩
theorem rg_nil (w : World) (B c cap : Nat) (A : Option Addr) (cs : Nat → List Value) : RG w B (.slice A 0 cap) 0 c cs := ⟨A, cap, rfl, by omega, .inl rfl⟩

/-- texts -/
def RS (w : World) (B : Nat) (v : Value) (L : List ByteArray) : Prop := RG w B v L.length 1 (fun k => [.string (L.getD k ByteArray.empty)]) ∧ ∀ s ∈ L, s.size ≤ 140737488355328
/-- rights: a name, a day -/
def RR (w : World) (B : Nat) (v : Value) (L : List (ByteArray × Int)) : Prop := RG w B v L.length 2 (fun k => [.string (L.getD k (ByteArray.empty, 0)).1, .int .i64 (L.getD k (ByteArray.empty, 0)).2]) ∧ ∀ s ∈ L, s.1.size ≤ 140737488355328
/-- a limit; sv: the slice of its stops as it lies there -/
structure Lim where
  id : ByteArray
  N : Int
  U : Int
  f : Int
  sv : Value
  stops : List (Int × Int)
def lim0 : Lim := ⟨ByteArray.empty, 0, 0, 0, .slice none 0 0, []⟩
/-- limits -/
def RL (w : World) (B : Nat) (v : Value) (L : List Lim) : Prop :=
  RG w B v L.length 5 (fun k => [.string (L.getD k lim0).id, .int .i64 (L.getD k lim0).N, .int .i64 (L.getD k lim0).U, .int .i64 (L.getD k lim0).f, (L.getD k lim0).sv]) ∧ (∀ x ∈ L, x.id.size ≤ 140737488355328) ∧ ∀ x ∈ L, RP w B x.sv x.stops
theorem RS.below {w w' : World} {B : Nat} {v : Value} {L : List ByteArray} (h : RS w B v L) (hb : Below B w w') : RS w' B v L := ⟨h.1.below hb, h.2⟩
theorem RS.more {w : World} {B B' : Nat} {v : Value} {L : List ByteArray} (h : RS w B v L) (hB : B ≤ B') : RS w B' v L := ⟨h.1.more hB, h.2⟩
theorem RR.below {w w' : World} {B : Nat} {v : Value} {L : List (ByteArray × Int)} (h : RR w B v L) (hb : Below B w w') : RR w' B v L := ⟨h.1.below hb, h.2⟩
theorem RR.more {w : World} {B B' : Nat} {v : Value} {L : List (ByteArray × Int)} (h : RR w B v L) (hB : B ≤ B') : RR w B' v L := ⟨h.1.more hB, h.2⟩
theorem RL.below {w w' : World} {B : Nat} {v : Value} {L : List Lim} (h : RL w B v L) (hb : Below B w w') : RL w' B v L := ⟨h.1.below hb, h.2.1, fun x hx => (h.2.2 x hx).below hb⟩
theorem RL.more {w : World} {B B' : Nat} {v : Value} {L : List Lim} (h : RL w B v L) (hB : B ≤ B') : RL w B' v L := ⟨h.1.more hB, h.2.1, fun x hx => (h.2.2 x hx).more hB⟩
theorem getD_mem {α : Type} (L : List α) (d : α) {k : Nat} (hk : k < L.length) : L.getD k d ∈ L := by
  rw [List.getD_eq_getElem?_getD, List.getElem?_eq_getElem hk]; simp
theorem getD_eq {α : Type} (L : List α) (d : α) {k : Nat} (hk : k < L.length) : L.getD k d = L[k] := by
  rw [List.getD_eq_getElem?_getD, List.getElem?_eq_getElem hk]; simp
end Go.Proofs.YtficjcomefaocaaGreatDoor

/- WALKS of matter: the closures over moves and rights; what is asked of name. -/
namespace Go.Proofs.YtficjcomefaocaaGreatDoor
open Go.RowKit Go.Maps

/-- WHAT IS ASKED OF matter.name (proved in a later text) -/
def NameOK : Prop := ∀ (s : ByteArray) (w : World), s.size ≤ 140737488355328 → Calls Tryz.prog 52 #[.string s] w fun e w' => e = .returned (.bool (nameB s)) ∧ Below w.heap.size w w'

theorem keyP_any (a b : Int) (w : World) : Calls Tryz.prog 63 #[.agg #[.int .i64 a, .int .i64 b]] w fun e w' => e = .returned (.agg #[.int .i64 a, .int .i64 b]) ∧ Below w.heap.size w w' := by
  go_enter Tryz.func63, Tryz.ntmps63
  go_wp2
  refine bodyPost_ret (v := .agg #[.int .i64 a, .int .i64 b]) (by simp [results, Tryz.results63, go_sem]) rfl ⟨rfl, ?_⟩
  exact ((Below.refl _ _).alloc (Nat.le_refl _) _).alloc (by simp) _

/-- is a move one of a procedure of n stages -/
def moveB (n : Nat) (x : Int × Int) : Bool := decide (x.1 ≠ x.2 ∧ 0 ≤ min x.1 x.2 ∧ max x.1 x.2 < n)
theorem moveG_any (n : Nat) (q : Nat) (a b : Int) (w : World) (hc : w.cell? ⟨q, 0, none⟩ = some (.int .i64 n)) (hq : q < w.heap.size) :
    Calls Tryz.prog 64 #[.agg #[.int .i64 a, .int .i64 b], .pointer (some ⟨q, 0, none⟩)] w fun e w' => e = .returned (.bool (moveB n (a, b))) ∧ Below w.heap.size w w' := by
  have h3 := (((Below.refl w.heap.size w).alloc (Nat.le_refl _) (.cells #[.int .i64 a, .int .i64 b] 101)).cell (p := ⟨q, 0, none⟩) hq).trans hc
  go_enter Tryz.func64, Tryz.ntmps64
  go_wp2
  all_goals go_ret
  all_goals exact ⟨lret_bool (by rw [Bool.eq_iff_iff]; simp [moveB]; omega), (Below.refl _ _).alloc (Nat.le_refl _) _⟩

/-- is a right's entry good -/
noncomputable def rightB (opened : Int) (x : ByteArray × Int) : Bool := nameB x.1 && decide (opened ≤ x.2) && dayB x.2
set_option maxHeartbeats 1000000 in
theorem rightG_any (H : NameOK) (opened : Int) (q : Nat) (s : ByteArray) (n : Int) (w : World) (hs : s.size ≤ 140737488355328) (hc : w.cell? ⟨q, 1, none⟩ = some (.int .i64 opened)) (hq : q < w.heap.size) :
    Calls Tryz.prog 75 #[.agg #[.string s, .int .i64 n], .pointer (some ⟨q, 0, none⟩)] w fun e w' => e = .returned (.bool (rightB opened (s, n))) ∧ Below w.heap.size w w' := by
  unfold rightB
  obtain ⟨B1, h1⟩ : ∃ B, B = nameB s := ⟨_, rfl⟩
  obtain ⟨B2, h2⟩ : ∃ B, B = dayB n := ⟨_, rfl⟩
  have n1 := fun w => H s w hs
  have n2 := mis_any n
  rw [← h1] at n1
  rw [← h2] at n2
  simp only []
  rw [← h1, ← h2]
  have H1 := Lib.hid n1
  have H2 := Lib.hid n2
  have bw0 := (Below.refl w.heap.size w).alloc (Nat.le_refl _) (.cells #[.string s, .int .i64 n] 41)
  clear h1 h2 n1 n2
  go_enter Tryz.func75, Tryz.ntmps75
  go_wp2_with fail
  refine (H1.out _).mono ?_
  rintro e w2 ⟨rfl, b2⟩
  have c1 := (b2.cell (p := ⟨w.heap.size, 1, none⟩) (by simp)).trans (show (w.alloc (.cells #[.string s, .int .i64 n] 41)).cell? ⟨w.heap.size, 1, none⟩ = some (.int .i64 n) by simp [go_sem])
  have bw := bw0.trans (b2.mono bw0.size)
  have c2 := (bw.cell (p := ⟨q, 1, none⟩) hq).trans hc
  clear b2
  cases B1 with
  | false =>
    go_wp2
    go_ret
    exact ⟨rfl, bw⟩
  | true =>
    by_cases hle : opened ≤ n
    · go_wp2_with fail
      refine (H2.out _).mono ?_
      rintro e w3 ⟨rfl, rfl⟩
      go_wp2
      go_ret
      exact ⟨lret_bool (by simp [hle]), bw⟩
    · have hd : decide (opened ≤ n) = false := by simpa using hle
      go_wp2
      go_ret
      exact ⟨lret_bool (by simp [hd]), bw⟩

/-- a pair's literal -/
def litP (x : Int × Int) : Lit := .string (keyBytes [.int .i64 x.1, .int .i64 x.2])
theorem arrPair : WideMaps.ArrKey Tryz.prog 101 3 2 := ⟨Tryz.underlying101, by kernel_rfl, by kernel_rfl, by kernel_rfl⟩
theorem lawPair : Keyed Tryz.prog 101 := Keyed.of_law arrPair.law
theorem keyP {x : Int × Int} (h : (Lit.int .i64 x.1).wf = true ∧ (Lit.int .i64 x.2).wf = true) : keyOf Tryz.prog 101 (.agg #[.int .i64 x.1, .int .i64 x.2]) = some (litP x) :=
  WideMaps.keyOf_pair arrPair Tryz.underlying3 ⟨Tryz.prog.types.size - 1, by kernel_rfl⟩ h.1 h.2
theorem keyP_lit (x : Int × Int) : WideAt.IsKeyLit (litP x) := trivial
theorem litP_inj {x y : Int × Int} (hx : (Lit.int .i64 x.1).wf = true ∧ (Lit.int .i64 x.2).wf = true) (hy : (Lit.int .i64 y.1).wf = true ∧ (Lit.int .i64 y.2).wf = true) (h : litP x = litP y) : x = y := by
  have := lawPair.inj (keyP hx) (by rw [h]; exact keyP hy)
  simp at this
  exact Prod.ext this.1 this.2
end Go.Proofs.YtficjcomefaocaaGreatDoor
