/- WALK of CalendarMatchesReference. -/
import Derived.Test.YtpelnfolnlmhdaaDoorHead
import Derived.Test.YtpelnfolnlmhdaaDoorLawEnds
import Derived.Test.YtpelnfolnlmhdaaDoorParseB
import Derived.Test.YtpelnfolnlmhdaaDoorRefE
import Derived.Test.YtpelnfolnlmhdaaDoorRefG
namespace Go.Proofs.YtpelnfolnlmhdaaDoor
open Go.RowKit Go.Maps
open Cal

/-- a call whose answer is known, the world grown -/
def Ans (f : FuncId) (args : Array Value) (v : Value) : Prop := ∀ w, Calls Tryd.prog f args w fun e w' => e = .returned v ∧ Below w.heap.size w w'

theorem both_date (n : Int) : ∃ c d g h : Int, Ans 15 #[.int .i64 n] (.tuple #[.int .i64 c, .int .i64 d, .int .i64 g, .int .i64 h]) ∧ Ans 22 #[.int .i64 n] (.tuple #[.int .i64 c, .int .i64 d, .int .i64 g, .int .i64 h]) := by
  by_cases hn : n < 0 ∨ 1000000 < n
  · exact ⟨0, 0, 0, 10, fun w => date_no n w hn, fun w => rdate_no n w hn⟩
  · exact ⟨yr n, mo n, da n, 0, fun w => date_yes n w (by omega) (by omega), fun w => rdate_yes n w (by omega) (by omega)⟩
theorem both_text (n : Int) : ∃ S : ByteArray, (∀ w, PT w → Calls Tryd.prog 26 #[.int .i64 n] w fun e w' => e = .returned (.string S) ∧ Below w.heap.size w w') ∧ Ans 27 #[.int .i64 n] (.string S) := by
  by_cases hn : n < 0 ∨ 1000000 < n
  · exact ⟨_, fun w _ => text_no n w hn, fun w => rtext_no n w hn⟩
  · exact ⟨_, fun w h => text_yes n w (by omega) (by omega) h, fun w => rtext_yes n w (by omega) (by omega)⟩
/-- a call whose answer is known, the world as it was -/
def AnsW (f : FuncId) (args : Array Value) (v : Value) : Prop := ∀ w, Calls Tryd.prog f args w fun e w' => e = .returned v ∧ w = w'
theorem both_weekday (n : Int) : ∃ x : Int, AnsW 16 #[.int .i64 n] (.int .i64 x) ∧ AnsW 28 #[.int .i64 n] (.int .i64 x) := by
  by_cases hn : n < 0 ∨ 1000000 < n
  · exact ⟨-1, fun w => weekday_no n w hn, fun w => rweekday_no n w hn⟩
  · exact ⟨_, fun w => weekday_yes n w (by omega) (by omega), fun w => rweekday_yes n w (by omega) (by omega)⟩
theorem both_day (y m d : Int) : ∃ a e : Int, Ans 14 #[.int .i64 y, .int .i64 m, .int .i64 d] (.tuple #[.int .i64 a, .int .i64 e]) ∧ Ans 21 #[.int .i64 y, .int .i64 m, .int .i64 d] (.tuple #[.int .i64 a, .int .i64 e]) :=
  ⟨_, _, fun w => day_any y m d w, fun w => rday_any y m d w⟩
theorem both_parse (s : ByteArray) (hs : s.size ≤ 40) : ∃ a e : Int, (∀ w, MT w → Calls Tryd.prog 23 #[.string s] w fun e' w' => e' = .returned (.tuple #[.int .i64 a, .int .i64 e]) ∧ Below w.heap.size w w') ∧ Ans 24 #[.string s] (.tuple #[.int .i64 a, .int .i64 e]) :=
  ⟨_, _, fun w h => parse_any s w h hs, fun w => rparse_any s w⟩
theorem both_add (day N U : Int) (v : Value) (L : List Int) : ∃ a e : Int, (∀ w, RI w w.heap.size v L → Calls Tryd.prog 12 #[.int .i64 day, .agg #[.int .i64 N, .int .i64 U], v] w fun e' w' => e' = .returned (.tuple #[.int .i64 a, .int .i64 e]) ∧ Below w.heap.size w w') ∧
    (∀ w, RI w w.heap.size v L → Calls Tryd.prog 25 #[.int .i64 day, .agg #[.int .i64 N, .int .i64 U], v] w fun e' w' => e' = .returned (.tuple #[.int .i64 a, .int .i64 e]) ∧ Below w.heap.size w w') :=
  ⟨_, _, fun w h => add_any day N U v L w h, fun w h => radd_any day N U v L w h⟩

set_option maxHeartbeats 1000000 in
set_option maxRecDepth 100000 in
theorem ref_long (y m d day N U : Int) (s : ByteArray) (v : Value) (w : World) (h : PT w) (hs : 40 < s.size) :
    Calls Tryd.prog 9 #[.int .i64 y, .int .i64 m, .int .i64 d, .int .i64 day, .string s, .agg #[.int .i64 N, .int .i64 U], v] w fun e w' => e = .returned (.bool true) ∧ Below w.heap.size w w' := by
  have hpt1 : PT (w.alloc (.cells #[.int .i64 N, .int .i64 U] 29)) := h.below ((Below.refl w.heap.size w).alloc (Nat.le_refl _) _) (Nat.le_refl _)
  go_enter Tryd.func9, Tryd.ntmps9
  go_wp2_with fail
  refine (head_any _ hpt1).mono ?_
  rintro e w1 ⟨rfl, b1⟩
  have bw := (box_below w (.cells #[.int .i64 N, .int .i64 U] 29)).trans (b1.mono (by simp))
  clear b1
  go_wp2
  go_ret
  exact ⟨rfl, bw⟩

set_option maxHeartbeats 1000000 in
set_option maxRecDepth 100000 in
theorem ref_heavy (y m d day N U : Int) (s : ByteArray) (v : Value) (L : List Int) (w : World) (h : PT w) (hv : RI w w.heap.size v L) (hs : s.size ≤ 40) (hl : (U = 5 ∧ 3000 < N) ∨ 60 < (L.length : Int)) :
    Calls Tryd.prog 9 #[.int .i64 y, .int .i64 m, .int .i64 d, .int .i64 day, .string s, .agg #[.int .i64 N, .int .i64 U], v] w fun e w' => e = .returned (.bool true) ∧ Below w.heap.size w w' := by
  have hpt1 : PT (w.alloc (.cells #[.int .i64 N, .int .i64 U] 29)) := h.below ((Below.refl w.heap.size w).alloc (Nat.le_refl _) _) (Nat.le_refl _)
  have hb0 := box_below w (.cells #[.int .i64 N, .int .i64 U] 29)
  have HV := Lib.hid hv
  have hri : ∀ w', Below w.heap.size w w' → RI w' w'.heap.size v L := fun w' hb => (HV.out.below hb).more hb.size
  have HRI := Lib.hid hri
  have hs2 : decide (40 < (s.size : Int)) = false := by simp; omega
  clear hri hv
  have HL := Lib.hid hl
  clear hl
  go_enter Tryd.func9, Tryd.ntmps9
  go_wp2_with fail
  refine (head_any _ hpt1).mono ?_
  rintro e w1 ⟨rfl, b1⟩
  have htm := (TermAt.new w N U).below b1 (by simp)
  have bw := hb0.trans (b1.mono (by simp))
  clear b1 hb0 hpt1
  have c0 := htm.c0
  have c1 := htm.c1
  go_wp2_with fail
  clear c0 c1
  refine (light_no _ _ _ _ L _ (HRI.out _ bw) HL.out).mono ?_
  rintro e w2 ⟨rfl, b'⟩
  replace bw := bw.trans (b'.mono bw.size)
  clear b' htm
  go_wp2
  go_ret
  exact ⟨rfl, bw⟩

set_option maxHeartbeats 8000000 in
set_option maxRecDepth 100000 in
theorem ref_main (y m d day N U : Int) (s : ByteArray) (v : Value) (L : List Int) (w : World) (h : PT w) (hm : MT w) (hv : RI w w.heap.size v L) (hs : s.size ≤ 40) (hl1 : U ≠ 5 ∨ N ≤ 3000) (hl2 : (L.length : Int) ≤ 60) :
    Calls Tryd.prog 9 #[.int .i64 y, .int .i64 m, .int .i64 d, .int .i64 day, .string s, .agg #[.int .i64 N, .int .i64 U], v] w fun e w' => e = .returned (.bool true) ∧ Below w.heap.size w w' := by
  have hpt1 : PT (w.alloc (.cells #[.int .i64 N, .int .i64 U] 29)) := h.below ((Below.refl w.heap.size w).alloc (Nat.le_refl _) _) (Nat.le_refl _)
  have hb0 := box_below w (.cells #[.int .i64 N, .int .i64 U] 29)
  have HV := Lib.hid hv
  have hri : ∀ w', Below w.heap.size w w' → RI w' w'.heap.size v L := fun w' hb => (HV.out.below hb).more hb.size
  have HRI := Lib.hid hri
  have hs2 : decide (40 < (s.size : Int)) = false := by simp; omega
  clear hri hv
  obtain ⟨d1, d2, hd1, hd2⟩ := both_day y m d
  obtain ⟨t1, t2, t3, t4, ht1, ht2⟩ := both_date day
  obtain ⟨p1, p2, hp1, hp2⟩ := both_parse s hs
  obtain ⟨a1, a2, ha1, ha2⟩ := both_add day N U v L
  obtain ⟨S, hS1, hS2⟩ := both_text day
  obtain ⟨x, hx1, hx2⟩ := both_weekday day
  have hk1 := fun w hr => work_any v L day w hr
  have hk2 := fun w hr => rwork_any v L day w hr
  obtain ⟨o, ho⟩ : ∃ o, o = opn L day := ⟨_, rfl⟩
  rw [← ho] at hk1 hk2
  have HPT := Lib.hid (fun w' (hb : Below w.heap.size w w') => h.below hb (Nat.le_refl _))
  have HMT := Lib.hid (fun w' (hb : Below w.heap.size w w') => hm.below hb (Nat.le_refl _))
  have HD1 := Lib.hid hd1
  have HD2 := Lib.hid hd2
  have HT1 := Lib.hid ht1
  have HT2 := Lib.hid ht2
  have HP1 := Lib.hid hp1
  have HP2 := Lib.hid hp2
  have HA1 := Lib.hid ha1
  have HA2 := Lib.hid ha2
  have HS1 := Lib.hid hS1
  have HS2 := Lib.hid hS2
  have HX1 := Lib.hid hx1
  have HX2 := Lib.hid hx2
  have HK1 := Lib.hid hk1
  have HK2 := Lib.hid hk2
  have HL1 := Lib.hid hl1
  have HL2 := Lib.hid hl2
  clear ho hd1 hd2 ht1 ht2 hp1 hp2 ha1 ha2 hS1 hS2 hx1 hx2 hk1 hk2 hl1 hl2 h hm hs
  go_enter Tryd.func9, Tryd.ntmps9
  go_wp2_with fail
  refine (head_any _ hpt1).mono ?_
  rintro e w1 ⟨rfl, b1⟩
  have htm := (TermAt.new w N U).below b1 (by simp)
  have bw := hb0.trans (b1.mono (by simp))
  clear b1 hb0 hpt1
  have c0 := htm.c0
  have c1 := htm.c1
  go_wp2_with fail
  clear c0 c1
  refine (light_yes _ _ _ _ L _ (HRI.out _ bw) HL1.out HL2.out).mono ?_
  rintro e w2 ⟨rfl, b'⟩
  have htm2 := htm.below b' htm.lt
  replace bw := bw.trans (b'.mono bw.size)
  replace htm := htm2
  clear b' htm2
  go_wp2_with fail
  refine (HD1.out _).mono ?_
  rintro e w3 ⟨rfl, b'⟩
  have htm2 := htm.below b' htm.lt
  replace bw := bw.trans (b'.mono bw.size)
  replace htm := htm2
  clear b' htm2
  go_wp2_with fail
  refine (HD2.out _).mono ?_
  rintro e w4 ⟨rfl, b'⟩
  have htm2 := htm.below b' htm.lt
  replace bw := bw.trans (b'.mono bw.size)
  replace htm := htm2
  clear b' htm2
  go_wp2_with fail
  refine (HT1.out _).mono ?_
  rintro e w5 ⟨rfl, b'⟩
  have htm2 := htm.below b' htm.lt
  replace bw := bw.trans (b'.mono bw.size)
  replace htm := htm2
  clear b' htm2
  go_wp2_with fail
  refine (HT2.out _).mono ?_
  rintro e w6 ⟨rfl, b'⟩
  have htm2 := htm.below b' htm.lt
  replace bw := bw.trans (b'.mono bw.size)
  replace htm := htm2
  clear b' htm2
  go_wp2_with fail
  refine (HP1.out _ (HMT.out _ bw)).mono ?_
  rintro e w7 ⟨rfl, b'⟩
  have htm2 := htm.below b' htm.lt
  replace bw := bw.trans (b'.mono bw.size)
  replace htm := htm2
  clear b' htm2
  go_wp2_with fail
  refine (HP2.out _).mono ?_
  rintro e w8 ⟨rfl, b'⟩
  have htm2 := htm.below b' htm.lt
  replace bw := bw.trans (b'.mono bw.size)
  replace htm := htm2
  clear b' htm2
  go_wp2_with (refine wpList_load_row rfl 29 (.tmp 12) rfl w.heap.size rfl 29 _ (0, 0) _ htm Tryd.underlying29 rfl (by kernel_rfl) ?_)
  refine (HA1.out _ (HRI.out _ bw)).mono ?_
  rintro e w9 ⟨rfl, b'⟩
  have htm2 := htm.below b' htm.lt
  replace bw := bw.trans (b'.mono bw.size)
  replace htm := htm2
  clear b' htm2
  go_wp2_with (refine wpList_load_row rfl 29 (.tmp 12) rfl w.heap.size rfl 29 _ (0, 0) _ htm Tryd.underlying29 rfl (by kernel_rfl) ?_)
  refine (HA2.out _ (HRI.out _ bw)).mono ?_
  rintro e w10 ⟨rfl, b'⟩
  have htm2 := htm.below b' htm.lt
  replace bw := bw.trans (b'.mono bw.size)
  replace htm := htm2
  clear b' htm2
  go_wp2_with fail
  refine (HS1.out _ (HPT.out _ bw)).mono ?_
  rintro e w11 ⟨rfl, b'⟩
  have htm2 := htm.below b' htm.lt
  replace bw := bw.trans (b'.mono bw.size)
  replace htm := htm2
  clear b' htm2
  go_wp2_with fail
  refine (HS2.out _).mono ?_
  rintro e w12 ⟨rfl, b'⟩
  have htm2 := htm.below b' htm.lt
  replace bw := bw.trans (b'.mono bw.size)
  replace htm := htm2
  clear b' htm2
  go_wp2_with fail
  refine (HX1.out _).mono ?_
  rintro e w13 ⟨rfl, rfl⟩
  go_wp2_with fail
  refine (HX2.out _).mono ?_
  rintro e w14 ⟨rfl, rfl⟩
  go_wp2_with fail
  refine (HK1.out _ (HRI.out _ bw)).mono ?_
  rintro e w15 ⟨rfl, b'⟩
  have htm2 := htm.below b' htm.lt
  replace bw := bw.trans (b'.mono bw.size)
  replace htm := htm2
  clear b' htm2
  go_wp2_with fail
  refine (HK2.out _ (HRI.out _ bw)).mono ?_
  rintro e w16 ⟨rfl, rfl⟩
  go_wp2
  go_ret
  exact ⟨ret_bool (by simp), bw⟩

theorem matches_card (y m d day : Int) (s : ByteArray) (N U : Int) (v : Value) (L : List Int) (w : World) (h : PT w) (hm : MT w) (_ : -9223372036854775808 ≤ y ∧ y ≤ 9223372036854775807) (_ : -9223372036854775808 ≤ m ∧ m ≤ 9223372036854775807) (_ : -9223372036854775808 ≤ d ∧ d ≤ 9223372036854775807) (_ : -9223372036854775808 ≤ day ∧ day ≤ 9223372036854775807) (_ : s.size ≤ maxLen) (_ : -9223372036854775808 ≤ N ∧ N ≤ 9223372036854775807) (_ : -9223372036854775808 ≤ U ∧ U ≤ 9223372036854775807) (hv : RI w w.heap.size v L) :
    Calls Tryd.prog 9 #[.int .i64 y, .int .i64 m, .int .i64 d, .int .i64 day, .string s, .agg #[.int .i64 N, .int .i64 U], v] w fun e w' => e = .returned (.bool true) ∧ Below w.heap.size w w' := by
  by_cases hs : 40 < s.size
  · exact ref_long y m d day N U s v w h hs
  · by_cases hl : (U = 5 ∧ 3000 < N) ∨ 60 < (L.length : Int)
    · exact ref_heavy y m d day N U s v L w h hv (by omega) hl
    · exact ref_main y m d day N U s v L w h hm hv (by omega) (by omega) (by omega)

end Go.Proofs.YtpelnfolnlmhdaaDoor
