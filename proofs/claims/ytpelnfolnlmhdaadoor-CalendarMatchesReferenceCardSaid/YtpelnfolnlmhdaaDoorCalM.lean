/- WALKS of the calendar: Text. -/
import Derived.Test.YtpelnfolnlmhdaaDoorCalL
import Derived.Test.YtpelnfolnlmhdaaDoorCalD
import Derived.Test.YtpelnfolnlmhdaaDoorShelfI
import Derived.WalkSmall
namespace Go.Proofs.YtpelnfolnlmhdaaDoor
open Go.RowKit
open Cal

/-- the table that Itoa reads is what it is -/
def PT (w : World) : Prop := Lib.TabIs Tryd.prog w "internal/strconv.uint64pow10" .u64 Lib.pow10Tab ∧ 3 < w.heap.size

theorem gPow : Tryd.prog.globalNamed "internal/strconv.uint64pow10" = some 3 := by kernel_rfl
theorem PT.below {w w' : World} {B : Nat} (h : PT w) (hb : Below B w w') (hB : w.heap.size ≤ B) : PT w' :=
  ⟨var?_below hb gPow (by have := h.2; omega) h.1, Nat.lt_of_lt_of_le h.2 hb.size⟩

theorem grow_below (w : World) (k : Nat) (os : Array Obj) : Below w.heap.size w (Sort.grow (w.drewN k) os) := by
  refine ⟨rfl, rfl, rfl, ?_, fun i hi => ?_⟩
  · simp [Sort.grow]
  · show (w.heap ++ os)[i]? = w.heap[i]?
    exact Array.getElem?_append_left hi

/-- four digits -/
def fourL (n : Int) : List UInt8 := [UInt8.ofNat (48 + n / 1000).toNat, UInt8.ofNat (48 + n / 100 % 10).toNat, UInt8.ofNat (48 + n / 10 % 10).toNat, UInt8.ofNat (48 + n % 10).toNat]
theorem itoa_four {n : Int} (h0 : 1000 ≤ n) (h1 : n ≤ 9999) : Lib.itoa n = fourL n := by
  obtain ⟨u, rfl⟩ : ∃ u : Nat, n = u := ⟨n.toNat, by omega⟩
  rw [Lib.itoa_nonneg, Lib.decDigits, dif_neg (by omega), Lib.decDigits, dif_neg (by omega), Lib.decDigits, dif_neg (by omega), Lib.decDigits, dif_pos (by omega)]
  simp only [fourL, List.cons_append, List.nil_append, List.cons.injEq]
  refine ⟨congrArg _ (by omega), congrArg _ (by omega), congrArg _ (by omega), congrArg _ (by omega), trivial⟩

/-- the text of a day, as bytes -/
noncomputable def textL (n : Int) : List UInt8 := fourL (yr n) ++ [45] ++ twoL (mo n) ++ [45] ++ twoL (da n)

theorem itoa_any (n : Int) (w : World) (h0 : 0 ≤ n) (h1 : n ≤ 1000000) (h : PT w) :
    Calls Tryd.prog 47 #[.int .i64 n] w fun e w' => e = .returned (.string ⟨(Lib.itoa n).toArray⟩) ∧ Below w.heap.size w w' := by
  refine (Tryd.strconv_Itoa n (by omega) (by omega) w h.1).mono ?_
  rintro e w' ⟨rfl, k, os, rfl⟩
  exact ⟨rfl, grow_below w k os⟩

theorem ba_append (a b : Array UInt8) : (⟨a⟩ : ByteArray) ++ ⟨b⟩ = ⟨a ++ b⟩ := by apply ByteArray.ext; simp [ByteArray.data_append]

theorem text_no (n : Int) (w : World) (h : n < 0 ∨ 1000000 < n) :
    Calls Tryd.prog 26 #[.int .i64 n] w fun e w' => e = .returned (.string ⟨#[]⟩) ∧ Below w.heap.size w w' := by
  go_enter Tryd.func26, Tryd.ntmps26
  go_wp2_with (go_at_call 15; refine (date_no _ _ h).mono ?_; rintro e w' ⟨rfl, hb⟩)
  go_ret
  exact ⟨rfl, ‹_›⟩

set_option maxHeartbeats 800000 in
set_option maxRecDepth 100000 in
theorem text_yes (n : Int) (w : World) (h0 : 0 ≤ n) (h1 : n ≤ 1000000) (h : PT w) :
    Calls Tryd.prog 26 #[.int .i64 n] w fun e w' => e = .returned (.string ⟨(textL n).toArray⟩) ∧ Below w.heap.size w w' := by
  have hd := date_is h0 h1
  have yh := hd.year_hi h1
  have ⟨y0, y1, m0, m1, d0, d1, _⟩ := hd
  have hm := mlen_bd (yr n) (mo n)
  have ht := fun w h => itoa_any (yr n) w (by omega) (by omega) h
  rw [itoa_four (by omega) (by omega)] at ht
  have hm2 := fun w => two_any (mo n) w (by omega) (by omega)
  have hd2 := fun w => two_any (da n) w (by omega) (by omega)
  have hdt := fun w => date_yes n w h0 h1
  have l1 : (fourL (yr n)).length ≤ 4 := Nat.le_refl _
  have l2 : (twoL (mo n)).length ≤ 2 := Nat.le_refl _
  have l3 : (twoL (da n)).length ≤ 2 := Nat.le_refl _
  unfold textL
  generalize fourL (yr n) = I at ht l1 ⊢
  generalize twoL (mo n) = M at hm2 l2 ⊢
  generalize twoL (da n) = D at hd2 l3 ⊢
  have HT := Lib.hid ht
  have HM := Lib.hid hm2
  have HD := Lib.hid hd2
  have HDT := Lib.hid hdt
  clear ht hm2 hd2 hdt hd
  go_enter Tryd.func26, Tryd.ntmps26
  go_wp2_with fail
  refine (HDT.out _).mono ?_
  rintro e w1 ⟨rfl, hb1⟩
  go_wp2_with fail
  refine (HT.out _ (h.below hb1 (Nat.le_refl _))).mono ?_
  rintro e w2 ⟨rfl, hb2⟩
  go_wp2_with fail
  refine (HM.out _).mono ?_
  rintro e w3 ⟨rfl, hb3⟩
  go_wp2_with fail
  refine (HD.out _).mono ?_
  rintro e w4 ⟨rfl, hb4⟩
  go_wp2
  go_ret
  have b2 := hb1.trans (hb2.mono hb1.size)
  have b3 := b2.trans (hb3.mono b2.size)
  exact ⟨by simp [ba_append], b3.trans (hb4.mono b3.size)⟩

end Go.Proofs.YtpelnfolnlmhdaaDoor
