/- WALK of Parse. -/
import Derived.Test.YtpelnfolnlmhdaaDoorCalC
import Derived.Test.YtpelnfolnlmhdaaDoorShelfS
import Derived.Test.YtpelnfolnlmhdaaDoorParsePlainB
import Derived.WalkSmall
import Derived.Lib.AtoiErrMem
namespace Go.Proofs.YtpelnfolnlmhdaaDoor
open Go.RowKit
open Cal

/-- the library's variable that Split reads is an int -/
def MT (w : World) : Prop := (∃ m, w.cell? ⟨2, 0, none⟩ = some (.int .i64 m)) ∧ 2 < w.heap.size
theorem MT.below {w w' : World} {B : Nat} (h : MT w) (hb : Below B w w') (hB : w.heap.size ≤ B) : MT w' := by
  obtain ⟨⟨m, hm⟩, hlt⟩ := h
  exact ⟨⟨m, (hb.cell (p := ⟨2, 0, none⟩) (by show 2 < B; omega)).trans hm⟩, Nat.lt_of_lt_of_le hlt hb.size⟩

theorem ret_bool {a b : Bool} (h : a = b) : Ending.returned (.bool a) = .returned (.bool b) := by rw [h]
theorem closure_any (x : Nat) (w : World) (hx : x ≤ 1114111) :
    Calls Tryd.prog 44 #[.int .i32 x] w fun e w' => e = .returned (.bool (pRune x)) ∧ w = w' := by
  go_enter Tryd.func44, Tryd.ntmps44
  go_wp2
  all_goals go_ret
  all_goals exact ⟨ret_bool (by rw [Bool.eq_iff_iff]; simp [pRune]; omega), rfl⟩

set_option maxRecDepth 100000 in
theorem contains_any (s : ByteArray) (w : World) :
    Calls Tryd.prog 43 #[.string s, .func (.func 44) #[] #[]] w fun e w' => e = .returned (.bool (!digL s.data.toList)) ∧ Below w.heap.size w w' := by
  have h := Tryd.strings_ContainsFunc_runes 44 #[] (fun args w => by kernel_rfl) pRune s w (fun W x hx _ => by
    show Calls Tryd.prog 44 (#[encR x] ++ #[]) W _
    exact (closure_any x W hx).mono fun e w' ⟨he, hw⟩ => ⟨he, 0, by rw [← hw]; rfl⟩)
  rw [contains_digits] at h
  exact h

theorem atoi_any (s : ByteArray) (w : World) (hne : s.data.toList ≠ []) (hl : s.size ≤ 18) (hd : digL s.data.toList = true) :
    Calls Tryd.prog 45 #[.string s] w fun e w' => e = .returned (.tuple #[.int .i64 (numL s.data.toList), .nilIface]) ∧ Below w.heap.size w w' := by
  refine (Tryd.strconv_Atoi s _ hl (atoi_num _ hne hd) w).mono ?_
  rintro e w' ⟨rfl, t, rfl⟩
  exact ⟨rfl, Lib.bytesWorld_below _ _ _⟩



theorem splitL_len (c : UInt8) (l : List UInt8) : (splitL c l).length = l.count c + 1 := by
  induction l with
  | nil => rfl
  | cons b l ih =>
    rw [splitL]
    by_cases hb : b = c
    · rw [if_pos hb, hb, List.length_cons, ih, List.count_cons_self]
    · rw [if_neg hb, List.count_cons_of_ne hb]
      cases hs : splitL c l with
      | nil => exact absurd hs (splitL_ne c l)
      | cons p r => rw [hs] at ih; simpa using ih

theorem split_any (s : ByteArray) (w : World) (h : MT w) (hs : s.size ≤ 40) :
    Calls Tryd.prog 42 #[.string s, .string ⟨#[45]⟩] w fun e w' => ∃ ps : List ByteArray, ps.map (·.data.toList) = splitL 45 s.data.toList ∧ e = .returned (.slice (some ⟨w.heap.size, 0, none⟩) ps.length ps.length) ∧ w' = w.alloc (.cells (ps.map Value.string).toArray 9) := by
  obtain ⟨⟨m, hm⟩, _⟩ := h
  refine (Tryd.strings_Split s ⟨#[45]⟩ m w (by omega) hm (by decide)).mono ?_
  rintro e w' ⟨rfl, rfl⟩
  have hd := Lib.splitB_data ⟨#[45]⟩ 0 (Lib.countB s ⟨#[45]⟩) s
  have hk : Lib.splitK [45] 0 (Lib.countB s ⟨#[45]⟩) s.data.toList = splitL 45 s.data.toList := splitK_splitL 45 s.data.toList
  have hl : (Lib.splitB ⟨#[45]⟩ 0 (Lib.countB s ⟨#[45]⟩) s).length = Lib.countB s ⟨#[45]⟩ + 1 := by
    rw [← List.length_map (f := fun x : ByteArray => x.data.toList), hd]
    show (Lib.splitK [45] 0 (Lib.countB s ⟨#[45]⟩) s.data.toList).length = _
    rw [hk, splitL_len, ← Lib.count_one]
  exact ⟨_, hd.trans hk, by rw [hl], rfl⟩

set_option maxRecDepth 100000 in
theorem parse_len (s : ByteArray) (w : World) (h : MT w) (hs : s.size ≤ 40) (hn : s.size ≠ 10) :
    Calls Tryd.prog 23 #[.string s] w fun e w' => e = .returned (.tuple #[.int .i64 0, .int .i64 5]) ∧ Below w.heap.size w w' := by
  have hn2 : ((s.size : Int) == 10) = false := by rw [beq_eq_false_iff_ne]; omega
  go_enter Tryd.func23, Tryd.ntmps23
  go_wp2_with fail
  refine (split_any s w h hs).mono ?_
  rintro e w' ⟨ps, hps, rfl, rfl⟩
  go_wp2
  go_ret2
  exact ⟨rfl, (Below.refl _ _).alloc (Nat.le_refl _) _⟩

set_option maxRecDepth 100000 in
theorem parse_cnt (s : ByteArray) (w : World) (h : MT w) (hs : s.size = 10) (hn : (splitL 45 s.data.toList).length ≠ 3) :
    Calls Tryd.prog 23 #[.string s] w fun e w' => e = .returned (.tuple #[.int .i64 0, .int .i64 5]) ∧ Below w.heap.size w w' := by
  have hn2 : ((s.size : Int) != 10) = false := by rw [bne_eq_false_iff_eq]; omega
  go_enter Tryd.func23, Tryd.ntmps23
  go_wp2_with fail
  refine (split_any s w h (by omega)).mono ?_
  rintro e w' ⟨ps, hps, rfl, rfl⟩
  have hl : ((ps.length : Int) != 3) = true := by
    rw [← hps, List.length_map] at hn
    rw [bne_iff_ne]; omega
  clear hps hn
  go_wp2
  go_ret2
  exact ⟨rfl, (Below.refl _ _).alloc (Nat.le_refl _) _⟩



/-- the parts as a function of their place -/
def pick3 (p q r : ByteArray) : Nat → ByteArray
  | 0 => p
  | 1 => q
  | _ => r

theorem of_map3 {ps : List ByteArray} {a b c : List UInt8} (h : ps.map (·.data.toList) = [a, b, c]) : ∃ p q r, ps = [p, q, r] ∧ p.data.toList = a ∧ q.data.toList = b ∧ r.data.toList = c := by
  match ps, h with
  | [p, q, r], h => simp only [List.map_cons, List.map_nil, List.cons.injEq, and_true] at h; exact ⟨p, q, r, rfl, h⟩

set_option maxRecDepth 100000 in
theorem parse_p (s : ByteArray) (w : World) (h : MT w) (hs : s.size = 10) (a b c : List UInt8) (hn : splitL 45 s.data.toList = [a, b, c]) (ha : a.length ≠ 4) :
    Calls Tryd.prog 23 #[.string s] w fun e w' => e = .returned (.tuple #[.int .i64 0, .int .i64 5]) ∧ Below w.heap.size w w' := by
  have hn2 : ((s.size : Int) != 10) = false := by rw [bne_eq_false_iff_eq]; omega
  go_enter Tryd.func23, Tryd.ntmps23
  go_wp2_with fail
  refine (split_any s w h (by omega)).mono ?_
  rintro e w' ⟨ps, hps, rfl, rfl⟩
  obtain ⟨p, q, r, rfl, rfl, rfl, rfl⟩ := of_map3 (hps.trans hn)
  have hl : ((p.size : Int) != 4) = true := by
    rw [bne_iff_ne]
    have : p.data.toList.length = p.size := rfl
    omega
  clear hps hn
  go_wp2
  go_ret2
  exact ⟨rfl, (Below.refl _ _).alloc (Nat.le_refl _) _⟩

set_option maxRecDepth 100000 in
theorem parse_q (s : ByteArray) (w : World) (h : MT w) (hs : s.size = 10) (a b c : List UInt8) (hn : splitL 45 s.data.toList = [a, b, c]) (ha : a.length = 4) (hb : b.length ≠ 2) :
    Calls Tryd.prog 23 #[.string s] w fun e w' => e = .returned (.tuple #[.int .i64 0, .int .i64 5]) ∧ Below w.heap.size w w' := by
  have hn2 : ((s.size : Int) != 10) = false := by rw [bne_eq_false_iff_eq]; omega
  go_enter Tryd.func23, Tryd.ntmps23
  go_wp2_with fail
  refine (split_any s w h (by omega)).mono ?_
  rintro e w' ⟨ps, hps, rfl, rfl⟩
  obtain ⟨p, q, r, rfl, rfl, rfl, rfl⟩ := of_map3 (hps.trans hn)
  have hl : ((p.size : Int) != 4) = false := by
    rw [bne_eq_false_iff_eq]
    have : p.data.toList.length = p.size := rfl
    omega
  have hl2 : ((q.size : Int) != 2) = true := by
    rw [bne_iff_ne]
    have : q.data.toList.length = q.size := rfl
    omega
  clear hps hn ha hb
  go_wp2
  go_ret2
  exact ⟨rfl, (Below.refl _ _).alloc (Nat.le_refl _) _⟩

/-- what holds at the head of each round -/
structure ParW (w : World) (p q r : ByteArray) (k : Nat) (wr : World) : Prop where
  s : ∀ j : Nat, j < 3 → wr.cell? ⟨w.heap.size, j, none⟩ = some (.string (pick3 p q r j))
  v : ∀ j : Nat, j < 3 → wr.cell? ⟨w.heap.size + 1, j, none⟩ = some (.int .i64 (if j < k then numL (pick3 p q r j).data.toList else 0))
  f : ∀ j : Nat, wr.frozen? ⟨w.heap.size + 1, j, none⟩ = false
  lt : w.heap.size + 1 < wr.heap.size
  b : Below w.heap.size w wr

theorem ParW.below {w : World} {p q r : ByteArray} {k : Nat} {wr w' : World} (h : ParW w p q r k wr) (hb : Below wr.heap.size wr w') : ParW w p q r k w' := by
  have hlt := h.lt
  refine ⟨fun j hj => ?_, fun j hj => ?_, fun j => ?_, Nat.lt_of_lt_of_le hlt hb.size, h.b.trans (hb.mono h.b.size)⟩
  · rw [hb.cell (p := ⟨w.heap.size, j, none⟩) (by show w.heap.size < wr.heap.size; omega)]; exact h.s j hj
  · rw [hb.cell (p := ⟨w.heap.size + 1, j, none⟩) (by show w.heap.size + 1 < wr.heap.size; omega)]; exact h.v j hj
  · rw [hb.frozen (p := ⟨w.heap.size + 1, j, none⟩) (by show w.heap.size + 1 < wr.heap.size; omega)]; exact h.f j

theorem ParW.store {w : World} {p q r : ByteArray} {k : Nat} {wr : World} (h : ParW w p q r k wr) : ParW w p q r (k + 1) (wr.setCell ⟨w.heap.size + 1, k, none⟩ (.int .i64 (numL (pick3 p q r k).data.toList))) := by
  refine ⟨fun j hj => ?_, fun j hj => ?_, fun j => ?_, ?_, h.b.setCell (by show w.heap.size ≤ w.heap.size + 1; omega) _⟩
  · rw [World.cell?_setCell_other _ _ _ _ (by simp)]; exact h.s j hj
  · by_cases hj2 : k = j
    · subst hj2
      rw [World.cell?_setCell_same _ _ _ (h.v k hj), if_pos (Nat.lt_succ_self k)]
    · rw [World.cell?_setCell_other _ _ _ _ (by simp <;> omega), h.v j hj]
      by_cases h2 : j < k
      · rw [if_pos h2, if_pos (by omega)]
      · rw [if_neg h2, if_neg (by omega)]
  · rw [World.frozen?_setCell]; exact h.f j
  · have := h.lt; simpa using this

theorem ParW.start (w : World) (p q r : ByteArray) : ParW w p q r 0 ((w.alloc (.cells #[.string p, .string q, .string r] 9)).alloc (.cells #[.int .i64 0, .int .i64 0, .int .i64 0] 63)) := by
  refine ⟨fun j hj => ?_, fun j hj => ?_, fun j => ?_, ?_, ((Below.refl _ _).alloc (Nat.le_refl _) _).alloc (by simp) _⟩
  · have h3 : j = 0 ∨ j = 1 ∨ j = 2 := by omega
    rcases h3 with rfl | rfl | rfl <;> simp [pick3, go_sem]
  · have h3 : j = 0 ∨ j = 1 ∨ j = 2 := by omega
    rcases h3 with rfl | rfl | rfl <;> simp [go_sem]
  · simp [go_sem]
  · simp



theorem pick3_len {p q r : ByteArray} (hp : p.size = 4) (hq : q.size = 2) (hr : r.size = 2) (k : Nat) : (pick3 p q r k).data.toList ≠ [] ∧ (pick3 p q r k).size ≤ 18 := by
  have hx : ∀ x : ByteArray, 2 ≤ x.size → x.size ≤ 18 → x.data.toList ≠ [] ∧ x.size ≤ 18 := by
    intro x h1 h2
    refine ⟨fun e => ?_, h2⟩
    have : x.data.toList.length = x.size := rfl
    rw [e] at this
    simp at this
    omega
  match k with
  | 0 => exact hx p (by omega) (by omega)
  | 1 => exact hx q (by omega) (by omega)
  | _ + 2 => exact hx r (by omega) (by omega)

/-- all parts are digits, up to this one -/
def digP (p q r : ByteArray) : Bool := digL p.data.toList && digL q.data.toList && digL r.data.toList
theorem digP_of {p q r : ByteArray} (h : ∀ j : Nat, j < 3 → digL (pick3 p q r j).data.toList = true) : digP p q r = true := by
  have h0 := h 0 (by omega)
  have h1 := h 1 (by omega)
  have h2 := h 2 (by omega)
  simp only [pick3] at h0 h1 h2
  simp [digP, h0, h1, h2]
theorem digP_no {p q r : ByteArray} {k : Nat} (h : digL (pick3 p q r k).data.toList = false) : digP p q r = false := by
  match k, h with
  | 0, h => simp only [pick3] at h; simp [digP, h]
  | 1, h => simp only [pick3] at h; simp [digP, h]
  | _ + 2, h => simp only [pick3] at h; simp [digP, h]

/-- the answer from three parts -/
noncomputable def threeV (p q r : ByteArray) : Int × Int :=
  if digP p q r then (if (dayV (numL p.data.toList) (numL q.data.toList) (numL r.data.toList)).2 = 0 then dayV (numL p.data.toList) (numL q.data.toList) (numL r.data.toList) else (0, 5)) else (0, 5)

theorem ret_pair {a b : Int} {x : Int × Int} (h : x = (a, b)) : Ending.returned (.tuple #[.int .i64 a, .int .i64 b]) = .returned (.tuple #[.int .i64 x.1, .int .i64 x.2]) := by rw [h]

set_option maxHeartbeats 1000000 in
set_option maxRecDepth 100000 in
theorem parse_three (s : ByteArray) (w : World) (h : MT w) (hs : s.size = 10) (a b c : List UInt8) (hn : splitL 45 s.data.toList = [a, b, c]) (ha : a.length = 4) (hb : b.length = 2) (hc : c.length = 2) (V : Int × Int) (hV0 : V = threeV ⟨a.toArray⟩ ⟨b.toArray⟩ ⟨c.toArray⟩) :
    Calls Tryd.prog 23 #[.string s] w fun e w' => e = .returned (.tuple #[.int .i64 V.1, .int .i64 V.2]) ∧ Below w.heap.size w w' := by
  have hn2 : ((s.size : Int) != 10) = false := by rw [bne_eq_false_iff_eq]; omega
  go_enter Tryd.func23, Tryd.ntmps23
  go_wp2_with fail
  refine (split_any s w h (by omega)).mono ?_
  rintro e w' ⟨ps, hps, rfl, rfl⟩
  obtain ⟨p, q, r, rfl, rfl, rfl, rfl⟩ := of_map3 (hps.trans hn)
  have hl : ((p.size : Int) != 4) = false := by
    rw [bne_eq_false_iff_eq]
    have : p.data.toList.length = p.size := rfl
    omega
  have hl2 : ((q.size : Int) != 2) = false := by
    rw [bne_eq_false_iff_eq]
    have : q.data.toList.length = q.size := rfl
    omega
  have hpk := fun k => pick3_len (p := p) (q := q) (r := r) ha hb hc k
  have hV : V = threeV p q r := hV0
  have HV := Lib.hid hV
  have HPK := Lib.hid hpk
  clear hps hn ha hb hc hV hV0 hpk
  go_wp2
  go_loopw [36] (fun i wr => ∃ k : Nat, k ≤ 3 ∧ i = .int .i64 k ∧ (∀ j : Nat, j < k → digL (pick3 p q r j).data.toList = true) ∧ ParW w p q r k wr) (fun i _ => 3 - (intOf i).toNat)
  case atStart => exact ⟨0, by omega, rfl, fun j hj => absurd hj (by omega), ParW.start w p q r⟩
  case round =>
    obtain ⟨k, hk, rfl, hdig, hW⟩ := hrel
    by_cases hlt : k < 3
    · obtain ⟨x, hx⟩ : ∃ x, x = pick3 p q r k := ⟨_, rfl⟩
      have hcell := hW.s k hlt
      rw [← hx] at hcell
      have hfr := hW.f k
      have hxl := HPK.out k
      rw [← hx] at hxl
      have HW := Lib.hid hW
      have HX := Lib.hid hx
      have HD := Lib.hid hdig
      have HXL := Lib.hid hxl
      clear hW hx hdig hxl
      cases hd : digL x.data.toList with
      | false =>
        have HDF := Lib.hid hd
        clear hd
        go_wp2_with fail
        refine (contains_any x wr).mono ?_
        rintro e w3 ⟨rfl, b3⟩
        rw [HDF.out]
        have hb := HW.out.b.trans (b3.mono HW.out.b.size)
        clear b3
        go_wp2
        go_ret2
        exact ⟨ret_pair (by rw [HV.out, threeV, digP_no (k := k) (by rw [← HX.out]; exact HDF.out)]; rfl), hb⟩
      | true =>
        have HDF := Lib.hid hd
        clear hd
        go_wp2_with fail
        refine (contains_any x wr).mono ?_
        rintro e w3 ⟨rfl, b3⟩
        rw [HDF.out]
        have hW3 := HW.out.below b3
        clear b3
        have HW3 := Lib.hid hW3
        clear hW3
        go_wp2_with fail
        refine (atoi_any x w3 HXL.out.1 HXL.out.2 HDF.out).mono ?_
        rintro e w4 ⟨rfl, b4⟩
        have hW4 := HW3.out.below b4
        clear b4
        have hv4 := hW4.v k hlt
        have hf4 := hW4.f k
        have HW4 := Lib.hid hW4
        clear hW4
        go_wp2
        go_roundw
        case rel =>
          refine ⟨k + 1, by omega, by go_num, fun j hj => ?_, ?_⟩
          · by_cases hj2 : j = k
            · rw [hj2, ← HX.out]; exact HDF.out
            · exact HD.out j (by omega)
          · rw [HX.out]; exact HW4.out.store
        case measure => simp [intOf]; omega
    · obtain rfl : k = 3 := by omega
      have c0 := hW.v 0 (by omega)
      have c1 := hW.v 1 (by omega)
      have c2 := hW.v 2 (by omega)
      simp only [pick3] at c0 c1 c2
      rw [if_pos (by omega)] at c0 c1 c2
      have hdp := digP_of hdig
      have HDP := Lib.hid hdp
      have hbw := hW.b
      clear hW hdig hdp
      go_wp2_with fail
      refine (day_any _ _ _ _).mono ?_
      rintro e w5 ⟨rfl, b5⟩
      have hb := hbw.trans (b5.mono hbw.size)
      clear b5 hbw
      by_cases he : (dayV (numL p.data.toList) (numL q.data.toList) (numL r.data.toList)).2 = 0
      · have he2 : ((dayV (numL p.data.toList) (numL q.data.toList) (numL r.data.toList)).2 != 0) = false := by rw [bne_eq_false_iff_eq]; exact he
        have HE := Lib.hid he
        clear he
        go_wp2
        go_ret2
        exact ⟨ret_pair (by rw [HV.out, threeV, HDP.out, if_pos rfl, if_pos HE.out]; exact Prod.ext rfl HE.out), hb⟩
      · have he2 : ((dayV (numL p.data.toList) (numL q.data.toList) (numL r.data.toList)).2 != 0) = true := by rw [bne_iff_ne]; exact he
        have HE := Lib.hid he
        clear he
        go_wp2
        go_ret2
        exact ⟨ret_pair (by rw [HV.out, threeV, HDP.out, if_pos rfl, if_neg HE.out]), hb⟩

end Go.Proofs.YtpelnfolnlmhdaaDoor
