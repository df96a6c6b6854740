/- THE PLAIN LAW of CalendarTexts: texts of days, read and in order. -/
import Derived.Test.YtpelnfolnlmhdaaDoorCalM
import Derived.Test.YtpelnfolnlmhdaaDoorParsePlainB
import Derived.Test.YtpelnfolnlmhdaaDoorLawDatesPlain
namespace Go.Proofs.YtpelnfolnlmhdaaDoor
namespace Cal

theorem digB_of (n : Int) (h0 : 0 ≤ n) (h1 : n ≤ 9) : digB (UInt8.ofNat (48 + n).toNat) = true := by
  rw [digB_iff]
  have := u8_nat (48 + n) (by omega) (by omega)
  omega
theorem fourL_dig {n : Int} (h0 : 0 ≤ n) (h1 : n ≤ 9999) : digL (fourL n) = true := by
  simp only [digL, fourL, List.all_cons, List.all_nil, Bool.and_eq_true]
  exact ⟨digB_of _ (by omega) (by omega), digB_of _ (by omega) (by omega), digB_of _ (by omega) (by omega), digB_of _ (by omega) (by omega), trivial⟩
theorem twoL_dig {n : Int} (h0 : 0 ≤ n) (h1 : n ≤ 99) : digL (twoL n) = true := by
  simp only [digL, twoL, List.all_cons, List.all_nil, Bool.and_eq_true]
  exact ⟨digB_of _ (by omega) (by omega), digB_of _ (by omega) (by omega), trivial⟩
theorem fourL_num {n : Int} (h0 : 0 ≤ n) (h1 : n ≤ 9999) : numL (fourL n) = n := by
  simp only [numL, numF, fourL, List.foldl_cons, List.foldl_nil]
  rw [u8_nat (48 + n / 1000) (by omega) (by omega), u8_nat (48 + n / 100 % 10) (by omega) (by omega), u8_nat (48 + n / 10 % 10) (by omega) (by omega), u8_nat (48 + n % 10) (by omega) (by omega)]
  omega
theorem twoL_num {n : Int} (h0 : 0 ≤ n) (h1 : n ≤ 99) : numL (twoL n) = n := by
  simp only [numL, numF, twoL, List.foldl_cons, List.foldl_nil]
  rw [u8_nat (48 + n / 10) (by omega) (by omega), u8_nat (48 + n % 10) (by omega) (by omega)]
  omega
theorem no45 {l : List UInt8} (h : digL l = true) : (45 : UInt8) ∉ l := by
  intro hm
  have := digL_iff.1 h 45 hm
  simp [digB] at this
theorem u8_back {b : UInt8} {n : Nat} (h : n = b.toNat) : UInt8.ofNat n = b := by subst h; exact UInt8.ofNat_toNat
theorem fourL_back {p : List UInt8} (h : digL p = true) (hl : p.length = 4) : fourL (numL p) = p := by
  match p, hl with
  | [a, b, c, d], _ =>
    simp only [digL, List.all_cons, List.all_nil, Bool.and_eq_true, digB_iff] at h
    simp only [numL, numF, fourL, List.foldl_cons, List.foldl_nil, List.cons.injEq, and_true]
    refine ⟨u8_back (by omega), u8_back (by omega), u8_back (by omega), u8_back (by omega)⟩
theorem twoL_back {p : List UInt8} (h : digL p = true) (hl : p.length = 2) : twoL (numL p) = p := by
  match p, hl with
  | [a, b], _ =>
    simp only [digL, List.all_cons, List.all_nil, Bool.and_eq_true, digB_iff] at h
    simp only [numL, numF, twoL, List.foldl_cons, List.foldl_nil, List.cons.injEq, and_true]
    refine ⟨u8_back (by omega), u8_back (by omega)⟩

theorem textL_len (n : Int) : (textL n).length = 10 := by simp [textL, fourL, twoL]
theorem textL_shape (n : Int) : textL n = fourL (yr n) ++ 45 :: (twoL (mo n) ++ 45 :: twoL (da n)) := by simp [textL]
theorem textL_iso {n : Int} (h0 : 0 ≤ n) (h1 : n ≤ 1000000) : Iso (textL n) (yr n) (mo n) (da n) := by
  have hd := date_is h0 h1
  have := hd.y0; have := hd.y1; have := hd.m0; have := hd.m1; have := hd.d0; have := hd.d1
  have hm := mlen_bd (yr n) (mo n)
  have d4 := fourL_dig (n := yr n) (by omega) (by omega)
  have d2 := twoL_dig (n := mo n) (by omega) (by omega)
  have d3 := twoL_dig (n := da n) (by omega) (by omega)
  refine ⟨fourL (yr n), twoL (mo n), twoL (da n), splitL_three.2 ⟨textL_shape n, no45 d4, no45 d2, no45 d3⟩, rfl, rfl, rfl, d4, d2, d3, ?_, ?_, ?_⟩
  · rw [fourL_num (by omega) (by omega)]
  · rw [twoL_num (by omega) (by omega)]
  · rw [twoL_num (by omega) (by omega)]
theorem parse_text {n : Int} (h0 : 0 ≤ n) (h1 : n ≤ 1000000) : parseV (textL n) = (n, 0) := by
  rw [parseV_iso (textL_iso h0 h1), dayV_of_is (date_is h0 h1) h1, if_pos rfl]
theorem parse_nil : parseV [] = (0, 5) := parseV_not (by rintro ⟨y, m, d, h⟩; exact absurd h.len (by simp))
/-- what Parse returns without an error is a day, and its text is the one that was read -/
theorem text_parse {l : List UInt8} (h : (parseV l).2 = 0) : 0 ≤ (parseV l).1 ∧ (parseV l).1 ≤ 1000000 ∧ textL (parseV l).1 = l := by
  by_cases hi : ∃ y m d, Iso l y m d
  · obtain ⟨y, m, d, hi⟩ := hi
    rw [parseV_iso hi] at h ⊢
    by_cases he : (dayV y m d).2 = 0
    · rw [if_pos he]
      obtain ⟨a, b, c⟩ := dayV_ok2 he
      obtain ⟨e1, e2, e3⟩ := c.eqs b
      refine ⟨a, b, ?_⟩
      rw [textL_shape, e1, e2, e3]
      obtain ⟨p, q, r, hs, hp, hq, hr, dp, dq, dr, rfl, rfl, rfl⟩ := hi
      rw [fourL_back dp hp, twoL_back dq hq, twoL_back dr hr]
      exact (splitL_three.1 hs).1.symm
    · rw [if_neg he] at h
      exact absurd h (by decide)
  · rw [parseV_not hi] at h
    exact absurd h (by decide)
theorem parse_err {l : List UInt8} (h : (parseV l).2 ≠ 0) : parseV l = (0, 5) := by
  by_cases hi : ∃ y m d, Iso l y m d
  · obtain ⟨y, m, d, hi⟩ := hi
    rw [parseV_iso hi] at h ⊢
    by_cases he : (dayV y m d).2 = 0
    · rw [if_pos he] at h
      exact absurd he h
    · rw [if_neg he]
  · exact parseV_not hi

theorem date_lt {a b y m d y' m' d' : Int} (h : IsDate a y m d) (h' : IsDate b y' m' d') (hl : a < b) : y < y' ∨ y = y' ∧ (m < m' ∨ m = m' ∧ d < d') := by
  have a0 := num_ge (y := y) h.m0 h.m1 h.d0
  have b1 := num_lt h'.y0 h'.y1 h'.m0 h'.m1 h'.d1
  rw [h.eq] at a0
  rw [h'.eq] at b1
  have hy : y ≤ y' := by
    rcases Int.lt_or_le y' y with hl2 | hl2
    · have := byr_mono (a := y' + 1) (b := y) (by omega); omega
    · exact hl2
  rcases Int.lt_or_eq_of_le hy with hy | rfl
  · exact .inl hy
  · refine .inr ⟨rfl, ?_⟩
    have e1 := h.eq
    have e2 := h'.eq
    unfold num at e1 e2
    rcases Int.lt_trichotomy m m' with hm | rfl | hm
    · exact .inl hm
    · exact .inr ⟨rfl, by omega⟩
    · have c1 := cum_le y (a := m' + 1) (b := m) (by have := h'.m0; omega) (by omega) (by have := h.m1; omega)
      have c2 := cum_succ y m' h'.m0 h'.m1
      have := h'.d1; have := h.d0; omega

theorem lexI {a b : Int} {s t : List UInt8} (a0 : 0 ≤ a) (a1 : a ≤ 9) (b0 : 0 ≤ b) (b1 : b ≤ 9) (h : a < b ∨ a = b ∧ s < t) : UInt8.ofNat (48 + a).toNat :: s < UInt8.ofNat (48 + b).toNat :: t := by
  rw [List.cons_lt_cons_iff]
  rcases h with h | ⟨rfl, h⟩
  · refine .inl (UInt8.lt_iff_toNat_lt.2 ?_)
    have := u8_nat (48 + a) (by omega) (by omega)
    have := u8_nat (48 + b) (by omega) (by omega)
    omega
  · exact .inr ⟨rfl, h⟩
theorem lexK {c : UInt8} {s t : List UInt8} (h : s < t) : c :: s < c :: t := by
  rw [List.cons_lt_cons_iff]; exact .inr ⟨rfl, h⟩
theorem lex_two {n m : Int} {s t : List UInt8} (n0 : 0 ≤ n) (n1 : n ≤ 99) (m0 : 0 ≤ m) (m1 : m ≤ 99) (h : n < m ∨ n = m ∧ s < t) : twoL n ++ s < twoL m ++ t := by
  simp only [twoL, List.cons_append, List.nil_append]
  refine lexI (by omega) (by omega) (by omega) (by omega) ?_
  rcases h with h | ⟨rfl, h⟩
  · rcases (by omega : n / 10 < m / 10 ∨ n / 10 = m / 10) with h1 | h1
    · exact .inl h1
    · exact .inr ⟨h1, lexI (by omega) (by omega) (by omega) (by omega) (.inl (by omega))⟩
  · exact .inr ⟨rfl, lexI (by omega) (by omega) (by omega) (by omega) (.inr ⟨rfl, h⟩)⟩
theorem lex_four {n m : Int} {s t : List UInt8} (n0 : 0 ≤ n) (n1 : n ≤ 9999) (m0 : 0 ≤ m) (m1 : m ≤ 9999) (h : n < m ∨ n = m ∧ s < t) : fourL n ++ s < fourL m ++ t := by
  simp only [fourL, List.cons_append, List.nil_append]
  refine lexI (by omega) (by omega) (by omega) (by omega) ?_
  rcases h with h | ⟨rfl, h⟩
  · rcases (by omega : n / 1000 < m / 1000 ∨ n / 1000 = m / 1000) with h1 | h1
    · exact .inl h1
    · refine .inr ⟨h1, lexI (by omega) (by omega) (by omega) (by omega) ?_⟩
      rcases (by omega : n / 100 % 10 < m / 100 % 10 ∨ n / 100 % 10 = m / 100 % 10) with h2 | h2
      · exact .inl h2
      · refine .inr ⟨h2, lexI (by omega) (by omega) (by omega) (by omega) ?_⟩
        rcases (by omega : n / 10 % 10 < m / 10 % 10 ∨ n / 10 % 10 = m / 10 % 10) with h3 | h3
        · exact .inl h3
        · exact .inr ⟨h3, lexI (by omega) (by omega) (by omega) (by omega) (.inl (by omega))⟩
  · exact .inr ⟨rfl, lexI (by omega) (by omega) (by omega) (by omega) (.inr ⟨rfl, lexI (by omega) (by omega) (by omega) (by omega) (.inr ⟨rfl, lexI (by omega) (by omega) (by omega) (by omega) (.inr ⟨rfl, h⟩)⟩)⟩)⟩
theorem text_lt {a b : Int} (a0 : 0 ≤ a) (b1 : b ≤ 1000000) (hl : a < b) : textL a < textL b := by
  have ha := date_is a0 (by omega : a ≤ 1000000)
  have hb := date_is (by omega : 0 ≤ b) b1
  have hd := date_lt ha hb hl
  have ma := mlen_bd (yr a) (mo a)
  have mb := mlen_bd (yr b) (mo b)
  obtain ⟨p1, p2, p3, p4, p5, p6, _⟩ := ha
  obtain ⟨q1, q2, q3, q4, q5, q6, _⟩ := hb
  rw [textL_shape, textL_shape]
  refine lex_four (by omega) (by omega) (by omega) (by omega) ?_
  rcases hd with h | ⟨h, hd⟩
  · exact .inl h
  · refine .inr ⟨h, lexK (lex_two (by omega) (by omega) (by omega) (by omega) ?_)⟩
    rcases hd with h | ⟨h, hd⟩
    · exact .inl h
    · refine .inr ⟨h, lexK ?_⟩
      have := lex_two (n := da a) (m := da b) (s := []) (t := []) (by omega) (by omega) (by omega) (by omega) (.inl hd)
      simpa using this
theorem text_lt_iff {a b : Int} (a0 : 0 ≤ a) (a1 : a ≤ 1000000) (b0 : 0 ≤ b) (b1 : b ≤ 1000000) : textL a < textL b ↔ a < b := by
  constructor
  · intro h
    rcases Int.lt_trichotomy a b with hl | rfl | hl
    · exact hl
    · exact absurd h (List.lt_irrefl _)
    · exact absurd (text_lt b0 a1 hl) (List.lt_asymm h)
  · exact text_lt a0 b1
end Cal
end Go.Proofs.YtpelnfolnlmhdaaDoor
