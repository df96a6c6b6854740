/- THE PLAIN LAW of CalendarLonger (and of CalendarMonths): what grows with a term. -/
import Derived.Test.YtpelnfolnlmhdaaDoorLawEndsPlain
namespace Go.Proofs.YtpelnfolnlmhdaaDoor
namespace Cal

/-- the months of a term, at the date that the program reckons -/
theorem monthsV_eq {day n y m d : Int} (hd : IsDate day y m d) (h1 : day ≤ 1000000) :
    monthsV day n = dayV (y + (m - 1 + n) / 12) ((m - 1 + n) % 12 + 1) (min d (mlen (y + (m - 1 + n) / 12) ((m - 1 + n) % 12 + 1))) := by
  obtain ⟨ey, em, ed⟩ := hd.eqs h1
  have a1 := hd.y0; have a2 := hd.m0; have a3 := hd.m1; have a4 := hd.d0
  unfold monthsV
  rw [ey, em, ed, show (n + (12 * y + m - 1)) / 12 = y + (m - 1 + n) / 12 by omega, show (n + (12 * y + m - 1)) % 12 = (m - 1 + n) % 12 by omega]
  split
  · rename_i hbig
    have hm := mlen_bd (y + (m - 1 + n) / 12) ((m - 1 + n) % 12 + 1)
    rw [dayV_range (by omega) (by omega) (by omega) (by omega) (.inr hbig)]
  · rfl
theorem dayV_two {y m d : Int} (h1 : 1 ≤ m) (h2 : m ≤ 12) (h3 : 1 ≤ d) (h4 : d ≤ mlen y m) : dayV y m d = (0, 10) ∨ ∃ x, dayV y m d = (x, 0) ∧ 0 ≤ x ∧ x ≤ 1000000 := by
  by_cases hy : y < 1600 ∨ 9999 < y
  · exact .inl (dayV_range h1 h2 h3 h4 hy)
  · by_cases hn : 1000000 < num y m d
    · exact .inl (dayV_late h1 h2 h3 h4 (by omega) (by omega) hn)
    · have hd : IsDate (num y m d) y m d := ⟨by omega, by omega, h1, h2, h3, h4, rfl⟩
      exact .inr ⟨_, dayV_ok h1 h2 h3 h4 (by omega) (by omega) (by omega), hd.nonneg, by omega⟩

theorem addV_mk {day N U s : Int} {L : List Int} (ha : argOk day N U) (hl : L.length ≤ 1000) (hf : firstV day N U L = (s, 0)) (h0 : 0 ≤ s) (h1 : s ≤ 1000000) (h2 : fromV L s ≤ 1000000) : addV day N U L = (fromV L s, 0) := by
  rw [addV_ok ha hl, hf, lastV_ok h0 h1 h2]

theorem fromV_mono {L : List Int} {a b : Int} (h0 : 0 ≤ a) (h : a ≤ b) (h1 : a ≤ 1000001) : fromV L a ≤ fromV L b := by
  rcases Int.lt_or_le (fromV L b) (fromV L a) with hlt | hle
  · exfalso
    have hb := fromV_ge L b
    by_cases hr : fromV L b ≤ 1000000
    · have ho := fromV_isopen (L := L) (n := b) (by omega) hr
      have hn := fromV_none (L := L) (n := a) (d := fromV L b) (by omega) hlt
      rw [ho] at hn; cases hn
    · have := fromV_le L h1; omega
  · exact hle
theorem opn_sub {L L' : List Int} (hs : ∀ x, x ∈ L → x ∈ L') {d : Int} (h : opn L' d = true) : opn L d = true := by
  have := opn_iff.1 h
  exact opn_yes ⟨this.1, this.2.1, this.2.2.1, fun hm => this.2.2.2 (hs d hm)⟩
theorem fromV_sub {L L' : List Int} (hs : ∀ x, x ∈ L → x ∈ L') {a : Int} (h0 : 0 ≤ a) (h1 : a ≤ 1000001) : fromV L a ≤ fromV L' a := by
  rcases Int.lt_or_le (fromV L' a) (fromV L a) with hlt | hle
  · exfalso
    have hb := fromV_ge L' a
    by_cases hr : fromV L' a ≤ 1000000
    · have ho := opn_sub hs (fromV_isopen (L := L') (n := a) h0 hr)
      have hn := fromV_none (L := L) (n := a) (d := fromV L' a) hb hlt
      rw [ho] at hn; cases hn
    · have := fromV_le L h1; omega
  · exact hle
theorem workN_add (L : List Int) (a b : Nat) : ∀ e : Int, workN L (a + b) e = workN L b (workN L a e) := by
  induction a with
  | zero => intro e; simp [workN]
  | succ a ih =>
    intro e
    by_cases hin : 0 ≤ e ∧ e ≤ 1000000
    · rw [show a + 1 + b = (a + b) + 1 by omega, workN_in hin.1 hin.2, workN_in hin.1 hin.2, ih]
    · rw [workN_out (by omega), workN_out (e := e) (by omega), workN_out (by omega)]
theorem workN_mono (L : List Int) (k : Nat) : ∀ e e' : Int, 0 ≤ e → e ≤ e' → e ≤ 1000001 → workN L k e ≤ workN L k e' := by
  induction k with
  | zero => intro e e' _ h _; simpa [workN] using h
  | succ k ih =>
    intro e e' h0 h h1
    by_cases he' : e' ≤ 1000000
    · rw [workN_in h0 (by omega), workN_in (by omega) he']
      have := fromV_ge L (e + 1)
      exact ih _ _ (by omega) (fromV_mono (by omega) (by omega) (by omega)) (fromV_le L (by omega))
    · rw [workN_out (e := e') (.inr (by omega))]
      have := workN_le L (k + 1) e h1
      omega
theorem workN_sub {L L' : List Int} (hs : ∀ x, x ∈ L → x ∈ L') (k : Nat) : ∀ e : Int, 0 ≤ e → e ≤ 1000001 → workN L k e ≤ workN L' k e := by
  induction k with
  | zero => intro e _ _; simp [workN]
  | succ k ih =>
    intro e h0 h1
    by_cases he : e ≤ 1000000
    · rw [workN_in h0 he, workN_in h0 he]
      have a := fromV_ge L (e + 1)
      have a' := fromV_ge L' (e + 1)
      have b := fromV_le L (n := e + 1) (by omega)
      have b' := fromV_le L' (n := e + 1) (by omega)
      exact Int.le_trans (workN_mono L k _ _ (by omega) (fromV_sub hs (by omega) (by omega)) b) (ih _ (by omega) b')
    · rw [workN_out (.inr (by omega)), workN_out (.inr (by omega))]; omega

/-- a later day is of no earlier month, and in one month of a later day of it -/
theorem date_order {a b : Int} (h0 : 0 ≤ a) (h : a ≤ b) (h1 : b ≤ 1000000) :
    12 * yr a + mo a ≤ 12 * yr b + mo b ∧ (12 * yr a + mo a = 12 * yr b + mo b → da a ≤ da b) := by
  have ha := date_is h0 (by omega)
  have hb := date_is (by omega) h1
  have ea := ha.eq
  have eb := hb.eq
  rw [num_ms ha.m0 ha.m1] at ea
  rw [num_ms hb.m0 hb.m1] at eb
  have a1 := ha.y0; have a2 := ha.y1; have a3 := ha.m0; have a4 := ha.m1; have a5 := ha.d0; have a6 := ha.d1
  have b1 := hb.y0; have b2 := hb.y1; have b3 := hb.m0; have b4 := hb.m1; have b5 := hb.d0; have b6 := hb.d1
  constructor
  · rcases Int.lt_or_le (12 * yr b + mo b) (12 * yr a + mo a) with hlt | hle
    · exfalso
      have hle := ms_le (a := 12 * yr b + (mo b - 1) + 1) (b := 12 * yr a + (mo a - 1)) (by omega) (by omega) (by omega)
      have hs := ms_succ (T := 12 * yr b + (mo b - 1)) (by omega) (by omega)
      rw [show (12 * yr b + (mo b - 1)) / 12 = yr b by omega, show (12 * yr b + (mo b - 1)) % 12 + 1 = mo b by omega] at hs
      omega
    · exact hle
  · intro he
    rw [show 12 * yr a + (mo a - 1) = 12 * yr b + (mo b - 1) by omega] at ea
    omega
theorem monthsV_mono {a b n k x : Int} (h0 : 0 ≤ a) (h : a ≤ b) (h1 : b ≤ 1000000) (n0 : 0 ≤ n) (hn : n ≤ k) (hx : monthsV b k = (x, 0)) : ∃ z, monthsV a n = (z, 0) ∧ z ≤ x := by
  obtain ⟨T', d', hT', t0', t1', hd', hx', hx1⟩ := monthsV_val (by omega) h1 (by omega) hx
  obtain ⟨o1, o2⟩ := date_order h0 h h1
  have ha := date_is h0 (by omega)
  have hb := date_is (by omega) h1
  have a1 := ha.y0; have a3 := ha.m0; have a4 := ha.m1; have a5 := ha.d0
  have b3 := hb.m0; have b4 := hb.m1; have b5 := hb.d0
  obtain ⟨T, hT⟩ : ∃ T, T = n + (12 * yr a + mo a - 1) := ⟨_, rfl⟩
  obtain ⟨d, hd⟩ : ∃ d, d = min (da a) (mlen (T / 12) (T % 12 + 1)) := ⟨_, rfl⟩
  have hm := mlen_bd (T / 12) (T % 12 + 1)
  have hm' := mlen_bd (T' / 12) (T' % 12 + 1)
  have key : ms T + d ≤ ms T' + d' := by
    by_cases he : T = T'
    · have hdd := o2 (by omega)
      rw [he] at hd ⊢
      omega
    · have hle := ms_le (a := T + 1) (b := T') (by omega) (by omega) (by omega)
      have hs := ms_succ (T := T) (by omega) (by omega)
      omega
  have hnum : num (T / 12) (T % 12 + 1) d = ms T + d - 1 := by
    rw [num_ms (by omega) (by omega), show 12 * (T / 12) + (T % 12 + 1 - 1) = T by omega]
  refine ⟨ms T + d - 1, ?_, by omega⟩
  unfold monthsV
  rw [← hT, if_neg (by omega), ← hd, dayV_ok (by omega) (by omega) (by omega) (by omega) (by omega) (by omega) (by omega), hnum]

/-- a longer term, one that begins later, one with further closed days -/
theorem first_mono {a b n k U x : Int} {L L' : List Int} (hs : ∀ y, y ∈ L → y ∈ L') (h0 : 0 ≤ a) (h : a ≤ b) (h1 : b ≤ 1000000) (n0 : 0 ≤ n) (hn : n ≤ k) (hU : U = 1 ∨ U = 2 ∨ U = 3 ∨ U = 4 ∨ U = 5) (hx : firstV b k U L' = (x, 0)) :
    ∃ z, firstV a n U L = (z, 0) ∧ 0 ≤ z ∧ z ≤ x := by
  rcases hU with rfl | rfl | rfl | rfl | rfl
  · rw [firstV_1] at hx ⊢
    simp only [Prod.mk.injEq, and_true] at hx
    exact ⟨_, rfl, by omega, by omega⟩
  · rw [firstV_2] at hx ⊢
    simp only [Prod.mk.injEq, and_true] at hx
    exact ⟨_, rfl, by omega, by omega⟩
  · rw [firstV_3] at hx ⊢
    obtain ⟨z, hz, hle⟩ := monthsV_mono h0 h h1 n0 hn hx
    have := monthsV_ge h0 (by omega) n0 hz
    exact ⟨z, hz, by omega, hle⟩
  · rw [firstV_4] at hx ⊢
    obtain ⟨z, hz, hle⟩ := monthsV_mono h0 h h1 (show (0 : Int) ≤ 12 * n by omega) (by omega) hx
    have := monthsV_ge h0 (by omega) (show (0 : Int) ≤ 12 * n by omega) hz
    exact ⟨z, hz, by omega, hle⟩
  · rw [firstV_5] at hx ⊢
    simp only [Prod.mk.injEq, and_true] at hx
    refine ⟨_, rfl, ?_, ?_⟩
    · have := workN_ge L n.toNat a; omega
    · have m1 := workN_mono L n.toNat a b h0 h (by omega)
      have m2 := workN_sub hs n.toNat b (by omega) (by omega)
      have m3 := workN_add L' n.toNat (k.toNat - n.toNat) b
      rw [show n.toNat + (k.toNat - n.toNat) = k.toNat by omega] at m3
      have m4 := workN_ge L' (k.toNat - n.toNat) (workN L' n.toNat b)
      omega
theorem add_mono {a b n k U x : Int} {L L' : List Int} (hs : ∀ y, y ∈ L → y ∈ L') (hl : L.length ≤ 1000) (h0 : 0 ≤ a) (h : a ≤ b) (n0 : 0 ≤ n) (hn : n ≤ k) (hx : addV b k U L' = (x, 0)) : ∃ z, addV a n U L = (z, 0) ∧ z ≤ x := by
  obtain ⟨ha, _, s, hf, s0, s1, rfl, he⟩ := addV_val hx
  obtain ⟨g0, g1, g2, g3, g4, g5⟩ := id ha
  obtain ⟨z, hz, z0, z1⟩ := first_mono hs h0 h g1 n0 hn (argOk_unit ha) hf
  have f1 := fromV_mono (L := L) z0 z1 (by omega)
  have f2 := fromV_sub hs s0 (by omega)
  exact ⟨_, addV_mk ⟨h0, by omega, g2, g3, n0, by omega⟩ hl hz z0 (by omega) (by omega), by omega⟩
end Cal
end Go.Proofs.YtpelnfolnlmhdaaDoor
