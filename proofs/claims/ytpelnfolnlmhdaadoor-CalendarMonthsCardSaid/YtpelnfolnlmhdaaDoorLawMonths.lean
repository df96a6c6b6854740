/- WALK of CalendarMonths. -/
import Derived.Test.YtpelnfolnlmhdaaDoorHead
import Derived.Test.YtpelnfolnlmhdaaDoorRefLight
import Derived.Test.YtpelnfolnlmhdaaDoorLawLongerPlain
namespace Go.Proofs.YtpelnfolnlmhdaaDoor
open Go.RowKit Go.Maps
open Cal

theorem date_at {n y m d : Int} (h : IsDate n y m d) (h1 : n ≤ 1000000) (w : World) :
    Calls Tryd.prog 15 #[.int .i64 n] w fun e w' => e = .returned (.tuple #[.int .i64 y, .int .i64 m, .int .i64 d, .int .i64 0]) ∧ Below w.heap.size w w' := by
  have := date_yes n w h.nonneg h1
  rwa [(h.eqs h1).1, (h.eqs h1).2.1, (h.eqs h1).2.2] at this

set_option maxHeartbeats 4000000 in
set_option maxRecDepth 100000 in
theorem months_walk (day n : Int) (v : Value) (L : List Int) (w : World) (h : PT w) (n0 : 0 ≤ n) (n1 : n ≤ 65535) (hv : RI w w.heap.size v L) :
    Calls Tryd.prog 7 #[.int .i64 day, .int .u16 n, v] w fun e w' => e = .returned (.bool true) ∧ Below w.heap.size w w' := by
  have HV := Lib.hid hv
  have hri : ∀ w', Below w.heap.size w w' → RI w' w'.heap.size v L := fun w' hb => (HV.out.below hb).more hb.size
  have HRI := Lib.hid hri
  obtain ⟨A, cap, rfl, hlen, _, _⟩ := hv
  clear hri
  by_cases hbig : 60 < L.length
  · go_enter Tryd.func7, Tryd.ntmps7
    go_wp2_with fail
    refine (head_any _ h).mono ?_
    rintro e w1 ⟨rfl, bw⟩
    go_wp2
    go_ret
    exact ⟨rfl, bw⟩
  · have hl1000 : L.length ≤ 1000 := by omega
    by_cases hout : day < 0 ∨ 1000000 < day
    · have e1 : ∀ N U, addV day N U L = (0, 1) := fun N U => addV_arg (fun g => by obtain ⟨a, b, _⟩ := g; omega)
      have E1 := Lib.hid e1
      have HO := Lib.hid hout
      clear e1 hout
      go_enter Tryd.func7, Tryd.ntmps7
      go_wp2_with fail
      refine (head_any _ h).mono ?_
      rintro e w1 ⟨rfl, bw⟩
      go_wp2_with fail
      refine (term_any _ _ _).mono ?_
      rintro e w2 ⟨rfl, b'⟩
      replace bw := bw.trans (b'.mono bw.size); clear b'
      go_wp2_with fail
      refine (add_at (E1.out _ _) _ _ (HRI.out _ bw)).mono ?_
      rintro e w2 ⟨rfl, b'⟩
      replace bw := bw.trans (b'.mono bw.size); clear b'
      go_wp2_with fail
      refine (term_any _ _ _).mono ?_
      rintro e w2 ⟨rfl, b'⟩
      replace bw := bw.trans (b'.mono bw.size); clear b'
      go_wp2_with fail
      refine (add_at (E1.out _ _) _ _ (HRI.out _ bw)).mono ?_
      rintro e w2 ⟨rfl, b'⟩
      replace bw := bw.trans (b'.mono bw.size); clear b'
      go_wp2_with fail
      refine (term_any _ _ _).mono ?_
      rintro e w2 ⟨rfl, b'⟩
      replace bw := bw.trans (b'.mono bw.size); clear b'
      go_wp2_with fail
      refine (add_at (E1.out _ _) _ _ (HRI.out _ bw)).mono ?_
      rintro e w2 ⟨rfl, b'⟩
      replace bw := bw.trans (b'.mono bw.size); clear b'
      go_wp2_with fail
      refine (date_no day _ HO.out).mono ?_
      rintro e w2 ⟨rfl, b'⟩
      replace bw := bw.trans (b'.mono bw.size); clear b'
      go_wp2
      go_ret
      exact ⟨rfl, bw⟩
    · have d0 : 0 ≤ day := by omega
      have d1 : day ≤ 1000000 := by omega
      clear hout
      obtain ⟨y, m, d, hd⟩ := date_ex d0 d1
      have by0 := hd.y0
      have by1 := hd.year_hi d1
      have bm0 := hd.m0
      have bm1 := hd.m1
      have bd0 := hd.d0
      have bd1 : d ≤ 31 := by have := hd.d1; have := mlen_bd y m; omega
      have hme := monthsV_eq (n := n) hd d1
      obtain ⟨X, er, hX⟩ : ∃ X er, addV day n 3 L = (X, er) := ⟨_, _, rfl⟩
      obtain ⟨Z, ez, hZ⟩ : ∃ Z ez, addV day n 4 L = (Z, ez) := ⟨_, _, rfl⟩
      have hZ2 : addV day (12 * n) 3 L = (Z, ez) := by
        rw [← hZ, addV_ok ⟨d0, d1, by omega, by omega, by omega, by omega⟩ hl1000, addV_ok ⟨d0, d1, by omega, by omega, by omega, by omega⟩ hl1000, firstV_3, firstV_4]
      have hX2 : addV day n 3 L = lastV L (monthsV day n) := by rw [addV_ok ⟨d0, d1, by omega, by omega, by omega, by omega⟩ hl1000, firstV_3]
      rw [hX, hme] at hX2
      obtain ⟨ML, hML⟩ : ∃ ML, ML = mlen (y + (m - 1 + n) / 12) ((m - 1 + n) % 12 + 1) := ⟨_, rfl⟩
      have mb := mlen_bd (y + (m - 1 + n) / 12) ((m - 1 + n) % 12 + 1)
      rw [← hML] at hX2 mb
      have harg : ∀ i, ML < i → dayV (y + (m - 1 + n) / 12) ((m - 1 + n) % 12 + 1) i = (0, 1) := fun i hi => dayV_arg (.inr (.inr (.inr (by rw [← hML]; exact hi))))
      have htwo := dayV_two (y := y + (m - 1 + n) / 12) (m := (m - 1 + n) % 12 + 1) (d := min d ML) (by omega) (by omega) (by omega) (by rw [← hML]; omega)
      have HD := Lib.hid hd
      have HX := Lib.hid hX
      have HZ := Lib.hid hZ
      have HZ2 := Lib.hid hZ2
      have HX2 := Lib.hid hX2
      have HARG := Lib.hid harg
      have HTWO := Lib.hid htwo
      clear hd hX hZ hZ2 hX2 harg htwo hme hML
      go_enter Tryd.func7, Tryd.ntmps7
      go_wp2_with fail
      refine (head_any _ h).mono ?_
      rintro e w1 ⟨rfl, bw⟩
      go_wp2_with fail
      refine (term_any _ _ _).mono ?_
      rintro e w2 ⟨rfl, b'⟩
      replace bw := bw.trans (b'.mono bw.size); clear b'
      go_wp2_with fail
      refine (add_at HX.out _ _ (HRI.out _ bw)).mono ?_
      rintro e w2 ⟨rfl, b'⟩
      replace bw := bw.trans (b'.mono bw.size); clear b'
      go_wp2_with fail
      refine (term_any _ _ _).mono ?_
      rintro e w2 ⟨rfl, b'⟩
      replace bw := bw.trans (b'.mono bw.size); clear b'
      go_wp2_with fail
      refine (add_at HZ.out _ _ (HRI.out _ bw)).mono ?_
      rintro e w2 ⟨rfl, b'⟩
      replace bw := bw.trans (b'.mono bw.size); clear b'
      go_wp2_with fail
      refine (term_any _ _ _).mono ?_
      rintro e w2 ⟨rfl, b'⟩
      replace bw := bw.trans (b'.mono bw.size); clear b'
      go_wp2_with fail
      refine (add_at HZ2.out _ _ (HRI.out _ bw)).mono ?_
      rintro e w2 ⟨rfl, b'⟩
      replace bw := bw.trans (b'.mono bw.size); clear b'
      go_wp2_with fail
      refine (date_at HD.out d1 _).mono ?_
      rintro e w2 ⟨rfl, b'⟩
      replace bw := bw.trans (b'.mono bw.size); clear b'
      go_wp2_with fail
      go_loopw [18, 19] (fun l i wr => ∃ k : Int, min d ML ≤ k ∧ k ≤ d ∧ i = .int .i64 k ∧ l = .int .i64 (-1) ∧ Below w.heap.size w wr) (fun _ i _ => (intOf i).toNat)
      case atStart => exact ⟨d, by omega, by omega, rfl, rfl, bw⟩
      case round =>
        clear bw
        obtain ⟨k, hk0, hk1, rfl, rfl, bw⟩ := hrel
        by_cases hgt : ML < k
        · have ha := HARG.out k hgt
          have HA := Lib.hid ha
          clear ha
          have h28 : 28 ≤ k := by omega
          have hd4 : d - 4 < k := by omega
          go_wp2_with fail
          refine (day_at HA.out _).mono ?_
          rintro e w3 ⟨rfl, b'⟩
          have bx := bw.trans (b'.mono bw.size)
          clear b'
          go_wp2
          go_roundw
          case rel => exact ⟨k - 1, by omega, by omega, by go_num, rfl, bx⟩
          case measure => simp [intOf]; omega
        · have hkm : min d ML = k := by omega
          by_cases h28 : 28 ≤ k
          · have hd4 : d - 4 < k := by omega
            rcases HTWO.out with h2 | ⟨x, h2, x0, x1⟩
            · have hr := HX2.out
              rw [h2, lastV_err (.inl (by decide))] at hr
              obtain ⟨rfl, rfl⟩ : X = 0 ∧ er = 10 := by simpa using hr
              rw [hkm] at h2
              have H2 := Lib.hid h2
              clear h2 hr hkm
              go_wp2_with fail
              refine (day_at H2.out _).mono ?_
              rintro e w3 ⟨rfl, b'⟩
              have bx := bw.trans (b'.mono bw.size)
              clear b'
              go_wp2
              go_ret
              exact ⟨rfl, bx⟩
            · have hr := HX2.out
              rw [h2] at hr
              rw [hkm] at h2
              have H2 := Lib.hid h2
              clear h2 hkm
              have hfg := fromV_ge L x
              by_cases hlate : 1000000 < fromV L x
              · rw [lastV_late x0 x1 hlate] at hr
                obtain ⟨rfl, rfl⟩ : X = 0 ∧ er = 10 := by simpa using hr
                have hno : ∀ q, x ≤ q → q < 1000001 → opn L q = false := fun q h1 h2 => fromV_none (n := x) h1 (by omega)
                have HNO := Lib.hid hno
                clear hr hno hlate hfg
                go_wp2_with fail
                refine (day_at H2.out _).mono ?_
                rintro e w3 ⟨rfl, b'⟩
                have bx := bw.trans (b'.mono bw.size)
                clear b'
                go_wp2_with fail
                refine (none_yes _ _ _ L _ (HRI.out _ bx) (by omega) (by omega) (by omega) HNO.out).mono ?_
                rintro e w4 ⟨rfl, b'⟩
                replace bx := bx.trans (b'.mono bx.size)
                clear b'
                go_wp2
                go_ret
                exact ⟨rfl, bx⟩
              · rw [lastV_ok x0 x1 (by omega)] at hr
                obtain ⟨hX, rfl⟩ : X = fromV L x ∧ er = 0 := by simpa using hr
                have hx1 : X ≤ 1000000 := by omega
                have hx0 : x ≤ X := by omega
                have hno : ∀ q, x ≤ q → q < X → opn L q = false := fun q h1 h2 => fromV_none (n := x) h1 (by omega)
                have HNO := Lib.hid hno
                clear hr hno hlate hfg hX
                go_wp2_with fail
                refine (day_at H2.out _).mono ?_
                rintro e w3 ⟨rfl, b'⟩
                have bx := bw.trans (b'.mono bw.size)
                clear b'
                go_wp2_with fail
                refine (none_yes _ _ _ L _ (HRI.out _ bx) hx0 (by omega) (by omega) HNO.out).mono ?_
                rintro e w4 ⟨rfl, b'⟩
                replace bx := bx.trans (b'.mono bx.size)
                clear b'
                go_wp2
                go_ret
                exact ⟨rfl, bx⟩
          · have h28b : decide (28 ≤ k) = false := by simp; omega
            obtain rfl : k = d := by omega
            rcases HTWO.out with h2 | ⟨x, h2, x0, x1⟩
            · have hr := HX2.out
              rw [h2, lastV_err (.inl (by decide))] at hr
              obtain ⟨rfl, rfl⟩ : X = 0 ∧ er = 10 := by simpa using hr
              rw [hkm] at h2
              have H2 := Lib.hid h2
              clear h2 hr hkm
              go_wp2_with fail
              refine (day_at H2.out _).mono ?_
              rintro e w3 ⟨rfl, b'⟩
              have bx := bw.trans (b'.mono bw.size)
              clear b'
              go_wp2
              go_ret
              exact ⟨rfl, bx⟩
            · have hr := HX2.out
              rw [h2] at hr
              rw [hkm] at h2
              have H2 := Lib.hid h2
              clear h2 hkm
              have hfg := fromV_ge L x
              by_cases hlate : 1000000 < fromV L x
              · rw [lastV_late x0 x1 hlate] at hr
                obtain ⟨rfl, rfl⟩ : X = 0 ∧ er = 10 := by simpa using hr
                have hno : ∀ q, x ≤ q → q < 1000001 → opn L q = false := fun q h1 h2 => fromV_none (n := x) h1 (by omega)
                have HNO := Lib.hid hno
                clear hr hno hlate hfg
                go_wp2_with fail
                refine (day_at H2.out _).mono ?_
                rintro e w3 ⟨rfl, b'⟩
                have bx := bw.trans (b'.mono bw.size)
                clear b'
                go_wp2_with fail
                refine (none_yes _ _ _ L _ (HRI.out _ bx) (by omega) (by omega) (by omega) HNO.out).mono ?_
                rintro e w4 ⟨rfl, b'⟩
                replace bx := bx.trans (b'.mono bx.size)
                clear b'
                go_wp2
                go_ret
                exact ⟨rfl, bx⟩
              · rw [lastV_ok x0 x1 (by omega)] at hr
                obtain ⟨hX, rfl⟩ : X = fromV L x ∧ er = 0 := by simpa using hr
                have hx1 : X ≤ 1000000 := by omega
                have hx0 : x ≤ X := by omega
                have hno : ∀ q, x ≤ q → q < X → opn L q = false := fun q h1 h2 => fromV_none (n := x) h1 (by omega)
                have HNO := Lib.hid hno
                clear hr hno hlate hfg hX
                go_wp2_with fail
                refine (day_at H2.out _).mono ?_
                rintro e w3 ⟨rfl, b'⟩
                have bx := bw.trans (b'.mono bw.size)
                clear b'
                go_wp2_with fail
                refine (none_yes _ _ _ L _ (HRI.out _ bx) hx0 (by omega) (by omega) HNO.out).mono ?_
                rintro e w4 ⟨rfl, b'⟩
                replace bx := bx.trans (b'.mono bx.size)
                clear b'
                go_wp2
                go_ret
                exact ⟨rfl, bx⟩

theorem months_card (day n : Int) (v : Value) (L : List Int) (w : World) (h : PT w) (_ : -9223372036854775808 ≤ day ∧ day ≤ 9223372036854775807) (hn : 0 ≤ n ∧ n ≤ 65535) (hv : RI w w.heap.size v L) :
    Calls Tryd.prog 7 #[.int .i64 day, .int .u16 n, v] w fun e w' => e = .returned (.bool true) ∧ Below w.heap.size w w' := months_walk day n v L w h hn.1 hn.2 hv

end Go.Proofs.YtpelnfolnlmhdaaDoor
