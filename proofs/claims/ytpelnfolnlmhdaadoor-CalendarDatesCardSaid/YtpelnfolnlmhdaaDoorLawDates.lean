/- WALK of CalendarDates. -/
import Derived.Test.YtpelnfolnlmhdaaDoorHead
import Derived.Test.YtpelnfolnlmhdaaDoorLawDatesPlain
import Derived.Deep.DeepCutAuto
namespace Go.Proofs.YtpelnfolnlmhdaaDoor
open Go.RowKit Go.Maps
open Cal

theorem date_at {n y m d : Int} (h : IsDate n y m d) (h1 : n ≤ 1000000) (w : World) :
    Calls Tryd.prog 15 #[.int .i64 n] w fun e w' => e = .returned (.tuple #[.int .i64 y, .int .i64 m, .int .i64 d, .int .i64 0]) ∧ Below w.heap.size w w' := by
  have := date_yes n w h.nonneg h1
  rwa [(h.eqs h1).1, (h.eqs h1).2.1, (h.eqs h1).2.2] at this

set_option maxHeartbeats 4000000 in
set_option maxRecDepth 100000 in
theorem dates_walk (year month date day : Int) (w : World) (h : PT w) :
    Calls Tryd.prog 4 #[.int .i64 year, .int .i64 month, .int .i64 date, .int .i64 day] w fun e w' => e = .returned (.bool true) ∧ Below w.heap.size w w' := by
  obtain ⟨a, b, hr⟩ : ∃ a b, dayV year month date = (a, b) := ⟨_, _, rfl⟩
  have hp := dayV_pair (y := year) (m := month) (d := date)
  have HR := Lib.hid hr
  have HP := Lib.hid hp
  clear hr hp
  go_enter Tryd.func4, Tryd.ntmps4
  go_wp2_with fail
  refine (head_any _ h).mono ?_
  rintro e w1 ⟨rfl, bw⟩
  go_wp2_with fail
  refine (day_at HR.out _).mono ?_
  rintro e w2 ⟨rfl, b'⟩
  replace bw := bw.trans (b'.mono bw.size); clear b'
  go_upto_if 38 with (fail)
  go_cut [] (fun wx => Below w.heap.size w wx)
  case first =>
    rcases HP.out with ⟨r, hr, r0, r1, his⟩ | ⟨er, he, hr⟩
    · obtain ⟨rfl, rfl⟩ : a = r ∧ b = 0 := by have := HR.out.symm.trans hr; simpa using this
      clear hr
      have hyh := his.year_hi r1
      have hy0 := his.y0
      by_cases hl : a + 146097 ≤ 1000000
      · have h4 := dayV_400 his r1 hl
        have HI := Lib.hid his
        have H4 := Lib.hid h4
        clear his h4
        go_wp2_with fail
        refine (date_at HI.out r1 _).mono ?_
        rintro e w2 ⟨rfl, b'⟩
        replace bw := bw.trans (b'.mono bw.size); clear b'
        go_wp2_with fail
        refine (day_at H4.out _).mono ?_
        rintro e w2 ⟨rfl, b'⟩
        replace bw := bw.trans (b'.mono bw.size); clear b'
        go_wp2
        go_meet
        case rel => exact bw
      · have h4 := dayV_400_late his r1 (by omega)
        have HI := Lib.hid his
        have H4 := Lib.hid h4
        clear his h4
        go_wp2_with fail
        refine (date_at HI.out r1 _).mono ?_
        rintro e w2 ⟨rfl, b'⟩
        replace bw := bw.trans (b'.mono bw.size); clear b'
        go_wp2_with fail
        refine (day_at H4.out _).mono ?_
        rintro e w2 ⟨rfl, b'⟩
        replace bw := bw.trans (b'.mono bw.size); clear b'
        go_wp2
        go_meet
        case rel => exact bw
    · obtain ⟨rfl, rfl⟩ : a = 0 ∧ b = er := by have := HR.out.symm.trans hr; simpa using this
      clear hr
      have heb : (b == 0) = false := by simpa using he
      clear he
      go_wp2
      go_meet
      case rel => exact bw
  case rest =>
    replace bw := hcut
    clear hcut HP HR
    by_cases hout : day < 0 ∨ 1000000 < day
    · have hdn := fun w => date_no day w hout
      have HD := Lib.hid hdn
      clear hdn
      rcases hout with hout | hout
      all_goals
        go_wp2_with fail
        refine (HD.out _).mono ?_
        rintro e w2 ⟨rfl, b'⟩
        replace bw := bw.trans (b'.mono bw.size); clear b'
        go_wp2
        go_ret
        exact ⟨rfl, bw⟩
    · have d0 : 0 ≤ day := by omega
      have d1 : day ≤ 1000000 := by omega
      clear hout
      obtain ⟨y, m, d, hd⟩ := date_ex d0 d1
      have hb := dayV_of_is hd d1
      have HD := Lib.hid hd
      have HB := Lib.hid hb
      clear hd hb
      by_cases hmax : day = 1000000
      · have hmb : (day == 1000000) = true := by simpa using hmax
        clear hmax
        go_wp2_with fail
        refine (date_at HD.out d1 _).mono ?_
        rintro e w2 ⟨rfl, b'⟩
        replace bw := bw.trans (b'.mono bw.size); clear b'
        go_wp2_with fail
        refine (day_at HB.out _).mono ?_
        rintro e w2 ⟨rfl, b'⟩
        replace bw := bw.trans (b'.mono bw.size); clear b'
        go_wp2
        go_ret
        exact ⟨rfl, bw⟩
      · have hmb : (day == 1000000) = false := by simpa using hmax
        have d2 : day + 1 ≤ 1000000 := by omega
        clear hmax
        have by0 := HD.out.y0
        have by1 := HD.out.year_hi d1
        have bm0 := HD.out.m0
        have bm1 := HD.out.m1
        have bd0 := HD.out.d0
        have bd1 : d ≤ 31 := by have := HD.out.d1; have := mlen_bd y m; omega
        have q1 : (m + 1 == m) = false := by rw [beq_eq_false_iff_ne]; omega
        have q2 : (y + 1 == y) = false := by rw [beq_eq_false_iff_ne]; omega
        rcases HD.out.next d1 with ⟨hx, hn⟩ | ⟨hx, hm12, hn⟩ | ⟨hx, hm12, hn⟩
        · have HN := Lib.hid hn
          clear hn hx
          go_wp2_with fail
          refine (date_at HD.out d1 _).mono ?_
          rintro e w2 ⟨rfl, b'⟩
          replace bw := bw.trans (b'.mono bw.size); clear b'
          go_wp2_with fail
          refine (day_at HB.out _).mono ?_
          rintro e w2 ⟨rfl, b'⟩
          replace bw := bw.trans (b'.mono bw.size); clear b'
          go_wp2_with fail
          refine (date_at HN.out d2 _).mono ?_
          rintro e w2 ⟨rfl, b'⟩
          replace bw := bw.trans (b'.mono bw.size); clear b'
          go_wp2
          go_ret
          exact ⟨rfl, bw⟩
        · have HN := Lib.hid hn
          clear hn hx
          go_wp2_with fail
          refine (date_at HD.out d1 _).mono ?_
          rintro e w2 ⟨rfl, b'⟩
          replace bw := bw.trans (b'.mono bw.size); clear b'
          go_wp2_with fail
          refine (day_at HB.out _).mono ?_
          rintro e w2 ⟨rfl, b'⟩
          replace bw := bw.trans (b'.mono bw.size); clear b'
          go_wp2_with fail
          refine (date_at HN.out d2 _).mono ?_
          rintro e w2 ⟨rfl, b'⟩
          replace bw := bw.trans (b'.mono bw.size); clear b'
          go_wp2
          go_ret
          exact ⟨rfl, bw⟩
        · have HN := Lib.hid hn
          clear hn hx
          subst hm12
          go_wp2_with fail
          refine (date_at HD.out d1 _).mono ?_
          rintro e w2 ⟨rfl, b'⟩
          replace bw := bw.trans (b'.mono bw.size); clear b'
          go_wp2_with fail
          refine (day_at HB.out _).mono ?_
          rintro e w2 ⟨rfl, b'⟩
          replace bw := bw.trans (b'.mono bw.size); clear b'
          go_wp2_with fail
          refine (date_at HN.out d2 _).mono ?_
          rintro e w2 ⟨rfl, b'⟩
          replace bw := bw.trans (b'.mono bw.size); clear b'
          go_wp2
          go_ret
          exact ⟨rfl, bw⟩

theorem dates_card (year month date day : Int) (w : World) (h : PT w) (_ : -9223372036854775808 ≤ year ∧ year ≤ 9223372036854775807) (_ : -9223372036854775808 ≤ month ∧ month ≤ 9223372036854775807) (_ : -9223372036854775808 ≤ date ∧ date ≤ 9223372036854775807) (_ : -9223372036854775808 ≤ day ∧ day ≤ 9223372036854775807) :
    Calls Tryd.prog 4 #[.int .i64 year, .int .i64 month, .int .i64 date, .int .i64 day] w fun e w' => e = .returned (.bool true) ∧ Below w.heap.size w w' := dates_walk year month date day w h

end Go.Proofs.YtpelnfolnlmhdaaDoor
