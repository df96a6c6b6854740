/- THE CALENDAR IN PLAIN LEAN: the values of the statements' head. -/
import Derived.Test.YtpelnfolnlmhdaaDoorCalPlainC
namespace Go.Proofs.YtpelnfolnlmhdaaDoor
namespace Cal

theorem v1 : dayV 1600 2 29 = (59, 0) := by decide
theorem v2 : dayV 1601 1 1 = (366, 0) := by decide
theorem v3 : dayV 1700 2 29 = (0, 1) := by decide
theorem v4 : dayV 1599 1 1 = (0, 10) := by decide
theorem o2 : opn [] 2 = true := by decide
theorem o3 : opn [] 3 = true := by decide
theorem o4 : opn [] 4 = true := by decide
theorem o5 : opn [] 5 = true := by decide
theorem o6 : opn [] 6 = true := by decide
theorem o7 : opn [] 7 = false := by decide
theorem o8 : opn [] 8 = false := by decide
theorem o9 : opn [] 9 = true := by decide
theorem o59 : opn [] 59 = true := by decide
theorem f7 : fromV [] 7 = 9 := by
  rw [fromV_shut (by decide) (by decide) o7, show (7 : Int) + 1 = 8 from rfl, fromV_shut (by decide) (by decide) o8]
  exact fromV_open o9
theorem w4 : workN [] 4 2 = 6 := by
  rw [workN_in (by decide) (by decide), show (2 : Int) + 1 = 3 from rfl, fromV_open o3, workN_in (by decide) (by decide), show (3 : Int) + 1 = 4 from rfl, fromV_open o4,
    workN_in (by decide) (by decide), show (4 : Int) + 1 = 5 from rfl, fromV_open o5, workN_in (by decide) (by decide), show (5 : Int) + 1 = 6 from rfl, fromV_open o6]
  rfl
theorem w5 : workN [] 5 2 = 9 := by
  rw [workN_in (by decide) (by decide), show (2 : Int) + 1 = 3 from rfl, fromV_open o3, workN_in (by decide) (by decide), show (3 : Int) + 1 = 4 from rfl, fromV_open o4,
    workN_in (by decide) (by decide), show (4 : Int) + 1 = 5 from rfl, fromV_open o5, workN_in (by decide) (by decide), show (5 : Int) + 1 = 6 from rfl, fromV_open o6,
    workN_in (by decide) (by decide), show (6 : Int) + 1 = 7 from rfl, f7]
  rfl
theorem argOk_mk {day N U : Int} (h : 0 ≤ day ∧ day ≤ 1000000 ∧ 1 ≤ U ∧ U ≤ 5 ∧ 0 ≤ N ∧ N ≤ 1000000) : argOk day N U := h
theorem a1 : addV 2 4 5 [] = (6, 0) := by
  rw [addV_ok (argOk_mk (by decide)) (by decide), firstV_5, show (4 : Int).toNat = 4 from rfl, w4, lastV_ok (by decide) (by decide) (by rw [fromV_open o6]; decide), fromV_open o6]
theorem a2 : addV 2 5 5 [] = (9, 0) := by
  rw [addV_ok (argOk_mk (by decide)) (by decide), firstV_5, show (5 : Int).toNat = 5 from rfl, w5, lastV_ok (by decide) (by decide) (by rw [fromV_open o9]; decide), fromV_open o9]
theorem a3 : addV 2 5 1 [] = (9, 0) := by
  rw [addV_ok (argOk_mk (by decide)) (by decide), firstV_1, show (2 : Int) + 5 = 7 from rfl, lastV_ok (by decide) (by decide) (by rw [f7]; decide), f7]
theorem d30 : yr 30 = 1600 ∧ mo 30 = 1 ∧ da 30 = 31 := IsDate.eqs ⟨by decide, by decide, by decide, by decide, by decide, by decide, by decide⟩ (by decide)
theorem d59 : yr 59 = 1600 ∧ mo 59 = 2 ∧ da 59 = 29 := IsDate.eqs ⟨by decide, by decide, by decide, by decide, by decide, by decide, by decide⟩ (by decide)
theorem m30 : monthsV 30 1 = (59, 0) := by
  unfold monthsV
  rw [d30.1, d30.2.1, d30.2.2]
  decide
theorem a4 : addV 30 1 3 [] = (59, 0) := by
  rw [addV_ok (argOk_mk (by decide)) (by decide), firstV_3, m30, lastV_ok (by decide) (by decide) (by rw [fromV_open o59]; decide), fromV_open o59]
theorem o0 : opn [] 0 = false := by decide
theorem o22 : opn [2] 2 = false := by decide
end Cal
end Go.Proofs.YtpelnfolnlmhdaaDoor
