/- WALK of matter.Text at a formed matter. -/
import Derived.Test.YtficjcomefaocaaGreatDoorTextB
namespace Go.Proofs.YtficjcomefaocaaGreatDoor
open Go.RowKit Go.Maps
open Lexer

set_option maxHeartbeats 8000000 in
set_option maxRecDepth 100000 in
theorem text_yes (m : Mat) (w : World) (h : MR w w.heap.size m) (hf : formedB m = true) (hE : Env w.heap.size w) :
    Calls Tryz.prog 11 #[.agg m.cells] w fun e w' => e = .returned (.tuple #[.string ⟨(textL m).toArray⟩, .int .i64 0]) ∧ Below w.heap.size w w' := by
  have b0 : Below w.heap.size w (w.alloc (.cells m.cells 27)) := (Below.refl _ _).alloc (Nat.le_refl _) _
  have nF := formed_any m _ (h.go b0)
  have hm0 := MBox.new w m
  have hfm := formed_fm hf
  have hgo : ∀ w', Below w.heap.size w w' → MR w' w'.heap.size m := fun w' hb => h.go hb
  rw [hf] at nF
  obtain ⟨A1, p1, e1, l1, _⟩ := id h.cs
  obtain ⟨A2, p2, e2, l2, _⟩ := id h.mo
  obtain ⟨⟨A3, p3, e3, l3, _⟩, hsr⟩ := id h.ri
  obtain ⟨⟨A4, p4, e4, l4, _⟩, _⟩ := id h.li
  obtain ⟨mid, opened, cv, case_, proc, stage, mv, moved, rv, rights, lv, limits⟩ := m
  simp only at e1 e2 e3 e4 hsr
  subst e1 e2 e3 e4
  have NF := Lib.hid nF
  have HM0 := Lib.hid hm0
  have HFM := Lib.hid hfm
  have HGO := Lib.hid hgo
  have HE := Lib.hid hE
  clear hf nF hm0 h hfm hgo hE
  simp only [Mat.cells] at b0 NF HM0 ⊢
  go_enter Tryz.func11, Tryz.ntmps11
  have hm1 := HM0.out
  obtain ⟨c0, c1, c2, c3, c4, c5, c6, c7⟩ := hm1
  simp only at c0 c1 c2 c3 c4 c5 c6 c7
  go_wp2_with fail
  refine NF.out.mono ?_
  rintro e w1 ⟨rfl, b1⟩
  have bw := b0.trans (b1.mono b0.size)
  have hm := HM0.out.below b1 (by simp)
  have hlt : w.heap.size < w1.heap.size := by have := b1.size; simp at this; omega
  have hmr := HGO.out w1 bw
  have hE1 : Env w1.heap.size w1 := HE.out.go bw
  clear b1 b0 c0 c1 c2 c3 c4 c5 c6 c7 NF HM0 HGO HE
  obtain ⟨B, hB⟩ : ∃ B, B = w1.heap.size := ⟨_, rfl⟩
  have hm' : ∀ W, Below B w1 W → MBox w.heap.size ⟨mid, opened, .slice A1 case_.length p1, case_, proc, stage, .slice A2 moved.length p2, moved, .slice A3 rights.length p3, rights, .slice A4 limits.length p4, limits⟩ W := fun W hb => hm.below hb (by omega)
  have hr' : ∀ W, Below B w1 W → MR W B ⟨mid, opened, .slice A1 case_.length p1, case_, proc, stage, .slice A2 moved.length p2, moved, .slice A3 rights.length p3, rights, .slice A4 limits.length p4, limits⟩ := fun W hb => by subst hB; exact hmr.below hb
  have hfr : IsB w1.heap.size w1.heap.size [] (w1.alloc (.cells #[.pointer none, .slice none 0 0] 68)) := .of (Lib.fresh_isBuilder _ _ _)
  have HFR := Lib.hid hfr
  have HM := Lib.hid hm'
  have HR := Lib.hid hr'
  have HE1 := Lib.hid hE1
  have bB0 : Below B w1 (w1.alloc (.cells #[.pointer none, .slice none 0 0] 68)) := (Below.refl _ _).alloc (by omega) _
  have BB0 := Lib.hid bB0
  have HB := Lib.hid hB
  clear hm hmr hfr hm' hr' hE1 bB0
  go_upto_region 5 with fail
  go_cut [33] (fun s33 wx => s33 = .tuple #[] ∧ AtB B B (headL ⟨mid, opened, .slice A1 case_.length p1, case_, proc, stage, .slice A2 moved.length p2, moved, .slice A3 rights.length p3, rights, .slice A4 limits.length p4, limits⟩) wx ∧ Below B w1 wx)
  case first =>
    have hb0 := BB0.out
    have hsz : B ≤ (w1.alloc (.cells #[.pointer none, .slice none 0 0] 68)).heap.size := by simp; omega
    have hst := stage_num HFM.out
    have hop := HFM.out.op
    have hhf := headF_len HFM.out
    simp only [headF] at hst hop hhf
    have hI : ∀ W, Below (w1.alloc (.cells #[.pointer none, .slice none 0 0] 68)).heap.size (w1.alloc (.cells #[.pointer none, .slice none 0 0] 68)) W → Calls Tryz.prog 33 #[.int .i64 opened] W fun e w' => e = .returned (.string ⟨(Lib.itoa opened).toArray⟩) ∧ Below (w1.alloc (.cells #[.pointer none, .slice none 0 0] 68)).heap.size (w1.alloc (.cells #[.pointer none, .slice none 0 0] 68)) w' ∧ Below W.heap.size W w' := fun W hb =>
      (itoa_any opened W (numB_wf hop) B (by rw [HB.out]; exact HE1.out.on ((HB.out ▸ hb0).trans (hb.mono (HB.out ▸ hsz))))).mono fun _ _ ⟨h1, h2⟩ => ⟨h1, hb.trans (h2.mono hb.size), h2⟩
    have hL : ∀ W q, Below (w1.alloc (.cells #[.pointer none, .slice none 0 0] 68)).heap.size (w1.alloc (.cells #[.pointer none, .slice none 0 0] 68)) W → q ≠ B → W.heap[q]? = some (.cells #[.int .i64 stage] 3 (0, 0)) →
        Calls Tryz.prog 31 #[.string ((((((⟨#[109, 97, 116, 116, 101, 114, 32]⟩ : ByteArray) ++ mid) ++ ⟨#[32]⟩) ++ ⟨(Lib.itoa opened).toArray⟩ ++ ⟨#[32]⟩) ++ proc)), .slice (some ⟨q, 0, none⟩) 1 1, .pointer (some ⟨w1.heap.size, 0, none⟩)] W fun e w' => e = .returned (.tuple #[]) ∧ AtB B B (headL ⟨mid, opened, .slice A1 case_.length p1, case_, proc, stage, .slice A2 moved.length p2, moved, .slice A3 rights.length p3, rights, .slice A4 limits.length p4, limits⟩) w' ∧ Below B w1 w' := fun W q hb hne hq => by
      have hk : Kept B B (w1.alloc (.cells #[.pointer none, .slice none 0 0] 68)) W := Kept.of_below hb hsz
      have his : IsB B B [] W := by
        rcases (HB.out ▸ HFR.out : IsB B B [] _) with h | h
        · obtain ⟨h1, v, h2, h3, h4⟩ := h
          exact .inl ⟨h1, v, by rw [hb.block B (Array.getElem?_eq_some_iff.1 h2).1]; exact h2, h3.kept (row := none) ⟨hb.os, hb.tape, hb.output, hb.size, fun k hk _ => hb.block k hk⟩ (by cases hv : v.ownBlock <;> simp), h4⟩
        · exact .inr (AtB.fresh h hb)
      have e1 : w1.heap.size = B := HB.out.symm
      rw [e1]
      refine (line_at B B [] _ _ [stage] _ W ((HB.out.symm ▸ HE1.out : Env B w1).on hb0) hk his hsz (by
        rw [Lib.size_eq, head_bytes]
        simp only [List.length_nil, List.length_cons]
        omega) (ri_block (L := [stage]) hq hne (by simp) (by intro x hx; rw [List.mem_singleton.1 hx]; exact numB_wf hst))).mono fun _ _ ⟨h1, h2, h3⟩ => ⟨h1, ?_, hb0.trans h3.bel⟩
      rw [head_bytes] at h2
      exact h2
    have HI := Lib.hid hI
    have HL := Lib.hid hL
    have z0 : mid.size ≤ 24 := name_size HFM.out.id
    have z1 : proc.size ≤ 24 := name_size HFM.out.proc
    have z2 := itoa_len opened (numB_wf hop)
    have g1 : ¬ 9223372036854775807 < 7 + mid.size := by omega
    have g2 : ¬ 9223372036854775807 < 7 + mid.size + 1 := by omega
    have g3 : ¬ 9223372036854775807 < 7 + mid.size + 1 + (Lib.itoa opened).length := by omega
    have g4 : ¬ 9223372036854775807 < 7 + mid.size + 1 + (Lib.itoa opened).length + 1 := by omega
    have g5 : ¬ 9223372036854775807 < 7 + mid.size + 1 + (Lib.itoa opened).length + 1 + proc.size := by omega
    have hneA : w1.heap.size + 1 ≠ B := by have := HB.out; omega
    have hneB : ∀ W : World, Below (w1.alloc (.cells #[.pointer none, .slice none 0 0] 68)).heap.size (w1.alloc (.cells #[.pointer none, .slice none 0 0] 68)) W → W.heap.size ≠ B := fun W hb => by
      have := HB.out
      have := hb.size
      simp at this
      omega
    have hbb : ∀ W : World, Below (w1.alloc (.cells #[.pointer none, .slice none 0 0] 68)).heap.size (w1.alloc (.cells #[.pointer none, .slice none 0 0] 68)) W → Below B w1 W := fun W hb => BB0.out.trans (hb.mono (by have := HB.out; simp; omega))
    have HBB := Lib.hid hbb
    clear hbb
    have HNA := Lib.hid hneA
    have hAN : ((w1.alloc (.cells #[.pointer none, .slice none 0 0] 68)).alloc (.cells #[.int .i64 stage] 3)).heap[w1.heap.size + 1]? = some (.cells #[.int .i64 stage] 3 (0, 0)) := by
      have := Go.heap_alloc_new (w1.alloc (.cells #[.pointer none, .slice none 0 0] 68)) (.cells #[.int .i64 stage] 3)
      rw [World.size_alloc] at this
      exact this
    have HAN := Lib.hid hAN
    clear hAN
    have HNB := Lib.hid hneB
    clear hst hop hhf hI hL hneA hneB
    obtain ⟨c0, c1, c2, c3, c4, c5, c6, c7⟩ := HM.out _ hb0
    simp only at c0 c1 c2 c3 c4 c5 c6 c7
    have HC0 := Lib.hid c0
    have HC1 := Lib.hid c1
    have HC3 := Lib.hid c3
    have HC4 := Lib.hid c4
    clear c2 c5 c6 c7
    go_region_held3 (fun w' => w'.cell? ⟨w.heap.size, 0, none⟩ = some (.string mid) ∧ w'.cell? ⟨w.heap.size, 1, none⟩ = some (.int .i64 opened) ∧ w'.cell? ⟨w.heap.size, 3, none⟩ = some (.string proc) ∧ w'.cell? ⟨w.heap.size, 4, none⟩ = some (.int .i64 stage)) (first
          | exact ⟨(HM.out _ (HBB.out _ b2)).c0, (HM.out _ (HBB.out _ b2)).c1, (HM.out _ (HBB.out _ b2)).c3, (HM.out _ (HBB.out _ b2)).c4⟩
          | exact ⟨(HM.out _ b3).c0, (HM.out _ b3).c1, (HM.out _ b3).c3, (HM.out _ b3).c4⟩
          | go_keep)
        (first
          | (go_at_call 33; refine (HI.out _ (by repeat (first | exact Below.refl _ _ | assumption | refine Below.drew ?_ | refine Below.alloc ?_ (by first | exact Nat.le_refl _ | exact le_alloc _ _) _))).mono ?_; rintro e w2 ⟨rfl, b2, b2'⟩; dsimp only)
          | (go_at_call 31; refine (HL.out _ _ (by first | exact b2 | exact b2.alloc b2.size _) (by first | exact HNA.out | exact HNB.out _ b2) (by first | exact Go.heap_alloc_new _ _ | exact (b2'.block _ (by simp)).trans HAN.out)).mono ?_; rintro e w3 ⟨rfl, a3, b3⟩; dsimp only)
          | fail)
    all_goals
      go_wp2_with fail
      go_meet
      exact ⟨rfl, a3, b3⟩
  case rest =>
    obtain ⟨rfl, hat, hbx⟩ := hcut
    have hline : ∀ (W : World) (l : List UInt8) (first : ByteArray) (v : Value) (L : List Int), Below B w1 W → AtB B B l W → l.length + first.size + 22 * L.length + 1 ≤ 140737488355328 → (∀ w', Kept B B W w' → RI w' w'.heap.size v L) →
        Calls Tryz.prog 31 #[.string first, v, .pointer (some ⟨w1.heap.size, 0, none⟩)] W fun e w' => e = .returned (.tuple #[]) ∧ AtB B B (l ++ lineL first.data.toList L) w' ∧ Below B w1 w' := fun W l first v L hb ha hlen hL => by
      have e1 : w1.heap.size = B := HB.out.symm
      rw [e1]
      refine (line_any B B l first v L W ((HB.out.symm ▸ HE1.out : Env B w1).on hb) ha.is (Nat.le_trans (Nat.le_of_eq HB.out) hb.size) hlen hL).mono fun _ _ ⟨h1, h2, h3⟩ => ⟨h1, h2, hb.trans h3.bel⟩
    have HL := Lib.hid hline
    have hlen0 := headL_len HFM.out
    have hlenB := textB_len HFM.out
    have hlcs := HFM.out.cl
    have hlmo := HFM.out.ml
    simp only at hlcs hlmo
    have hl1 := HL.out _ _ ⟨#[99, 97, 115, 101]⟩ (.slice A1 case_.length p1) case_ hbx hat (by simp only [Lib.size_eq, List.length_cons, List.length_nil]; omega) (fun w' hk => (HR.out w' (hbx.trans hk.bel)).cs.more (Nat.le_trans (Nat.le_of_eq HB.out) (hbx.trans hk.bel).size))
    obtain ⟨c0, c1, c2, c3, c4, c5, c6, c7⟩ := HM.out _ hbx
    simp only at c0 c1 c2 c3 c4 c5 c6 c7
    clear c0 c1 c3 c4 c5 c6 c7 hline
    go_wp2_with fail
    refine hl1.mono ?_
    rintro e w2 ⟨rfl, a2, b2⟩
    have hl2 := HL.out _ _ ⟨#[109, 111, 118, 101, 100]⟩ (.slice A2 moved.length p2) moved b2 a2 (by
      have := lineL_len (f := [99, 97, 115, 101]) HFM.out.cs
      simp only [Lib.size_eq, List.length_append, List.length_cons, List.length_nil] at this ⊢; omega) (fun w' hk => (HR.out w' (b2.trans hk.bel)).mo.more (Nat.le_trans (Nat.le_of_eq HB.out) (b2.trans hk.bel).size))
    obtain ⟨c0, c1, c2, c3, c4, c5, c6, c7⟩ := HM.out _ b2
    simp only at c0 c1 c2 c3 c4 c5 c6 c7
    clear c0 c1 c2 c3 c4 c6 c7 hl1 hat hbx a2 b2
    go_wp2_with fail
    refine hl2.mono ?_
    rintro e w3 ⟨rfl, a3, b3⟩
    obtain ⟨c0, c1, c2, c3, c4, c5, c6, c7⟩ := HM.out _ b3
    simp only at c0 c1 c2 c3 c4 c5 c6 c7
    clear c0 c1 c2 c3 c4 c5 c7 hl2
    have ha3 : AtB B B (textB ⟨mid, opened, .slice A1 case_.length p1, case_, proc, stage, .slice A2 moved.length p2, moved, .slice A3 rights.length p3, rights, .slice A4 limits.length p4, limits⟩) w3 := by
      have := a3
      simp only [List.append_assoc] at this
      exact this
    have HA3 := Lib.hid ha3
    have HB3 := Lib.hid b3
    clear ha3 a3 b3
    go_wp2
    go_loopw [45] (fun i wr => ∃ k : Nat, k ≤ rights.length ∧ i = .int .i64 k ∧ AtB B B (textB ⟨mid, opened, .slice A1 case_.length p1, case_, proc, stage, .slice A2 moved.length p2, moved, .slice A3 rights.length p3, rights, .slice A4 limits.length p4, limits⟩ ++ (rights.take k).flatMap rightL) wr ∧ Below B w1 wr) (fun i _ => rights.length - (intOf i).toNat)
    case atStart => exact ⟨0, Nat.zero_le _, rfl, by simpa using HA3.out, HB3.out⟩
    case round =>
      obtain ⟨k, hk, rfl, hat, hbr⟩ := hrel
      by_cases hlt : k < rights.length
      · obtain ⟨⟨_, _, hv, _, hc⟩, _⟩ := (HR.out _ hbr).ri
        simp only [Value.slice.injEq] at hv
        obtain ⟨rfl, _, rfl⟩ := hv
        rcases hc with hc | ⟨q, off, rfl, hq, hc⟩
        · simp only at hc; omega
        have d0 : wr.cell? ⟨q, off + k * 2, none⟩ = some (.string (rights.getD k (ByteArray.empty, 0)).1) := by simpa using hc k hlt 0 _ rfl
        have d1 : wr.cell? ⟨q, off + k * 2 + 1, none⟩ = some (.int .i64 (rights.getD k (ByteArray.empty, 0)).2) := by simpa using hc k hlt 1 _ rfl
        have hmem := getD_mem rights (ByteArray.empty, 0) hlt
        have htk := flat_take rightL rights (ByteArray.empty, 0) k hlt
        have hlk := rights_len HFM.out k
        have hrx := HFM.out.ri (rights.getD k (ByteArray.empty, 0)) hmem
        obtain ⟨x, hx⟩ : ∃ x, x = rights.getD k (ByteArray.empty, 0) := ⟨_, rfl⟩
        rw [← hx] at d0 d1 htk hrx
        obtain ⟨n, d⟩ := x
        simp only at d0 d1 hrx hlk
        have hns := name_size hrx.1
        have g1 : ¬ 9223372036854775807 < 6 + n.size := by omega
        have hBr : B < wr.heap.size := by obtain ⟨_, v, h1, _⟩ := hat; exact (Array.getElem?_eq_some_iff.1 h1).1
        have bA : Below wr.heap.size wr ((wr.alloc (.cells #[.string n, .int .i64 d] 41)).alloc (.cells #[.int .i64 d] 3)) := ((Below.refl _ _).alloc (Nat.le_refl _) _).alloc (by simp) _
        have hblk : ((wr.alloc (.cells #[.string n, .int .i64 d] 41)).alloc (.cells #[.int .i64 d] 3)).heap[wr.heap.size + 1]? = some (.cells #[.int .i64 d] 3 (0, 0)) := by
          have := Go.heap_alloc_new (wr.alloc (.cells #[.string n, .int .i64 d] 41)) (.cells #[.int .i64 d] 3)
          rw [World.size_alloc] at this
          exact this
        have hl3 := HL.out _ _ (⟨#[114, 105, 103, 104, 116, 32]⟩ ++ n) (.slice (some ⟨wr.heap.size + 1, 0, none⟩) 1 1) [d] (hbr.trans (bA.mono (Nat.le_of_lt hBr))) (hat.fresh bA) (by
          have h6 : (⟨#[114, 105, 103, 104, 116, 32]⟩ : ByteArray).size = 6 := rfl
          simp only [List.length_append, List.length_cons, List.length_nil, ByteArray.size_append, h6]
          omega) (ri_block (L := [d]) hblk (by omega) (by simp) (by intro y hy; rw [List.mem_singleton.1 hy]; exact numB_wf hrx.2.2))
        have HTK := Lib.hid htk
        have HX := Lib.hid hx
        have HBR := Lib.hid hBr
        clear htk hx hc hmem hrx hlk bA hblk hat hbr hBr
        go_wp2_with fail
        refine hl3.mono ?_
        rintro e w4 ⟨rfl, a4, b4⟩
        have A4' := Lib.hid a4
        have B4' := Lib.hid b4
        clear a4 b4 hl3
        go_wp2
        go_roundw
        case rel =>
          refine ⟨k + 1, by omega, by go_num, ?_, B4'.out⟩
          rw [HTK.out]
          have := A4'.out
          simpa [rightL, sRight, ByteArray.data_append] using this
        case measure => simp [intOf]; omega
      · obtain rfl : k = rights.length := by omega
        rw [List.take_length] at hat
        obtain ⟨c0, c1, c2, c3, c4, c5, c6, c7⟩ := HM.out _ hbr
        simp only at c0 c1 c2 c3 c4 c5 c6 c7
        clear c0 c1 c2 c3 c4 c5 c6
        have HAT := Lib.hid hat
        have HBR := Lib.hid hbr
        clear hat hbr
        go_wp2
        go_loopw [61] (fun i wr => ∃ k : Nat, k ≤ limits.length ∧ i = .int .i64 k ∧ AtB B B (textB ⟨mid, opened, .slice A1 case_.length p1, case_, proc, stage, .slice A2 moved.length p2, moved, .slice A3 rights.length p3, rights, .slice A4 limits.length p4, limits⟩ ++ (rights.flatMap rightL ++ (limits.take k).flatMap limitL)) wr ∧ Below B w1 wr) (fun i _ => limits.length - (intOf i).toNat)
        case atStart => exact ⟨0, Nat.zero_le _, rfl, by simpa using HAT.out, HBR.out⟩
        case round =>
          obtain ⟨k, hk, rfl, hat, hbr⟩ := hrel
          by_cases hlt : k < limits.length
          · obtain ⟨⟨_, _, hv, _, hc⟩, _, hst⟩ := (HR.out _ hbr).li
            simp only [Value.slice.injEq] at hv
            obtain ⟨rfl, _, rfl⟩ := hv
            rcases hc with hc | ⟨q, off, rfl, hq, hc⟩
            · simp only at hc; omega
            have d0 : wr.cell? ⟨q, off + k * 5, none⟩ = some (.string (limits.getD k lim0).id) := by simpa using hc k hlt 0 _ rfl
            have d1 : wr.cell? ⟨q, off + k * 5 + 1, none⟩ = some (.int .i64 (limits.getD k lim0).N) := by simpa using hc k hlt 1 _ rfl
            have d2 : wr.cell? ⟨q, off + k * 5 + 2, none⟩ = some (.int .i64 (limits.getD k lim0).U) := by simpa using hc k hlt 2 _ rfl
            have d3 : wr.cell? ⟨q, off + k * 5 + 3, none⟩ = some (.int .i64 (limits.getD k lim0).f) := by simpa using hc k hlt 3 _ rfl
            have d4 : wr.cell? ⟨q, off + k * 5 + 4, none⟩ = some ((limits.getD k lim0).sv) := by simpa using hc k hlt 4 _ rfl
            have hmem := getD_mem limits lim0 hlt
            have htk := flat_take limitL limits lim0 k hlt
            have hlk := limits_len HFM.out k
            have hlr := rights_len HFM.out rights.length
            rw [List.take_length] at hlr
            have hlx := limB_iff.1 (HFM.out.li (limits.getD k lim0) hmem)
            have hrp := hst (limits.getD k lim0) hmem
            obtain ⟨x, hx⟩ : ∃ x, x = limits.getD k lim0 := ⟨_, rfl⟩
            rw [← hx] at d0 d1 d2 d3 d4 htk hlx hrp
            obtain ⟨SA, SC, hsv, _, hsc⟩ := id hrp
            obtain ⟨n, N, U, f, sv, stops⟩ := x
            simp only at d0 d1 d2 d3 d4 hlk hlr hsv hsc hrp
            subst hsv
            have hns : n.size ≤ 24 := name_size hlx.id
            have g1 : ¬ 9223372036854775807 < 6 + n.size := by omega
            have hBr : B < wr.heap.size := by obtain ⟨_, v, h1, _⟩ := hat; exact (Array.getElem?_eq_some_iff.1 h1).1
            have hslen : stops.length ≤ 60 := hlx.sl
            have hnlen := limNs_len ⟨n, N, U, f, .slice SA stops.length SC, stops⟩
            have HNS := Lib.hid hlx.ns
            have HTK := Lib.hid htk
            have HX := Lib.hid hx
            have HBR := Lib.hid hbr
            have HAT := Lib.hid hat
            have HSC := Lib.hid hsc
            clear htk hx hc hmem hlx hst hrp hat hbr hsc
            obtain ⟨wo, hwo⟩ : ∃ x, x = wr := ⟨_, rfl⟩
            subst hwo
            obtain ⟨i0, hi, hz0, hz1, hz2⟩ := info_parts infoI
            have bWI : Below wo.heap.size wo ((wo.alloc (.cells #[.string n, .int .i64 N, .int .i64 U, .int .i64 f, .slice SA stops.length SC] 65)).alloc (.cells #[.int .i64 N, .int .i64 U, .int .i64 f] 3)) := ((Below.refl _ _).alloc (Nat.le_refl _) _).alloc (by simp) _
            have hrow : ((wo.alloc (.cells #[.string n, .int .i64 N, .int .i64 U, .int .i64 f, .slice SA stops.length SC] 65)).alloc (.cells #[.int .i64 N, .int .i64 U, .int .i64 f] 3)).ownsRow (wo.heap.size + 1) 3 1 (.slice (some ⟨wo.heap.size + 1, 0, none⟩) 3 3) 3 ([N, U, f].map (Value.int .i64)) := by
              refine ⟨rfl, .inr ⟨wo.heap.size + 1, 3, #[.int .i64 N, .int .i64 U, .int .i64 f], rfl, Nat.le_refl _, ?_, Nat.le_refl _, by decide, rfl, rfl⟩⟩
              have := Go.heap_alloc_new (wo.alloc (.cells #[.string n, .int .i64 N, .int .i64 U, .int .i64 f, .slice SA stops.length SC] 65)) (.cells #[.int .i64 N, .int .i64 U, .int .i64 f] 3)
              rw [World.size_alloc] at this
              exact this
            have hszI : wo.heap.size + 1 ≤ ((wo.alloc (.cells #[.string n, .int .i64 N, .int .i64 U, .int .i64 f, .slice SA stops.length SC] 65)).alloc (.cells #[.int .i64 N, .int .i64 U, .int .i64 f] 3)).heap.size := by simp
            have hk0 : ((wo.alloc (.cells #[.string n, .int .i64 N, .int .i64 U, .int .i64 f, .slice SA stops.length SC] 65)).alloc (.cells #[.int .i64 N, .int .i64 U, .int .i64 f] 3)).cell? ⟨wo.heap.size, 0, none⟩ = some (.string n) := by simp [go_sem]
            have BWI := Lib.hid bWI
            have HROW := Lib.hid hrow
            have HSZ := Lib.hid hszI
            have HK0 := Lib.hid hk0
            clear bWI hrow hszI hk0
            go_wp2
            go_loopw [10, 77] (fun l i wi => ∃ j : Nat, j ≤ stops.length ∧ i = .int .i64 j ∧ wi.ownsRow (wo.heap.size + 1) 3 1 l (3 + 2 * j) (([N, U, f] ++ (stops.take j).flatMap fun s => [s.1, s.2]).map (Value.int .i64)) ∧ Below (wo.heap.size + 1) ((wo.alloc (.cells #[.string n, .int .i64 N, .int .i64 U, .int .i64 f, .slice SA stops.length SC] 65)).alloc (.cells #[.int .i64 N, .int .i64 U, .int .i64 f] 3)) wi) (fun _ i _ => stops.length - (intOf i).toNat)
            case atStart => exact ⟨0, Nat.zero_le _, rfl, by simpa using HROW.out, Below.refl _ _⟩
            case round =>
              obtain ⟨j, hj, rfl, hown, hbi⟩ := hrel
              by_cases hjl : j < stops.length
              · have bT : Below wo.heap.size wo wr := BWI.out.trans (hbi.mono (Nat.le_succ _))
                rcases HSC.out with hsc | ⟨sb, so, rfl, hsb, hsc⟩
                · rw [hsc] at hjl; simp at hjl
                have hsbo : sb < wo.heap.size := Nat.lt_trans hsb hBr
                have q0 := (bT.cell (p := ⟨sb, so + j * 2, none⟩) hsbo).trans (hsc j hjl).1
                have q1 := (bT.cell (p := ⟨sb, so + j * 2 + 1, none⟩) hsbo).trans (hsc j hjl).2
                have htj := flat_take (fun s : Int × Int => [s.1, s.2]) stops (0, 0) j hjl
                obtain ⟨y, hy⟩ : ∃ y, y = stops.getD j (0, 0) := ⟨_, rfl⟩
                rw [← hy] at q0 q1 htj
                obtain ⟨a, b⟩ := y
                simp only at q0 q1 htj
                have HTJ := Lib.hid htj
                have HOWN := Lib.hid hown
                have HBI := Lib.hid hbi
                clear htj hy hsc hown hbi bT
                go_wp2_with (at_builtin; refine wpList_appN _ rfl (.tmp 81) (.tmp 86) 22 rfl (wo.heap.size + 1) 3 i0 (.int .i64 0) 1 8 Tryz.underlying22 hi hz0 hz1 hz2 rfl (by decide) _ (3 + 2 * j) 2 _ rfl ((HOWN.out.alloc _).alloc _) (wr.heap.size + 1) (by decide) rfl #[.int .i64 a, .int .i64 b] 3 (0, 0) rfl (by rw [← World.size_alloc wr]; exact Go.heap_alloc_new _ _) (fun u hu => by simp at hu; rcases hu with rfl | rfl <;> rfl) (by omega) (by decide) (by have := HBI.out.size; have := HSZ.out; simp at *; omega) ?_; intro g cap w5 hown5 b5)
                have hown6 : w5.ownsRow (wo.heap.size + 1) 3 1 (.slice (some ⟨g, 0, none⟩) (3 + 2 * (j + 1)) cap) (3 + 2 * (j + 1)) (([N, U, f] ++ (stops.take (j + 1)).flatMap fun s => [s.1, s.2]).map (Value.int .i64)) := by
                  rw [HTJ.out, show 3 + 2 * (j + 1) = 3 + 2 * j + 2 by omega]
                  simpa only [List.map_append, List.append_assoc, List.map_cons, List.map_nil] using hown5
                have b6 : Below (wo.heap.size + 1) ((wo.alloc (.cells #[.string n, .int .i64 N, .int .i64 U, .int .i64 f, .slice (some ⟨sb, so, none⟩) stops.length SC] 65)).alloc (.cells #[.int .i64 N, .int .i64 U, .int .i64 f] 3)) w5 := ((HBI.out.alloc (by have := HBI.out.size; have := HSZ.out; simp at *; omega) _).alloc (by have := HBI.out.size; have := HSZ.out; simp at *; omega) _).trans b5
                have HOWN6 := Lib.hid hown6
                have HB6 := Lib.hid b6
                clear hown5 b5 hown6 b6
                go_wp2
                go_roundw
                case rel => exact ⟨j + 1, by omega, by go_num, HOWN6.out, HB6.out⟩
                case measure => simp [intOf]; omega
              · obtain rfl : j = stops.length := by omega
                rw [List.take_length] at hown
                have bT : Below wo.heap.size wo wr := BWI.out.trans (hbi.mono (Nat.le_succ _))
                have k0 := (hbi.cell (p := ⟨wo.heap.size, 0, none⟩) (Nat.lt_succ_self _)).trans HK0.out
                have hl4 := HL.out wr _ (⟨#[108, 105, 109, 105, 116, 32]⟩ ++ n) u10 (limNs ⟨n, N, U, f, .slice SA stops.length SC, stops⟩) (HBR.out.trans (bT.mono (Nat.le_of_lt hBr))) (HAT.out.fresh bT) (by
                  have h6 : (⟨#[108, 105, 109, 105, 116, 32]⟩ : ByteArray).size = 6 := rfl
                  simp only [List.length_append, ByteArray.size_append, h6]
                  omega) (ri_row (by rw [hnlen]; exact hown) (Nat.lt_succ_of_lt hBr) (by rw [hnlen]; omega) (fun y hy => numB_wf (HNS.out y hy)))
                clear hown hbi bT
                go_wp2_with fail
                refine hl4.mono ?_
                rintro e w6 ⟨rfl, a6, b6⟩
                have A6 := Lib.hid a6
                have B6 := Lib.hid b6
                clear a6 b6 hl4 k0
                go_wp2
                go_roundw
                case rel =>
                  refine ⟨k + 1, by omega, by go_num, ?_, B6.out⟩
                  rw [HTK.out]
                  have := A6.out
                  simpa [limitL, sLimit, ByteArray.data_append] using this
                case measure => simp [intOf]; omega
          · obtain rfl : k = limits.length := by omega
            rw [List.take_length] at hat
            have hs := str_any B B _ _ hat.is (Nat.le_trans (Nat.le_of_eq HB.out) hbr.size)
            rw [HB.out] at hs
            have HBR := Lib.hid hbr
            clear hat hbr
            go_wp2_with fail
            refine hs.mono ?_
            rintro e w5 ⟨rfl, b5⟩
            have hbf : Below w.heap.size w w5 := bw.trans ((HBR.out.trans (HB.out ▸ b5)).mono (Nat.le_trans bw.size (Nat.le_of_eq HB.out.symm)))
            have HBF := Lib.hid hbf
            clear hs b5 hbf
            go_wp2
            go_ret2
            exact ⟨rfl, HBF.out⟩
end Go.Proofs.YtficjcomefaocaaGreatDoor
