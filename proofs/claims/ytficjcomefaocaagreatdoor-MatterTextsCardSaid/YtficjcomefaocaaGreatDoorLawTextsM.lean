/- LAW MatterTexts: its walk. -/
import Derived.Test.YtficjcomefaocaaGreatDoorHeadM
namespace Go.Proofs.YtficjcomefaocaaGreatDoor
open Go.RowKit Go.Maps
open Lexer

noncomputable def textS (m : Mat) : ByteArray := if formedB m = true then ⟨(textL m).toArray⟩ else ⟨#[]⟩
noncomputable def textE (m : Mat) : Int := if formedB m = true then 0 else 1
theorem text_any (m : Mat) (w : World) (h : MR w w.heap.size m) (hE : Env w.heap.size w) :
    Calls Tryz.prog 11 #[.agg m.cells] w fun e w' => e = .returned (.tuple #[.string (textS m), .int .i64 (textE m)]) ∧ Below w.heap.size w w' := by
  unfold textS textE
  cases hF : formedB m with
  | false => exact text_no m w h hF
  | true => exact text_yes m w h hF hE
theorem textS_size {m : Mat} (h : formedB m = true) : (textS m).size ≤ 200000 := by
  unfold textS
  rw [if_pos h, Lib.size_eq]
  simpa using textL_len (formed_fm h)
theorem textS_data {m : Mat} (h : formedB m = true) : (textS m).data.toList = textL m := by unfold textS; rw [if_pos h]
theorem textS_ok {m : Mat} (h : formedB m = true) : okP (textS m) := (okP_iff _).2 ⟨m, h, (textS_data h).symm⟩
theorem textS_back {m b : Mat} (h : formedB m = true) (hb : b.norm = (loose (textS m)).2) : sameB b m = true := by
  unfold sameB
  rw [loose_text (formed_fm h) (textS_data h)] at hb
  simpa using hb
theorem textS_same {m n : Mat} (hm : formedB m = true) (hn : formedB n = true) : sameB m n = true ↔ textS m = textS n := by
  have e : sameB m n = true ↔ m.norm = n.norm := by unfold sameB; simp
  rw [e]
  constructor
  · intro h
    have : textL m = textL n := by rw [← textL_norm m, h, textL_norm]
    unfold textS
    rw [if_pos hm, if_pos hn, this]
  · intro h
    have : textL m = textL n := by rw [← textS_data hm, h, textS_data hn]
    exact textL_inj hm hn this
theorem parsed_formed {x : Mat} {text : ByteArray} (hok : okP text) (hn : x.norm = (loose text).2) : formedB x = true ∧ textS x = text := by
  have h1 : formedB x = true := by rw [← formedB_norm, hn]; exact hok.2.1
  refine ⟨h1, ?_⟩
  have h2 : textL x = text.data.toList := by rw [← textL_norm, hn]; exact hok.2.2
  unfold textS
  rw [if_pos h1, h2]
theorem same_zero : sameB zeroM zeroM = true := by unfold sameB; simp

set_option maxHeartbeats 16000000 in
set_option maxRecDepth 100000 in
theorem texts_law (m n : Mat) (text : ByteArray) (w : World) (hE : Env w.heap.size w) (hm : MR w w.heap.size m) (hn : MR w w.heap.size n) (ht : text.size ≤ 140737488355328) :
    Calls Tryz.prog 4 #[.agg m.cells, .agg n.cells, .string text] w fun e w' => e = .returned (.bool true) ∧ Below w.heap.size w w' := by
  have b0 := (Below.refl w.heap.size w).alloc (Nat.le_refl _) (.cells m.cells 27)
  have b0' := (Below.refl (w.alloc (.cells m.cells 27)).heap.size (w.alloc (.cells m.cells 27))).alloc (Nat.le_refl _) (.cells n.cells 27)
  have hh := (Held.new hm).go b0'
  have hk := Held.new (hn.go b0)
  have b1 := b0.trans (b0'.mono b0.size)
  have hh1 := head_any _ ((hE.on b1).more b1.size)
  rw [World.size_alloc] at hk
  obtain ⟨A1, c1, A2, c2, A3, c3, A4, c4, g1, g2, g3, g4⟩ := mat_form hm
  obtain ⟨D1, d1, D2, d2, D3, d3, D4, d4, f1, f2, f3, f4⟩ := mat_form hn
  obtain ⟨F1, hF1⟩ : ∃ F, F = formedB m := ⟨_, rfl⟩
  obtain ⟨F2, hF2⟩ : ∃ F, F = formedB n := ⟨_, rfl⟩
  obtain ⟨S1, hS1⟩ : ∃ F, F = textS m := ⟨_, rfl⟩
  obtain ⟨S2, hS2⟩ : ∃ F, F = textS n := ⟨_, rfl⟩
  obtain ⟨SM, hSM⟩ : ∃ F, F = sameB m n := ⟨_, rfl⟩
  have hsz : F1 = true → S1.size ≤ 1000000 := fun h => by rw [hS1]; exact Nat.le_trans (textS_size (hF1.symm.trans h)) (by decide)
  have hok : F1 = true → okP S1 := fun h => by rw [hS1]; exact textS_ok (hF1.symm.trans h)
  have hbk : F1 = true → ∀ b : Mat, b.norm = (loose S1).2 → sameB b m = true := fun h b hb => textS_back (hF1.symm.trans h) (by rw [← hS1]; exact hb)
  have hsm : F1 = true → F2 = true → (SM = true ↔ S1 = S2) := fun h k => by rw [hSM, hS1, hS2]; exact textS_same (hF1.symm.trans h) (hF2.symm.trans k)
  have htm : ∀ w', MR w' w'.heap.size m → Env w'.heap.size w' → Calls Tryz.prog 11 #[.agg m.cells] w' fun e w'' => e = .returned (.tuple #[.string S1, .int .i64 (if F1 = true then 0 else 1)]) ∧ Below w'.heap.size w' w'' := fun w' h1 h2 => by rw [hS1, hF1]; exact text_any m w' h1 h2
  have htn : ∀ w', MR w' w'.heap.size n → Env w'.heap.size w' → Calls Tryz.prog 11 #[.agg n.cells] w' fun e w'' => e = .returned (.tuple #[.string S2, .int .i64 (if F2 = true then 0 else 1)]) ∧ Below w'.heap.size w' w'' := fun w' h1 h2 => by rw [hS2, hF2]; exact text_any n w' h1 h2
  have hcs : ∀ w', MR w' w'.heap.size m → MR w' w'.heap.size n → Calls Tryz.prog 15 #[.agg m.cells, .agg n.cells] w' fun e w'' => e = .returned (.bool SM) ∧ Below w'.heap.size w' w'' := fun w' h1 h2 => by rw [hSM]; exact same_any m n w' h1 h2
  have HE := Lib.hid hE
  have HH := Lib.hid hh
  have HK := Lib.hid hk
  have H1 := Lib.hid hh1
  have B0 := Lib.hid b1
  have HSZ := Lib.hid hsz
  have HOK := Lib.hid hok
  have HBK := Lib.hid hbk
  have HSM := Lib.hid hsm
  have HTM := Lib.hid htm
  have HTN := Lib.hid htn
  have HCS := Lib.hid hcs
  clear hE hm hn hh hk hh1 b0 b0' b1 hF1 hF2 hS1 hS2 hSM hsz hok hbk hsm htm htn hcs
  obtain ⟨i, o, cv, cs, pr, st, mv, mo, rv, ri, lv, li⟩ := m
  obtain ⟨i2, o2, cv2, cs2, pr2, st2, mv2, mo2, rv2, ri2, lv2, li2⟩ := n
  simp only at g1 g2 g3 g4 f1 f2 f3 f4
  subst g1 g2 g3 g4 f1 f2 f3 f4
  simp only [Mat.cells] at HH HK H1 B0 HTM HTN HCS ⊢
  go_enter Tryz.func4, Tryz.ntmps4
  go_wp2_with fail
  refine H1.out.mono ?_
  rintro e w1 ⟨rfl, b1⟩
  have hq := HH.out.go b1
  have hr := HK.out.go b1
  have bw1 := B0.out.trans (b1.mono B0.out.size)
  obtain ⟨z0, z1, z2, z3, z4, z5, z6, z7⟩ := hq.box
  simp only at z0 z1 z2 z3 z4 z5 z6 z7
  have hf := few_any _ w1 hq.mr
  have HQ := Lib.hid hq
  have HR := Lib.hid hr
  have BW1 := Lib.hid bw1
  have HF := Lib.hid hf
  clear hq hr bw1 b1 hf HH HK H1 B0
  go_wp2_with fail
  refine HF.out.mono ?_
  rintro e w2 ⟨⟨fb, rfl⟩, b2⟩
  have hq := HQ.out.go b2
  have hr := HR.out.go b2
  have bw2 := BW1.out.trans (b2.mono BW1.out.size)
  have HQ2 := Lib.hid hq
  have HR2 := Lib.hid hr
  have BW2 := Lib.hid bw2
  clear z0 z1 z2 z3 z4 z5 z6 z7 bw2 b2 HF HQ HR
  obtain ⟨z0, z1, z2, z3, z4, z5, z6, z7⟩ := hr.box
  simp only at z0 z1 z2 z3 z4 z5 z6 z7
  clear hq hr
  cases fb with
  | false =>
    go_wp2
    go_ret
    exact ⟨rfl, BW2.out⟩
  | true =>
    have hf := few_any _ w2 HR2.out.mr
    have HF := Lib.hid hf
    clear hf
    go_wp2_with fail
    refine HF.out.mono ?_
    rintro e w3 ⟨⟨fb2, rfl⟩, b3⟩
    have hq := HQ2.out.go b3
    have hr := HR2.out.go b3
    have bw3 := BW2.out.trans (b3.mono BW2.out.size)
    have HQ3 := Lib.hid hq
    have HR3 := Lib.hid hr
    have BW3 := Lib.hid bw3
    clear z0 z1 z2 z3 z4 z5 z6 z7 bw3 b3 HF HQ2 HR2
    obtain ⟨z0, z1, z2, z3, z4, z5, z6, z7⟩ := hq.box
    simp only at z0 z1 z2 z3 z4 z5 z6 z7
    clear hq hr
    cases fb2 with
    | false =>
      go_wp2
      go_ret
      exact ⟨rfl, BW3.out⟩
    | true =>
      by_cases h60 : 6000 < text.size
      · have hd : decide ((6000 : Int) < (text.size : Int)) = true := decide_eq_true (by omega)
        clear h60
        go_wp2
        go_ret
        exact ⟨rfl, BW3.out⟩
      · have hd : decide ((6000 : Int) < (text.size : Int)) = false := decide_eq_false (by omega)
        have HSZT := Lib.hid (show text.size ≤ 1000000 by omega)
        clear h60
        go_wp2_with fail
        refine (HTM.out w3 HQ3.out.mr ((HE.out.on BW3.out).more BW3.out.size)).mono ?_
        rintro e w4 ⟨rfl, b4⟩
        have hq := HQ3.out.go b4
        have hr := HR3.out.go b4
        have bw4 := BW3.out.trans (b4.mono BW3.out.size)
        have HQ4 := Lib.hid hq
        have HR4 := Lib.hid hr
        have BW4 := Lib.hid bw4
        clear z0 z1 z2 z3 z4 z5 z6 z7 bw4 b4 HQ3 HR3
        obtain ⟨z0, z1, z2, z3, z4, z5, z6, z7⟩ := hr.box
        simp only at z0 z1 z2 z3 z4 z5 z6 z7
        clear hq hr
        cases F1 with
        | false =>
          simp only [Bool.false_eq_true, if_false]
          go_wp2_with fail
          refine (HTN.out w4 HR4.out.mr ((HE.out.on BW4.out).more BW4.out.size)).mono ?_
          rintro e w5 ⟨rfl, b5⟩
          have hq := HQ4.out.go b5
          have hr := HR4.out.go b5
          have bw5 := BW4.out.trans (b5.mono BW4.out.size)
          have HQ5 := Lib.hid hq
          have HR5 := Lib.hid hr
          have BW5 := Lib.hid bw5
          clear z0 z1 z2 z3 z4 z5 z6 z7 bw5 b5 HQ4 HR4 hq hr
          cases F2 with
          | false =>
            simp only [Bool.false_eq_true, if_false]
            obtain ⟨wz, rfl⟩ : ∃ x, x = w5 := ⟨w5, rfl⟩
            have BWZ := BW5
            go_wp2_with fail
            refine (parse_any text wz HSZT.out ((HE.out.on BWZ.out).more BWZ.out.size)).mono ?_
            rintro e w9 ⟨hP, b9⟩
            have bw9 := BWZ.out.trans (b9.mono BWZ.out.size)
            have BW9 := Lib.hid bw9
            clear b9 bw9
            rcases hP with ⟨x, hok, hnm, rfl, hmx⟩ | ⟨_, rfl⟩
            · obtain ⟨hfx, htx⟩ := parsed_formed hok hnm
              have hnx := Held.new hmx
              have bwa := BW9.out.alloc BW9.out.size (.cells x.cells 27)
              have htc := text_any x _ hnx.mr ((HE.out.on bwa).more bwa.size)
              rw [htx, show textE x = 0 by unfold textE; rw [if_pos hfx]] at htc
              obtain ⟨E1, e1, E2, e2, E3, e3, E4, e4, g1, g2, g3, g4⟩ := mat_form hmx
              obtain ⟨bi, bo, bcv, bcs, bpr, bst, bmv, bmo, brv, bri, blv, bli⟩ := x
              simp only at g1 g2 g3 g4
              subst g1 g2 g3 g4
              have HTC := Lib.hid htc
              have BWA := Lib.hid bwa
              clear hok hnm hmx hfx htx hnx bwa htc
              dsimp only [Mat.cells] at HTC BWA ⊢
              go_wp2_with fail
              refine HTC.out.mono ?_
              rintro e w10 ⟨rfl, b10⟩
              have BW10 := Lib.hid (BWA.out.trans (b10.mono BWA.out.size))
              have hte : (text.toList == text.toList) = true := str_eq rfl
              clear b10
              go_wp2
              go_ret
              exact ⟨rfl, BW10.out⟩
            · have hnx := Held.new (zeroMR w9 w9.heap.size)
              have bwa := BW9.out.alloc BW9.out.size (.cells zeroM.cells 27)
              have hsc := same_any zeroM zeroM _ hnx.mr hnx.mr
              rw [same_zero] at hsc
              have HSC := Lib.hid hsc
              have BWA := Lib.hid bwa
              clear hnx bwa hsc
              dsimp only [Mat.cells, zeroM] at HSC BWA ⊢
              go_wp2_with fail
              refine HSC.out.mono ?_
              rintro e w10 ⟨rfl, b10⟩
              have BW10 := Lib.hid (BWA.out.trans (b10.mono BWA.out.size))
              clear b10
              go_wp2
              go_ret
              exact ⟨rfl, BW10.out⟩
          | true =>
            simp only [if_true]
            obtain ⟨wz, rfl⟩ : ∃ x, x = w5 := ⟨w5, rfl⟩
            have BWZ := BW5
            go_wp2_with fail
            refine (parse_any text wz HSZT.out ((HE.out.on BWZ.out).more BWZ.out.size)).mono ?_
            rintro e w9 ⟨hP, b9⟩
            have bw9 := BWZ.out.trans (b9.mono BWZ.out.size)
            have BW9 := Lib.hid bw9
            clear b9 bw9
            rcases hP with ⟨x, hok, hnm, rfl, hmx⟩ | ⟨_, rfl⟩
            · obtain ⟨hfx, htx⟩ := parsed_formed hok hnm
              have hnx := Held.new hmx
              have bwa := BW9.out.alloc BW9.out.size (.cells x.cells 27)
              have htc := text_any x _ hnx.mr ((HE.out.on bwa).more bwa.size)
              rw [htx, show textE x = 0 by unfold textE; rw [if_pos hfx]] at htc
              obtain ⟨E1, e1, E2, e2, E3, e3, E4, e4, g1, g2, g3, g4⟩ := mat_form hmx
              obtain ⟨bi, bo, bcv, bcs, bpr, bst, bmv, bmo, brv, bri, blv, bli⟩ := x
              simp only at g1 g2 g3 g4
              subst g1 g2 g3 g4
              have HTC := Lib.hid htc
              have BWA := Lib.hid bwa
              clear hok hnm hmx hfx htx hnx bwa htc
              dsimp only [Mat.cells] at HTC BWA ⊢
              go_wp2_with fail
              refine HTC.out.mono ?_
              rintro e w10 ⟨rfl, b10⟩
              have BW10 := Lib.hid (BWA.out.trans (b10.mono BWA.out.size))
              have hte : (text.toList == text.toList) = true := str_eq rfl
              clear b10
              go_wp2
              go_ret
              exact ⟨rfl, BW10.out⟩
            · have hnx := Held.new (zeroMR w9 w9.heap.size)
              have bwa := BW9.out.alloc BW9.out.size (.cells zeroM.cells 27)
              have hsc := same_any zeroM zeroM _ hnx.mr hnx.mr
              rw [same_zero] at hsc
              have HSC := Lib.hid hsc
              have BWA := Lib.hid bwa
              clear hnx bwa hsc
              dsimp only [Mat.cells, zeroM] at HSC BWA ⊢
              go_wp2_with fail
              refine HSC.out.mono ?_
              rintro e w10 ⟨rfl, b10⟩
              have BW10 := Lib.hid (BWA.out.trans (b10.mono BWA.out.size))
              clear b10
              go_wp2
              go_ret
              exact ⟨rfl, BW10.out⟩
        | true =>
          simp only [if_true]
          go_wp2_with fail
          refine (HTN.out w4 HR4.out.mr ((HE.out.on BW4.out).more BW4.out.size)).mono ?_
          rintro e w5 ⟨rfl, b5⟩
          have hq := HQ4.out.go b5
          have hr := HR4.out.go b5
          have bw5 := BW4.out.trans (b5.mono BW4.out.size)
          have HQ5 := Lib.hid hq
          have HR5 := Lib.hid hr
          have BW5 := Lib.hid bw5
          clear z0 z1 z2 z3 z4 z5 z6 z7 bw5 b5 HQ4 HR4 hq hr
          cases F2 with
          | false =>
            simp only [Bool.false_eq_true, if_false]
            go_wp2_with fail
            refine (parse_any S1 w5 (HSZ.out (by trivial)) ((HE.out.on BW5.out).more BW5.out.size)).mono ?_
            rintro e w6 ⟨hP, b6⟩
            obtain ⟨bk, _, hnm, rfl, hmb⟩ := hP.resolve_right (fun h => h.1 (HOK.out (by trivial)))
            clear hP
            have hs := HBK.out (by trivial) bk hnm
            have hnb := Held.new hmb
            have b6a := b6.alloc b6.size (.cells bk.cells 27)
            have hq := HQ5.out.go b6a
            have hr := HR5.out.go b6a
            have bw6 := BW5.out.trans (b6a.mono BW5.out.size)
            have hsc := same_any bk _ _ hnb.mr hq.mr
            rw [hs] at hsc
            obtain ⟨z0, z1, z2, z3, z4, z5, z6, z7⟩ := (HQ5.out.go b6).box
            simp only at z0 z1 z2 z3 z4 z5 z6 z7
            have hl6 : w.heap.size < w6.heap.size := (HQ5.out.go b6).lt
            have hn6 : w6.heap.size ≠ w.heap.size := Nat.ne_of_gt hl6
            obtain ⟨E1, e1, E2, e2, E3, e3, E4, e4, g1, g2, g3, g4⟩ := mat_form hmb
            obtain ⟨bi, bo, bcv, bcs, bpr, bst, bmv, bmo, brv, bri, blv, bli⟩ := bk
            simp only at g1 g2 g3 g4
            subst g1 g2 g3 g4
            have HSC := Lib.hid hsc
            have HQ6 := Lib.hid hq
            have HR6 := Lib.hid hr
            have BW6 := Lib.hid bw6
            clear hnm hmb hs hnb b6a b6 hq hr bw6 hsc HQ5 HR5
            dsimp only [Mat.cells] at HSC HQ6 HR6 BW6 ⊢
            go_wp2_with fail
            refine HSC.out.mono ?_
            rintro e w7 ⟨rfl, b7⟩
            have hq := HQ6.out.go b7
            have hr := HR6.out.go b7
            have bw7 := BW6.out.trans (b7.mono BW6.out.size)
            have HQ7 := Lib.hid hq
            have HR7 := Lib.hid hr
            have BW7 := Lib.hid bw7
            clear z0 z1 z2 z3 z4 z5 z6 z7 b7 bw7 HSC
            obtain ⟨z0, z1, z2, z3, z4, z5, z6, z7⟩ := hq.box
            simp only at z0 z1 z2 z3 z4 z5 z6 z7
            obtain ⟨y0, y1, y2, y3, y4, y5, y6, y7⟩ := hr.box
            simp only at y0 y1 y2 y3 y4 y5 y6 y7
            clear hq hr
            clear z0 z1 z2 z3 z4 z5 z6 z7 y0 y1 y2 y3 y4 y5 y6 y7 HQ7 HR7
            obtain ⟨wz, rfl⟩ : ∃ x, x = w7 := ⟨w7, rfl⟩
            have BWZ := BW7
            go_wp2_with fail
            refine (parse_any text wz HSZT.out ((HE.out.on BWZ.out).more BWZ.out.size)).mono ?_
            rintro e w9 ⟨hP, b9⟩
            have bw9 := BWZ.out.trans (b9.mono BWZ.out.size)
            have BW9 := Lib.hid bw9
            clear b9 bw9
            rcases hP with ⟨x, hok, hnm, rfl, hmx⟩ | ⟨_, rfl⟩
            · obtain ⟨hfx, htx⟩ := parsed_formed hok hnm
              have hnx := Held.new hmx
              have bwa := BW9.out.alloc BW9.out.size (.cells x.cells 27)
              have htc := text_any x _ hnx.mr ((HE.out.on bwa).more bwa.size)
              rw [htx, show textE x = 0 by unfold textE; rw [if_pos hfx]] at htc
              obtain ⟨E1, e1, E2, e2, E3, e3, E4, e4, g1, g2, g3, g4⟩ := mat_form hmx
              obtain ⟨bi, bo, bcv, bcs, bpr, bst, bmv, bmo, brv, bri, blv, bli⟩ := x
              simp only at g1 g2 g3 g4
              subst g1 g2 g3 g4
              have HTC := Lib.hid htc
              have BWA := Lib.hid bwa
              clear hok hnm hmx hfx htx hnx bwa htc
              dsimp only [Mat.cells] at HTC BWA ⊢
              go_wp2_with fail
              refine HTC.out.mono ?_
              rintro e w10 ⟨rfl, b10⟩
              have BW10 := Lib.hid (BWA.out.trans (b10.mono BWA.out.size))
              have hte : (text.toList == text.toList) = true := str_eq rfl
              clear b10
              go_wp2
              go_ret
              exact ⟨rfl, BW10.out⟩
            · have hnx := Held.new (zeroMR w9 w9.heap.size)
              have bwa := BW9.out.alloc BW9.out.size (.cells zeroM.cells 27)
              have hsc := same_any zeroM zeroM _ hnx.mr hnx.mr
              rw [same_zero] at hsc
              have HSC := Lib.hid hsc
              have BWA := Lib.hid bwa
              clear hnx bwa hsc
              dsimp only [Mat.cells, zeroM] at HSC BWA ⊢
              go_wp2_with fail
              refine HSC.out.mono ?_
              rintro e w10 ⟨rfl, b10⟩
              have BW10 := Lib.hid (BWA.out.trans (b10.mono BWA.out.size))
              clear b10
              go_wp2
              go_ret
              exact ⟨rfl, BW10.out⟩
          | true =>
            simp only [if_true]
            go_wp2_with fail
            refine (parse_any S1 w5 (HSZ.out (by trivial)) ((HE.out.on BW5.out).more BW5.out.size)).mono ?_
            rintro e w6 ⟨hP, b6⟩
            obtain ⟨bk, _, hnm, rfl, hmb⟩ := hP.resolve_right (fun h => h.1 (HOK.out (by trivial)))
            clear hP
            have hs := HBK.out (by trivial) bk hnm
            have hnb := Held.new hmb
            have b6a := b6.alloc b6.size (.cells bk.cells 27)
            have hq := HQ5.out.go b6a
            have hr := HR5.out.go b6a
            have bw6 := BW5.out.trans (b6a.mono BW5.out.size)
            have hsc := same_any bk _ _ hnb.mr hq.mr
            rw [hs] at hsc
            obtain ⟨z0, z1, z2, z3, z4, z5, z6, z7⟩ := (HQ5.out.go b6).box
            simp only at z0 z1 z2 z3 z4 z5 z6 z7
            have hl6 : w.heap.size < w6.heap.size := (HQ5.out.go b6).lt
            have hn6 : w6.heap.size ≠ w.heap.size := Nat.ne_of_gt hl6
            obtain ⟨E1, e1, E2, e2, E3, e3, E4, e4, g1, g2, g3, g4⟩ := mat_form hmb
            obtain ⟨bi, bo, bcv, bcs, bpr, bst, bmv, bmo, brv, bri, blv, bli⟩ := bk
            simp only at g1 g2 g3 g4
            subst g1 g2 g3 g4
            have HSC := Lib.hid hsc
            have HQ6 := Lib.hid hq
            have HR6 := Lib.hid hr
            have BW6 := Lib.hid bw6
            clear hnm hmb hs hnb b6a b6 hq hr bw6 hsc HQ5 HR5
            dsimp only [Mat.cells] at HSC HQ6 HR6 BW6 ⊢
            go_wp2_with fail
            refine HSC.out.mono ?_
            rintro e w7 ⟨rfl, b7⟩
            have hq := HQ6.out.go b7
            have hr := HR6.out.go b7
            have bw7 := BW6.out.trans (b7.mono BW6.out.size)
            have HQ7 := Lib.hid hq
            have HR7 := Lib.hid hr
            have BW7 := Lib.hid bw7
            clear z0 z1 z2 z3 z4 z5 z6 z7 b7 bw7 HSC
            obtain ⟨z0, z1, z2, z3, z4, z5, z6, z7⟩ := hq.box
            simp only at z0 z1 z2 z3 z4 z5 z6 z7
            obtain ⟨y0, y1, y2, y3, y4, y5, y6, y7⟩ := hr.box
            simp only at y0 y1 y2 y3 y4 y5 y6 y7
            clear hq hr
            go_wp2_with fail
            refine (HCS.out w7 HQ7.out.mr HR7.out.mr).mono ?_
            rintro e w8 ⟨rfl, b8⟩
            have BWZ := Lib.hid (BW7.out.trans (b8.mono BW7.out.size))
            have hiff := HSM.out (by trivial) (by trivial)
            have hse : (S1.toList == S2.toList) = SM := by
              by_cases he : S1 = S2
              · rw [hiff.2 he]; exact str_eq he
              · rw [str_ne he]
                cases hS : SM with
                | false => rfl
                | true => exact absurd (hiff.1 hS) he
            clear z0 z1 z2 z3 z4 z5 z6 z7 y0 y1 y2 y3 y4 y5 y6 y7 b8 hiff HQ7 HR7
            obtain ⟨wz, rfl⟩ : ∃ x, x = w8 := ⟨w8, rfl⟩
            go_wp2_with fail
            refine (parse_any text wz HSZT.out ((HE.out.on BWZ.out).more BWZ.out.size)).mono ?_
            rintro e w9 ⟨hP, b9⟩
            have bw9 := BWZ.out.trans (b9.mono BWZ.out.size)
            have BW9 := Lib.hid bw9
            clear b9 bw9
            rcases hP with ⟨x, hok, hnm, rfl, hmx⟩ | ⟨_, rfl⟩
            · obtain ⟨hfx, htx⟩ := parsed_formed hok hnm
              have hnx := Held.new hmx
              have bwa := BW9.out.alloc BW9.out.size (.cells x.cells 27)
              have htc := text_any x _ hnx.mr ((HE.out.on bwa).more bwa.size)
              rw [htx, show textE x = 0 by unfold textE; rw [if_pos hfx]] at htc
              obtain ⟨E1, e1, E2, e2, E3, e3, E4, e4, g1, g2, g3, g4⟩ := mat_form hmx
              obtain ⟨bi, bo, bcv, bcs, bpr, bst, bmv, bmo, brv, bri, blv, bli⟩ := x
              simp only at g1 g2 g3 g4
              subst g1 g2 g3 g4
              have HTC := Lib.hid htc
              have BWA := Lib.hid bwa
              clear hok hnm hmx hfx htx hnx bwa htc
              dsimp only [Mat.cells] at HTC BWA ⊢
              go_wp2_with fail
              refine HTC.out.mono ?_
              rintro e w10 ⟨rfl, b10⟩
              have BW10 := Lib.hid (BWA.out.trans (b10.mono BWA.out.size))
              have hte : (text.toList == text.toList) = true := str_eq rfl
              clear b10
              go_wp2
              go_ret
              exact ⟨rfl, BW10.out⟩
            · have hnx := Held.new (zeroMR w9 w9.heap.size)
              have bwa := BW9.out.alloc BW9.out.size (.cells zeroM.cells 27)
              have hsc := same_any zeroM zeroM _ hnx.mr hnx.mr
              rw [same_zero] at hsc
              have HSC := Lib.hid hsc
              have BWA := Lib.hid bwa
              clear hnx bwa hsc
              dsimp only [Mat.cells, zeroM] at HSC BWA ⊢
              go_wp2_with fail
              refine HSC.out.mono ?_
              rintro e w10 ⟨rfl, b10⟩
              have BW10 := Lib.hid (BWA.out.trans (b10.mono BWA.out.size))
              clear b10
              go_wp2
              go_ret
              exact ⟨rfl, BW10.out⟩
end Go.Proofs.YtficjcomefaocaaGreatDoor
