/- WALK of matter.Text's closure 'line'. -/
import Derived.Test.YtficjcomefaocaaGreatDoorProper
import Derived.Test.YtficjcomefaocaaGreatDoorShelfS
import Derived.Shelf.Strings.BuilderK
import Derived.Shelf.Strings.BuilderF
import Derived.Lib.AppendIntMem
import Derived.Lib.ItoaLen
namespace Go.Proofs.YtficjcomefaocaaGreatDoor
open Go.RowKit Go.Maps
open Lexer

/-- what the library's variables hold, whatever lies from B on -/
def Env (B : Nat) (w : World) : Prop := ∀ w', Below B w w' → Lib.TabIs Tryz.prog w' "internal/strconv.uint64pow10" .u64 Lib.pow10Tab ∧ (∃ m, w'.cell? ⟨1, 0, none⟩ = some (.int .i64 m)) ∧
  (∃ ev, w'.cell? ⟨2, 0, none⟩ = some ev ∧ (ev = .nilIface ∨ ∃ te pe, ev = .iface te pe)) ∧ (∃ ev, w'.cell? ⟨3, 0, none⟩ = some ev ∧ (ev = .nilIface ∨ ∃ te pe, ev = .iface te pe))
theorem Env.on {B : Nat} {w w' : World} (h : Env B w) (hb : Below B w w') : Env B w' := fun w2 h2 => h w2 (hb.trans h2)
theorem Env.more {B B' : Nat} {w : World} (h : Env B w) (hB : B ≤ B') : Env B' w := fun w2 h2 => h w2 (h2.mono hB)
theorem Env.go {w w' : World} (h : Env w.heap.size w) (hb : Below w.heap.size w w') : Env w'.heap.size w' := (h.on hb).more hb.size

abbrev IsB (B b : Nat) (l : List UInt8) (w : World) : Prop := Lib.IsBuilderF 68 5 B b (Lib.byteCells l) w
abbrev AtB (B b : Nat) (l : List UInt8) (w : World) : Prop := Lib.BuilderAtF 68 5 B b (.pointer (some ⟨b, 0, none⟩)) (Lib.byteCells l) w
/-- what a write into the builder leaves -/
structure Kept (B b : Nat) (w w' : World) : Prop where
  bel : Below B w w'
  oth : Lib.OthersKept 5 (some b) w w'
theorem Kept.refl (B b : Nat) (w : World) : Kept B b w w := ⟨Below.refl _ _, Lib.OthersKept.refl _ _ _⟩
theorem Kept.trans {B b : Nat} {w w1 w2 : World} (h : Kept B b w w1) (k : Kept B b w1 w2) : Kept B b w w2 := ⟨h.bel.trans k.bel, h.oth.trans k.oth⟩
theorem Kept.of_below {B b : Nat} {w w' : World} (h : Below w.heap.size w w') (hB : B ≤ w.heap.size) : Kept B b w w' := ⟨h.mono hB, fun k o hk _ _ => by
  have hlt : k < w.heap.size := (Array.getElem?_eq_some_iff.1 hk).1
  rw [h.block k hlt]; exact hk⟩
theorem AtB.is {B b : Nat} {l : List UInt8} {w : World} (h : AtB B b l w) : IsB B b l w := .inr h
theorem AtB.fresh {B b : Nat} {l : List UInt8} {w w' : World} (h : AtB B b l w) (hb : Below w.heap.size w w') : AtB B b l w' := by
  obtain ⟨hB, v, h1, h2, h3⟩ := h
  have hlt : b < w.heap.size := (Array.getElem?_eq_some_iff.1 h1).1
  refine ⟨hB, v, by rw [hb.block b hlt]; exact h1, ?_, h3⟩
  exact h2.kept (row := none) ⟨hb.os, hb.tape, hb.output, hb.size, fun k hk _ => hb.block k hk⟩ (by cases hv : v.ownBlock <;> simp)

theorem wf_b {n : Int} (h : (Lit.int .i64 n).wf = true) : -9223372036854775808 ≤ n ∧ n ≤ 9223372036854775807 := by
  simp only [Lit.wf, Bool.and_eq_true, decide_eq_true_eq] at h; exact h
theorem grow_below (w : World) (k : Nat) (os : Array Obj) : Below w.heap.size w (Sort.grow (w.drewN k) os) := by
  refine ⟨rfl, rfl, rfl, ?_, fun i hi => ?_⟩
  · simp [Sort.grow]
  · show (w.heap ++ os)[i]? = w.heap[i]?
    exact Array.getElem?_append_left hi
theorem itoa_any (n : Int) (w : World) (hw : (Lit.int .i64 n).wf = true) (B : Nat) (h : Env B w) :
    Calls Tryz.prog 33 #[.int .i64 n] w fun e w' => e = .returned (.string ⟨(Lib.itoa n).toArray⟩) ∧ Below w.heap.size w w' := by
  have hb := wf_b hw
  refine (Tryz.strconv_Itoa n (by omega) (by omega) w (h w (Below.refl _ _)).1).mono ?_
  rintro e w' ⟨rfl, k, os, rfl⟩
  exact ⟨rfl, grow_below w k os⟩
theorem itoa_len (n : Int) (hw : (Lit.int .i64 n).wf = true) : (Lib.itoa n).length ≤ 21 := by
  have hb := wf_b hw
  exact Lib.itoa_length_le n (by omega) (by omega)

theorem ws_any (B b : Nat) (l : List UInt8) (s : ByteArray) (w : World) (h : IsB B b l w) (hlen : l.length + s.size ≤ 140737488355328) (hBw : B ≤ w.heap.size) :
    Calls Tryz.prog 32 #[.pointer (some ⟨b, 0, none⟩), .string s] w fun e w' => e = .returned (.tuple #[.int .i64 s.size, .nilIface]) ∧ (AtB B b (l ++ s.data.toList) w' ∧ Kept B b w w') := by
  refine (Any.Builder_WriteString_k Tryz.lays166 Tryz.Builder_Extra_166 B b _ s w h (by rw [Lib.byteCells_length]; exact hlen) hBw).mono ?_
  rintro e w' ⟨rfl, h1, h2, h3⟩
  refine ⟨rfl, ?_, h2, h3⟩
  unfold AtB
  rw [Lib.byteCells_append]
  exact h1
theorem wb_any (B b : Nat) (l : List UInt8) (w : World) (h : IsB B b l w) (hlen : l.length + 1 ≤ 140737488355328) (hBw : B ≤ w.heap.size) :
    Calls Tryz.prog 34 #[.pointer (some ⟨b, 0, none⟩), .int .u8 10] w fun e w' => e = .returned .nilIface ∧ (AtB B b (l ++ [10]) w' ∧ Kept B b w w') := by
  refine (Any.Builder_WriteByte_k Tryz.lays167 Tryz.Builder_Extra_167 B b _ 10 w h (by rw [Lib.byteCells_length]; exact hlen) hBw).mono ?_
  rintro e w' ⟨rfl, h1, h2, h3⟩
  refine ⟨rfl, ?_, h2, h3⟩
  unfold AtB
  rw [Lib.byteCells_append]
  exact h1
theorem str_any (B b : Nat) (l : List UInt8) (w : World) (h : IsB B b l w) (hBw : B ≤ w.heap.size) :
    Calls Tryz.prog 35 #[.pointer (some ⟨b, 0, none⟩)] w fun e w' => e = .returned (.string ⟨l.toArray⟩) ∧ Below B w w' := by
  refine (Any.Builder_String_any_f Tryz.lays169 Tryz.Builder_Extra_169 B b l w h hBw).mono ?_
  rintro e w' ⟨rfl, h⟩
  exact ⟨rfl, h.2⟩

/-- numbers, each behind a space -/
def numsL (L : List Int) : List UInt8 := L.flatMap fun n => 32 :: Lib.itoa n
theorem numsL_take (L : List Int) (k : Nat) (h : k < L.length) : numsL (L.take (k + 1)) = numsL (L.take k) ++ 32 :: Lib.itoa (L.getD k 0) := by
  rw [← List.take_append_getElem h, List.getD_eq_getElem?_getD, List.getElem?_eq_getElem h]
  simp only [numsL, List.flatMap_append, List.flatMap_cons, List.flatMap_nil, List.append_nil, Option.getD_some]
theorem numsL_len {L : List Int} (h : ∀ x ∈ L, (Lit.int .i64 x).wf = true) : (numsL L).length ≤ 22 * L.length := by
  induction L with
  | nil => simp [numsL]
  | cons x L ih =>
    have h1 := itoa_len x (h x List.mem_cons_self)
    have h2 := ih fun y hy => h y (List.mem_cons_of_mem _ hy)
    simp only [numsL, List.flatMap_cons, List.length_append, List.length_cons] at h2 ⊢
    omega
/-- a line -/
def lineL (f : List UInt8) (L : List Int) : List UInt8 := f ++ (numsL L ++ [10])
theorem ba_append (a b : Array UInt8) : (⟨a⟩ : ByteArray) ++ ⟨b⟩ = ⟨a ++ b⟩ := by apply ByteArray.ext; simp [ByteArray.data_append]
theorem sp_append (n : Int) : (⟨#[32]⟩ : ByteArray) ++ ⟨(Lib.itoa n).toArray⟩ = ⟨(32 :: Lib.itoa n).toArray⟩ := by
  rw [ba_append]; simp

set_option maxHeartbeats 2000000 in
set_option maxRecDepth 100000 in
theorem line_any (B b : Nat) (l : List UInt8) (first : ByteArray) (v : Value) (L : List Int) (w : World) (hE : Env B w) (h : IsB B b l w) (hBw : B ≤ w.heap.size)
    (hlen : l.length + first.size + 22 * L.length + 1 ≤ 140737488355328) (hL : ∀ w', Kept B b w w' → RI w' w'.heap.size v L) :
    Calls Tryz.prog 31 #[.string first, v, .pointer (some ⟨b, 0, none⟩)] w fun e w' => e = .returned (.tuple #[]) ∧ AtB B b (l ++ lineL first.data.toList L) w' ∧ Kept B b w w' := by
  obtain ⟨A, cap, rfl, hl, hwf, _⟩ := hL w (Kept.refl _ _ _)
  go_enter Tryz.func31, Tryz.ntmps31
  have hnl := fun k => numsL_len (L := L.take k) (fun x hx => hwf x (List.mem_of_mem_take hx))
  have h1 := ws_any B b l first w h (by omega) hBw
  have HE := Lib.hid hE
  have HL := Lib.hid hL
  have HNL := Lib.hid hnl
  have HWF := Lib.hid hwf
  clear hE hL hnl hwf h
  go_wp2_with fail
  refine h1.mono ?_
  rintro e w1 ⟨rfl, a1, k1⟩
  have A1 := Lib.hid a1
  have K1 := Lib.hid k1
  clear a1 k1 h1
  go_wp2
  go_loopw [11] (fun i wr => ∃ k : Nat, k ≤ L.length ∧ i = .int .i64 k ∧ AtB B b (l ++ (first.data.toList ++ numsL (L.take k))) wr ∧ Kept B b w wr) (fun i _ => L.length - (intOf i).toNat)
  case atStart => exact ⟨0, Nat.zero_le _, rfl, by simpa [numsL] using A1.out, K1.out⟩
  case round =>
    obtain ⟨k, hk, rfl, hat, hkp⟩ := hrel
    by_cases hlt : k < L.length
    · obtain ⟨_, _, hv, _, _, hc⟩ := HL.out wr hkp
      simp only [Value.slice.injEq] at hv
      obtain ⟨rfl, _, rfl⟩ := hv
      rcases hc with hc | ⟨q, off, rfl, hq, hc⟩
      · rw [hc] at hlt; simp at hlt
      have c0 := hc k hlt
      have hxw := HWF.out (L.getD k 0) (getD_mem L 0 hlt)
      have hn := HNL.out k
      have hnx := itoa_len _ hxw
      have htk := numsL_take L k hlt
      have hlk : (L.take k).length = k := by simp; omega
      obtain ⟨x, hx⟩ : ∃ x, x = L.getD k 0 := ⟨_, rfl⟩
      rw [← hx] at c0 hxw hnx htk
      rw [hlk] at hn
      have HAT := Lib.hid hat
      have HKP := Lib.hid hkp
      have HX := Lib.hid hx
      have HTK := Lib.hid htk
      have h2 := itoa_any x wr hxw B (HE.out.on hkp.bel)
      have hszl : first.size = first.data.toList.length := Lib.size_eq first
      clear hat hkp hx htk hc hlk
      go_wp2_with fail
      refine h2.mono ?_
      rintro e w2 ⟨rfl, b2⟩
      have h3 := ws_any B b (l ++ (first.data.toList ++ numsL (L.take k))) ⟨(32 :: Lib.itoa x).toArray⟩ w2 (HAT.out.fresh b2).is
        (by
          rw [Lib.size_eq]
          simp only [List.length_append, List.length_cons]
          omega) (Nat.le_trans hBw (Nat.le_trans HKP.out.bel.size b2.size))
      rw [← sp_append] at h3
      clear hszl
      have K2 := Lib.hid (HKP.out.trans (Kept.of_below b2 (Nat.le_trans hBw HKP.out.bel.size)))
      clear b2
      go_wp2_with fail
      refine h3.mono ?_
      rintro e w3 ⟨rfl, a3, k3⟩
      have A3 := Lib.hid a3
      have K3 := Lib.hid (K2.out.trans k3)
      clear a3 k3 h3 h2
      go_wp2
      go_roundw
      case rel =>
        refine ⟨k + 1, by omega, by go_num, ?_, K3.out⟩
        rw [HTK.out]
        have := A3.out
        rw [sp_append] at this
        simpa only [List.append_assoc] using this
      case measure => simp [intOf]; omega
    · obtain rfl : k = L.length := by omega
      rw [List.take_length] at hat
      have hn := HNL.out L.length
      rw [List.take_length] at hn
      have hszl : first.size = first.data.toList.length := Lib.size_eq first
      have h3 := wb_any B b (l ++ (first.data.toList ++ numsL L)) wr hat.is (by simp only [List.length_append]; omega) (Nat.le_trans hBw hkp.bel.size)
      have HKP := Lib.hid hkp
      clear hat hkp hszl
      go_wp2_with fail
      refine h3.mono ?_
      rintro e w3 ⟨rfl, a3, k3⟩
      have A3 := Lib.hid a3
      have K3 := Lib.hid (HKP.out.trans k3)
      clear a3 k3 h3
      go_wp2
      go_end0
      refine ⟨rfl, ?_, K3.out⟩
      have := A3.out
      simpa only [lineL, List.append_assoc] using this
end Go.Proofs.YtficjcomefaocaaGreatDoor
