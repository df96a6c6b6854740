/- WORDS for the cards of matter: a procedure opened. -/
import Derived.Test.YtficjcomefaocaaGreatDoorCardKitN
namespace Go.Proofs.YtficjcomefaocaaGreatDoor
open Go.ChangeShapes Go.WideShapes Go.ChangeAt Go.RowKit Go.Deep

section
variable {H : Type} {enc : TypeId × Value → H} {W : World} {base : Nat}
theorem cArr : Tryz.prog.cellsOf 101 = 2 := by kernel_rfl
theorem bArr : Tryz.prog.bytesOf 101 = 16 := by kernel_rfl
theorem cProc : Tryz.prog.cellsOf 46 = 3 := by kernel_rfl
theorem cStrs : Tryz.prog.cellsOf 43 = 1 := by kernel_rfl
theorem cArrs : Tryz.prog.cellsOf 44 = 1 := by kernel_rfl
theorem two_of : ∀ {cs : List Value}, cs.length = 2 → ∃ a b, cs = [a, b]
  | [], h => by simp at h
  | [_], h => by simp at h
  | [a, b], _ => ⟨a, b, rfl⟩
  | _ :: _ :: _ :: _, h => by simp at h
set_option maxRecDepth 100000 in
theorem open_arr2 {fuel : Nat} {cs : List Value} {x : DataW H × List MemPlace} (h : TR enc W fuel 101 cs = some x) :
    ∃ z : Int × Int, cs = [.int .i64 z.1, .int .i64 z.2] ∧ (Lit.int .i64 z.1).wf = true ∧ (Lit.int .i64 z.2).wf = true := by
  obtain ⟨xs, n, _, _, hl, hlen, hf⟩ := DataW.trod_array Tryz.underlying101 h
  rw [cArr] at hl
  obtain ⟨c0, c1, rfl⟩ := two_of hl
  have g0 := hf 0 (by decide)
  have g1 := hf 1 (by decide)
  rw [cInt] at g0 g1
  rw [List.getElem?_eq_getElem (by rw [hlen]; decide)] at g0 g1
  obtain ⟨a, ha, wa⟩ := open_int' Tryz.underlying3 g0
  obtain ⟨b, hb, wb⟩ := open_int' Tryz.underlying3 g1
  simp at ha hb
  exact ⟨(a, b), by rw [ha, hb], wa, wb⟩
set_option maxRecDepth 100000 in
theorem open_mv {t : TypeId} (hu : Tryz.prog.underlying t = some (.slice 101)) {fuel : Nat} {v : Value} {x : DataW H × List MemPlace} (h : TR enc W fuel t [v] = some x) (hw : WOK t x.1) : ∃ L, RP W W.heap.size v L ∧ ∀ z ∈ L, (Lit.int .i64 z.1).wf = true ∧ (Lit.int .i64 z.2).wf = true := by
  obtain ⟨A, n, cap, C, D, rfl, hn, hrg, hC⟩ := open_rows hu cArr (by decide) bArr (by decide) h hw
  obtain ⟨f, hf⟩ := choose_lt (α := Int × Int) (p := fun i z => C i = [.int .i64 z.1, .int .i64 z.2] ∧ (Lit.int .i64 z.1).wf = true ∧ (Lit.int .i64 z.2).wf = true) (n := n) (fun i hi => by
    obtain ⟨_, ⟨_, _, h2⟩, _⟩ := hC i hi
    exact open_arr2 h2)
  have e : RG W W.heap.size (.slice A n cap) ((List.range n).map f).length 2 (csP ((List.range n).map f)) := by
    rw [List.length_map, List.length_range]
    exact hrg.congr fun k hk => by rw [(hf k hk).1]; simp only [csP]; rw [range_getD f (0, 0) hk]
  refine ⟨_, RP.of_rg e, fun z hz => ?_⟩
  obtain ⟨i, hi, rfl⟩ := List.mem_map.1 hz
  exact (hf i (List.mem_range.1 hi)).2
set_option maxRecDepth 100000 in
theorem open_rs {t : TypeId} (hu : Tryz.prog.underlying t = some (.slice 9)) {fuel : Nat} {v : Value} {x : DataW H × List MemPlace} (h : TR enc W fuel t [v] = some x) (hw : WOK t x.1) : ∃ L, RS W W.heap.size v L := by
  obtain ⟨A, n, cap, C, D, rfl, hn, hrg, hC⟩ := open_rows hu cStr (by decide) bStr (by decide) h hw
  obtain ⟨f, hf⟩ := choose_lt (α := ByteArray) (p := fun i z => C i = [.string z] ∧ z.size ≤ 140737488355328) (n := n) (fun i hi => by
    obtain ⟨_, ⟨_, _, h2⟩, h3⟩ := hC i hi
    exact open_str Tryz.underlying9 h2 h3)
  refine ⟨(List.range n).map f, ?_, fun s hs => ?_⟩
  · rw [List.length_map, List.length_range]
    exact hrg.congr fun k hk => by rw [(hf k hk).1, range_getD f ByteArray.empty hk]
  · obtain ⟨i, hi, rfl⟩ := List.mem_map.1 hs
    exact (hf i (List.mem_range.1 hi)).2
theorem array3' {α : Type} {cs : Array α} (h : cs.size = 3) : ∃ c0 c1 c2, cs = #[c0, c1, c2] := by
  obtain ⟨l⟩ := cs
  match l, h with
  | [c0, c1, c2], _ => exact ⟨c0, c1, c2, rfl⟩
set_option maxRecDepth 100000 in
theorem open_prc {v : Value} {d : DataW H} {p : List MemPlace} (hv : Value.okWide Tryz.prog W .any base 46 v) (h : DataW.Trod enc Tryz.prog W 0 (fun _ => true) true 46 v d p) (hw : WOK 46 d) : ∃ m : Prc, v = .agg m.cells ∧ PR W W.heap.size m := by
  obtain ⟨cs, rfl, hsz⟩ := okWide_struct Tryz.underlying46 hv
  obtain ⟨c0, c1, c2, rfl⟩ := array3' (hsz.trans cProc)
  obtain ⟨fuel, hf⟩ := h
  obtain ⟨_, hfs⟩ := open_struct Tryz.underlying46 hf hw
  obtain ⟨_, _, g0, w0⟩ := field_at hfs (i := 0) (t := 9) (off := 0) rfl rfl rfl cStr
  obtain ⟨_, _, g1, w1⟩ := field_at hfs (i := 1) (t := 43) (off := 1) rfl rfl rfl cStrs
  obtain ⟨_, _, g2, w2⟩ := field_at hfs (i := 2) (t := 44) (off := 2) rfl rfl rfl cArrs
  obtain ⟨i, e0, hi⟩ := open_str Tryz.underlying9 g0 w0
  have g1' : TR enc W _ 43 [c1] = some _ := g1
  have g2' : TR enc W _ 44 [c2] = some _ := g2
  obtain ⟨L1, h1⟩ := open_rs Tryz.underlying43 g1' w1
  obtain ⟨L2, h2, hwf⟩ := open_mv Tryz.underlying44 g2' w2
  have e0' : c0 = .string i := (List.cons.inj e0).1
  subst e0'
  exact ⟨⟨i, c1, L1, c2, L2⟩, rfl, h1, h2, hwf, hi⟩
end
end Go.Proofs.YtficjcomefaocaaGreatDoor
