/- WORDS for the cards of matter: arguments opened: lists, rights, limits, matters. -/
import Derived.Test.YtficjcomefaocaaGreatDoorLawDaysM
import Derived.WalkKit
import Derived.ProofKit
import Derived.OpenShut
import Derived.ShutString
import Derived.SizedLaws
import Derived.Stop.LaidErr
import Derived.Deep.DeepHandedRow
import Derived.Lib.LaidTab
import Derived.Lib.SmallJoins
import Derived.Shelf.Vars
import Derived.Deep.DeepWitnessRowRef
namespace Go.Proofs.YtficjcomefaocaaGreatDoor
open Go.ChangeShapes Go.WideShapes Go.ChangeAt Go.RowKit Go.Deep

theorem gPow : Tryz.prog.globalNamed "internal/strconv.uint64pow10" = some 0 := by kernel_rfl
theorem gPowType : (Tryz.prog.globals[0]?).map (·.type) = some 177 := by kernel_rfl
theorem cellsPow : Tryz.prog.cellsOf 177 = 20 := by kernel_rfl
theorem cellsU64 : Tryz.prog.cellsOf 123 = 1 := by kernel_rfl
theorem laidOut : laidOutB Tryz.prog = true := by kernel_rfl
theorem b64 {x : Int} (h : (Lit.int .i64 x).wf = true) : -9223372036854775808 ≤ x ∧ x ≤ 9223372036854775807 := by
  simp only [Lit.wf, Bool.and_eq_true, decide_eq_true_eq] at h; exact h

section
variable {H : Type} {enc : TypeId × Value → H} {W : World} {base : Nat}
/-- no weight is out of reach -/
def WOK (t : TypeId) (d : DataW H) : Prop := ∀ n ∈ d.weights Tryz.prog t, n ≤ reachBytes
theorem wok_part {t : TypeId} {fs : Array Field} (hu : Tryz.prog.underlying t = some (.struct fs)) {ds : List (DataW H)} (h : WOK t (.agg ds)) {i : Nat} {f : Field} {d : DataW H} (hf : fs[i]? = some f) (hd : ds[i]? = some d) : WOK f.type d := fun n hn => h n (by
  simp only [DataW.weights, hu]
  exact DataW.weights_mem_each (ts := fs.toList.map (·.type)) (by rw [List.getElem?_map, Array.getElem?_toList, hf]; rfl) hd n hn)
theorem weights_all {e : TypeId} {n : Nat} {d : DataW H} (hn : n ∈ d.weights Tryz.prog e) : ∀ {ds : List (DataW H)}, d ∈ ds → n ∈ DataW.weightsAll Tryz.prog e ds
  | d0 :: ds, hd => by
    simp only [DataW.weightsAll, List.mem_append]
    rcases List.mem_cons.1 hd with rfl | hd
    · exact .inl hn
    · exact .inr (weights_all hn hd)
theorem wok_slice {t e : TypeId} (hu : Tryz.prog.underlying t = some (.slice e)) {el sp : List (DataW H)} (h : WOK t (.slice el sp)) : (el.length + sp.length) * Tryz.prog.bytesOf e ≤ reachBytes ∧ ∀ d ∈ el, WOK e d := by
  constructor
  · exact h _ (by simp only [DataW.weights, hu]; exact List.mem_cons_self)
  · exact fun d hd n hn => h n (by simp only [DataW.weights, hu]; exact List.mem_cons_of_mem _ (List.mem_append.2 (.inl (weights_all hn hd))))
noncomputable abbrev TR (enc : TypeId × Value → H) (W : World) (fuel : Nat) (t : TypeId) (cs : List Value) : Option (DataW H × List MemPlace) := DataW.trod enc Tryz.prog W 0 (fun _ => true) true fuel t cs
/-- a struct's fields -/
theorem open_struct {t : TypeId} {fs : Array Field} {fuel : Nat} {cs : List Value} {x : DataW H × List MemPlace} (hu : Tryz.prog.underlying t = some (.struct fs)) (h : TR enc W fuel t cs = some x) (hw : WOK t x.1) :
    cs.length = Tryz.prog.cellsOf t ∧ ∀ (i : Nat) (f : Field), fs[i]? = some f → ∃ n y, TR enc W n f.type ((cs.drop f.offset).take (Tryz.prog.cellsOf f.type)) = some y ∧ WOK f.type y.1 := by
  obtain ⟨xs, n, _, rfl, hl, hlen, hf⟩ := DataW.trod_struct hu h
  refine ⟨hl, fun i f hi => ?_⟩
  have hlt : i < xs.length := by rw [hlen]; exact (Array.getElem?_eq_some_iff.1 hi).1
  refine ⟨n, xs[i], (hf i f hi).trans (List.getElem?_eq_getElem hlt), wok_part hu hw hi (by simp [hlt])⟩
theorem field_at {fs : Array Field} {cs : List Value} (hfs : ∀ (i : Nat) (f : Field), fs[i]? = some f → ∃ (n : Nat) (y : DataW H × List MemPlace), TR enc W n f.type ((cs.drop f.offset).take (Tryz.prog.cellsOf f.type)) = some y ∧ WOK f.type y.1) {i : Nat} {f : Field} {t : TypeId} {off c : Nat} (hi : fs[i]? = some f) (ht : f.type = t) (ho : f.offset = off) (hc : Tryz.prog.cellsOf t = c) :
    ∃ (n : Nat) (y : DataW H × List MemPlace), TR enc W n t ((cs.drop off).take c) = some y ∧ WOK t y.1 := by
  subst ht ho hc
  exact hfs i f hi
theorem add_plain (b off j : Nat) : (⟨b, off, none⟩ : Addr).add j = ⟨b, off + j, none⟩ := by
  unfold Addr.add
  split
  · rename_i h; subst h; rfl
  · rfl
/-- a slice's rows -/
theorem open_rows {t e : TypeId} {c B : Nat} (hu : Tryz.prog.underlying t = some (.slice e)) (hc : Tryz.prog.cellsOf e = c) (hcp : 0 < c) (hB : Tryz.prog.bytesOf e = B) (hBp : 0 < B) {fuel : Nat} {v : Value} {x : DataW H × List MemPlace}
    (h : TR enc W fuel t [v] = some x) (hw : WOK t x.1) :
    ∃ (A : Option Addr) (n cap : Nat) (C : Nat → List Value) (D : Nat → DataW H), v = .slice A n cap ∧ n * B ≤ reachBytes ∧ RG W W.heap.size v n c C ∧ ∀ i, i < n → (C i).length = c ∧ (∃ f p, TR enc W f e (C i) = some (D i, p)) ∧ WOK e (D i) := by
  rcases open_slice hu h with ⟨hv, rfl⟩ | ⟨a, len, cap, m, n, D, Pl, hv, _, hl, _, hm, rfl, hx⟩
  · simp only [List.cons.injEq, and_true] at hv
    subst hv
    exact ⟨none, 0, 0, fun _ => [], fun _ => .nil, rfl, by omega, rg_nil _ _ _ _ _ _, fun i hi => absurd hi (by omega)⟩
  · simp only [List.cons.injEq, and_true] at hv
    subst hv
    have hlm : len ≤ m := by rw [hm]; split <;> omega
    obtain ⟨hsz, hel⟩ := wok_slice hu hw
    simp only [List.length_map, List.length_range, hB] at hsz
    have hlen : len * B ≤ reachBytes := Nat.le_trans (Nat.mul_le_mul_right _ (Nat.le_add_right _ _)) hsz
    obtain ⟨C, hC⟩ := choose_lt (α := List Value) (p := fun i cs => W.cells? 0 (a.add (i * c)) c = some cs ∧ TR enc W n e cs = some (D i, Pl i)) (n := len) (fun i hi => by
      obtain ⟨cs', h1, h2⟩ := hx i (by omega)
      rw [hc] at h1
      exact ⟨cs', h1, h2⟩)
    refine ⟨some a, len, cap, C, D, rfl, hlen, ?_, fun i hi => ?_⟩
    · have hn : len ≤ 140737488355328 := by
        have : len * 1 ≤ len * B := Nat.mul_le_mul_left _ hBp
        have : reachBytes = 140737488351232 := rfl
        omega
      refine ⟨some a, cap, rfl, hn, ?_⟩
      by_cases h0 : len = 0
      · exact .inl h0
      · right
        obtain ⟨_, hl0, hc0⟩ := World.cells?_some (hC 0 (by omega)).1
        have h00 := hc0 0 hcp
        rw [List.getElem?_eq_getElem (by rw [hl0]; exact hcp)] at h00
        rw [Nat.zero_mul] at h00
        have hsp : ∃ b off, a = ⟨b, off, none⟩ := by
          obtain ⟨b, off, s⟩ := a
          have hs := World.cell?_spot h00
          have : s = none := by simpa [Addr.add] using hs
          exact ⟨b, off, by rw [this]⟩
        obtain ⟨b, off, rfl⟩ := hsp
        have hcell : ∀ k, k < len → ∀ j y, (C k)[j]? = some y → W.cell? ⟨b, off + k * c + j, none⟩ = some y := fun k hk j y hy => by
          obtain ⟨_, hlk, hck⟩ := World.cells?_some (hC k hk).1
          have hj : j < c := by rw [← hlk]; exact (List.getElem?_eq_some_iff.1 hy).1
          have := hck j hj
          rw [add_plain, add_plain] at this
          rw [this]; exact hy
        refine ⟨b, off, rfl, ?_, hcell⟩
        have := hcell 0 (by omega) 0 _ (List.getElem?_eq_getElem (by rw [hl0]; exact hcp))
        exact block_lt_of_cell this
    · obtain ⟨_, hlk, _⟩ := World.cells?_some (hC i hi).1
      exact ⟨hlk, ⟨n, Pl i, (hC i hi).2⟩, hel (D i) (List.mem_map.2 ⟨i, List.mem_range.2 hi, rfl⟩)⟩
theorem RG.congr {w : World} {B n c : Nat} {v : Value} {f g : Nat → List Value} (h : RG w B v n c f) (e : ∀ k, k < n → f k = g k) : RG w B v n c g := by
  obtain ⟨A, cap, hv, hl, h⟩ := h
  refine ⟨A, cap, hv, hl, ?_⟩
  rcases h with h | ⟨b, off, ha, hB, hc⟩
  · exact .inl h
  · exact .inr ⟨b, off, ha, hB, fun k hk j x hx => hc k hk j x (by rw [e k hk]; exact hx)⟩
theorem range_getD {α : Type} (f : Nat → α) (d : α) {n k : Nat} (h : k < n) : ((List.range n).map f).getD k d = f k := by
  rw [List.getD_eq_getElem?_getD, List.getElem?_map, List.getElem?_range h]; rfl
theorem open_str {t : TypeId} {fuel : Nat} {cs : List Value} {y : DataW H × List MemPlace} (hu : Tryz.prog.underlying t = some .string) (h : TR enc W fuel t cs = some y) (hw : WOK t y.1) : ∃ s : ByteArray, cs = [.string s] ∧ s.size ≤ 140737488355328 := by
  obtain ⟨s, rfl, rfl, _⟩ := DataW.trod_string hu h
  refine ⟨s, rfl, ?_⟩
  have := hw s.data.toList.length (by simp [DataW.weights])
  rw [Lib.size_eq]
  have e : reachBytes = 140737488351232 := rfl
  omega
theorem open_int' {t : TypeId} {fuel : Nat} {cs : List Value} {y : DataW H × List MemPlace} (hu : Tryz.prog.underlying t = some (.int .i64)) (h : TR enc W fuel t cs = some y) : ∃ n : Int, cs = [.int .i64 n] ∧ (Lit.int .i64 n).wf = true := by
  obtain ⟨n, rfl, _, hn⟩ := DataW.trod_int hu h
  exact ⟨n, rfl, hn⟩
theorem cStr : Tryz.prog.cellsOf 9 = 1 := by kernel_rfl
theorem cInt : Tryz.prog.cellsOf 3 = 1 := by kernel_rfl
theorem bInt : Tryz.prog.bytesOf 3 = 8 := by kernel_rfl
theorem bStr : Tryz.prog.bytesOf 9 = 16 := by kernel_rfl
theorem cStop : Tryz.prog.cellsOf 77 = 2 := by kernel_rfl
theorem bStop : Tryz.prog.bytesOf 77 = 16 := by kernel_rfl
theorem cTerm : Tryz.prog.cellsOf 62 = 2 := by kernel_rfl
theorem cRight : Tryz.prog.cellsOf 41 = 2 := by kernel_rfl
theorem bRight' : Tryz.prog.bytesOf 41 = 24 := by kernel_rfl
theorem cLimit : Tryz.prog.cellsOf 65 = 5 := by kernel_rfl
theorem bLimit : Tryz.prog.bytesOf 65 = 64 := by kernel_rfl
theorem cMatter : Tryz.prog.cellsOf 27 = 8 := by kernel_rfl
theorem cCase : Tryz.prog.cellsOf 23 = 1 := by kernel_rfl
theorem cInts : Tryz.prog.cellsOf 22 = 1 := by kernel_rfl
theorem cRights : Tryz.prog.cellsOf 24 = 1 := by kernel_rfl
theorem cLimits : Tryz.prog.cellsOf 25 = 1 := by kernel_rfl
theorem cStops : Tryz.prog.cellsOf 63 = 1 := by kernel_rfl

set_option maxRecDepth 100000 in
theorem open_ri {t : TypeId} (hu : Tryz.prog.underlying t = some (.slice 3)) {fuel : Nat} {v : Value} {x : DataW H × List MemPlace} (h : TR enc W fuel t [v] = some x) (hw : WOK t x.1) : ∃ L, RI W W.heap.size v L := by
  obtain ⟨A, n, cap, C, D, rfl, hn, hrg, hC⟩ := open_rows hu cInt (by decide) bInt (by decide) h hw
  obtain ⟨f, hf⟩ := choose_lt (α := Int) (p := fun i z => C i = [.int .i64 z] ∧ (Lit.int .i64 z).wf = true) (n := n) (fun i hi => by
    obtain ⟨_, ⟨_, _, h2⟩, _⟩ := hC i hi
    exact open_int' Tryz.underlying3 h2)
  have e : RG W W.heap.size (.slice A n cap) ((List.range n).map f).length 1 (csI ((List.range n).map f)) := by
    rw [List.length_map, List.length_range]
    exact hrg.congr fun k hk => by rw [(hf k hk).1]; simp only [csI]; rw [range_getD f 0 hk]
  have e8 : reachBytes = 140737488351232 := rfl
  exact ⟨_, RI.of_rg e (by rw [List.length_map, List.length_range]; omega) (fun x hx => by
    obtain ⟨i, hi, rfl⟩ := List.mem_map.1 hx
    exact (hf i (List.mem_range.1 hi)).2)⟩
set_option maxRecDepth 100000 in
theorem open_pair {t : TypeId} {f0 f1 : Field} (hu : Tryz.prog.underlying t = some (.struct #[f0, f1])) (h0 : f0.offset = 0 ∧ f0.type = 3) (h1 : f1.offset = 1 ∧ f1.type = 3) (hc : Tryz.prog.cellsOf t = 2) {fuel : Nat} {cs : List Value} {x : DataW H × List MemPlace} (h : TR enc W fuel t cs = some x) (hw : WOK t x.1) :
    ∃ z : Int × Int, cs = [.int .i64 z.1, .int .i64 z.2] := by
  obtain ⟨hl, hf⟩ := open_struct hu h hw
  rw [hc] at hl
  match cs, hl with
  | [c0, c1], _ =>
    obtain ⟨_, _, g0, _⟩ := hf 0 f0 rfl
    obtain ⟨_, _, g1, _⟩ := hf 1 f1 rfl
    rw [h0.1, h0.2, cInt] at g0
    rw [h1.1, h1.2, cInt] at g1
    obtain ⟨a, ha, _⟩ := open_int' Tryz.underlying3 g0
    obtain ⟨b, hb, _⟩ := open_int' Tryz.underlying3 g1
    simp at ha hb
    exact ⟨(a, b), by rw [ha, hb]⟩
set_option maxRecDepth 100000 in
theorem open_rp {t : TypeId} (hu : Tryz.prog.underlying t = some (.slice 77)) {fuel : Nat} {v : Value} {x : DataW H × List MemPlace} (h : TR enc W fuel t [v] = some x) (hw : WOK t x.1) : ∃ L, RP W W.heap.size v L := by
  obtain ⟨A, n, cap, C, D, rfl, hn, hrg, hC⟩ := open_rows hu cStop (by decide) bStop (by decide) h hw
  obtain ⟨f, hf⟩ := choose_lt (α := Int × Int) (p := fun i z => C i = [.int .i64 z.1, .int .i64 z.2]) (n := n) (fun i hi => by
    obtain ⟨_, ⟨_, _, h2⟩, h3⟩ := hC i hi
    exact open_pair Tryz.underlying77 ⟨rfl, rfl⟩ ⟨rfl, rfl⟩ cStop h2 h3)
  have e : RG W W.heap.size (.slice A n cap) ((List.range n).map f).length 2 (csP ((List.range n).map f)) := by
    rw [List.length_map, List.length_range]
    exact hrg.congr fun k hk => by rw [hf k hk]; simp only [csP]; rw [range_getD f (0, 0) hk]
  exact ⟨_, RP.of_rg e⟩
set_option maxRecDepth 100000 in
theorem open_rr {t : TypeId} (hu : Tryz.prog.underlying t = some (.slice 41)) {fuel : Nat} {v : Value} {x : DataW H × List MemPlace} (h : TR enc W fuel t [v] = some x) (hw : WOK t x.1) : ∃ L, RR W W.heap.size v L := by
  obtain ⟨A, n, cap, C, D, rfl, hn, hrg, hC⟩ := open_rows hu cRight (by decide) bRight' (by decide) h hw
  obtain ⟨f, hf⟩ := choose_lt (α := ByteArray × Int) (p := fun i z => C i = [.string z.1, .int .i64 z.2] ∧ z.1.size ≤ 140737488355328) (n := n) (fun i hi => by
    obtain ⟨hl, ⟨_, _, h2⟩, h3⟩ := hC i hi
    obtain ⟨_, hfs⟩ := open_struct Tryz.underlying41 h2 h3
    match C i, hl, hfs with
    | [c0, c1], _, hfs =>
      obtain ⟨_, _, g0, w0⟩ := field_at hfs (i := 0) (t := 9) (off := 0) rfl rfl rfl cStr
      obtain ⟨_, _, g1, _⟩ := field_at hfs (i := 1) (t := 3) (off := 1) rfl rfl rfl cInt
      obtain ⟨a, ha, hs⟩ := open_str Tryz.underlying9 g0 w0
      obtain ⟨b, hb, _⟩ := open_int' Tryz.underlying3 g1
      simp at ha hb
      exact ⟨(a, b), by rw [ha, hb], hs⟩)
  refine ⟨(List.range n).map f, ?_, fun s hs => ?_⟩
  · show RG W W.heap.size (.slice A n cap) ((List.range n).map f).length 2 (csR ((List.range n).map f))
    rw [List.length_map, List.length_range]
    exact hrg.congr fun k hk => by rw [(hf k hk).1]; simp only [csR]; rw [range_getD f (ByteArray.empty, 0) hk]
  · obtain ⟨i, hi, rfl⟩ := List.mem_map.1 hs
    exact (hf i (List.mem_range.1 hi)).2
instance : Inhabited Lim := ⟨lim0⟩
set_option maxRecDepth 100000 in
theorem open_rl {t : TypeId} (hu : Tryz.prog.underlying t = some (.slice 65)) {fuel : Nat} {v : Value} {x : DataW H × List MemPlace} (h : TR enc W fuel t [v] = some x) (hw : WOK t x.1) : ∃ L, RL W W.heap.size v L := by
  obtain ⟨A, n, cap, C, D, rfl, hn, hrg, hC⟩ := open_rows hu cLimit (by decide) bLimit (by decide) h hw
  obtain ⟨f, hf⟩ := choose_lt (α := Lim) (p := fun i z => C i = [.string z.id, .int .i64 z.N, .int .i64 z.U, .int .i64 z.f, z.sv] ∧ z.id.size ≤ 140737488355328 ∧ RP W W.heap.size z.sv z.stops) (n := n) (fun i hi => by
    obtain ⟨hl, ⟨_, _, h2⟩, h3⟩ := hC i hi
    obtain ⟨_, hfs⟩ := open_struct Tryz.underlying65 h2 h3
    match C i, hl, hfs with
    | [c0, c1, c2, c3, c4], _, hfs =>
      obtain ⟨_, _, g0, w0⟩ := field_at hfs (i := 0) (t := 9) (off := 0) rfl rfl rfl cStr
      obtain ⟨_, _, g1, w1⟩ := field_at hfs (i := 1) (t := 62) (off := 1) rfl rfl rfl cTerm
      obtain ⟨_, _, g2, _⟩ := field_at hfs (i := 2) (t := 3) (off := 3) rfl rfl rfl cInt
      obtain ⟨_, _, g3, w3⟩ := field_at hfs (i := 3) (t := 63) (off := 4) rfl rfl rfl cStops
      obtain ⟨a, ha, hs⟩ := open_str Tryz.underlying9 g0 w0
      obtain ⟨z, hz⟩ := open_pair Tryz.underlying62 ⟨rfl, rfl⟩ ⟨rfl, rfl⟩ cTerm g1 w1
      obtain ⟨b, hb, _⟩ := open_int' Tryz.underlying3 g2
      have g3' : TR enc W _ 63 [c4] = some _ := g3
      obtain ⟨L, hL⟩ := open_rp Tryz.underlying63 g3' w3
      simp at ha hb hz
      exact ⟨⟨a, z.1, z.2, b, c4, L⟩, by rw [ha, hb, hz.1, hz.2], hs, hL⟩)
  refine ⟨(List.range n).map f, ?_, fun s hs => ?_, fun s hs => ?_⟩
  · show RG W W.heap.size (.slice A n cap) ((List.range n).map f).length 5 (csL ((List.range n).map f))
    rw [List.length_map, List.length_range]
    exact hrg.congr fun k hk => by rw [(hf k hk).1]; simp only [csL]; rw [range_getD f lim0 hk]
  · obtain ⟨i, hi, rfl⟩ := List.mem_map.1 hs
    exact (hf i (List.mem_range.1 hi)).2.1
  · obtain ⟨i, hi, rfl⟩ := List.mem_map.1 hs
    exact (hf i (List.mem_range.1 hi)).2.2
theorem array8 {α : Type} {cs : Array α} (h : cs.size = 8) : ∃ c0 c1 c2 c3 c4 c5 c6 c7, cs = #[c0, c1, c2, c3, c4, c5, c6, c7] := by
  obtain ⟨l⟩ := cs
  match l, h with
  | [c0, c1, c2, c3, c4, c5, c6, c7], _ => exact ⟨c0, c1, c2, c3, c4, c5, c6, c7, rfl⟩
set_option maxRecDepth 100000 in
theorem open_matter {v : Value} {d : DataW H} {p : List MemPlace} (hv : Value.okWide Tryz.prog W .any base 27 v) (h : DataW.Trod enc Tryz.prog W 0 (fun _ => true) true 27 v d p) (hw : WOK 27 d) : ∃ m : Mat, v = .agg m.cells ∧ MR W W.heap.size m := by
  obtain ⟨cs, rfl, hsz⟩ := okWide_struct Tryz.underlying27 hv
  obtain ⟨c0, c1, c2, c3, c4, c5, c6, c7, rfl⟩ := array8 (hsz.trans cMatter)
  obtain ⟨fuel, hf⟩ := h
  obtain ⟨_, hfs⟩ := open_struct Tryz.underlying27 hf hw
  obtain ⟨_, _, g0, w0⟩ := field_at hfs (i := 0) (t := 9) (off := 0) rfl rfl rfl cStr
  obtain ⟨_, _, g1, _⟩ := field_at hfs (i := 1) (t := 3) (off := 1) rfl rfl rfl cInt
  obtain ⟨_, _, g2, w2⟩ := field_at hfs (i := 2) (t := 23) (off := 2) rfl rfl rfl cCase
  obtain ⟨_, _, g3, w3⟩ := field_at hfs (i := 3) (t := 9) (off := 3) rfl rfl rfl cStr
  obtain ⟨_, _, g4, _⟩ := field_at hfs (i := 4) (t := 3) (off := 4) rfl rfl rfl cInt
  obtain ⟨_, _, g5, w5⟩ := field_at hfs (i := 5) (t := 22) (off := 5) rfl rfl rfl cInts
  obtain ⟨_, _, g6, w6⟩ := field_at hfs (i := 6) (t := 24) (off := 6) rfl rfl rfl cRights
  obtain ⟨_, _, g7, w7⟩ := field_at hfs (i := 7) (t := 25) (off := 7) rfl rfl rfl cLimits
  obtain ⟨i, e0, hi⟩ := open_str Tryz.underlying9 g0 w0
  obtain ⟨o, e1, _⟩ := open_int' Tryz.underlying3 g1
  obtain ⟨pr, e3, hp⟩ := open_str Tryz.underlying9 g3 w3
  obtain ⟨st, e4, _⟩ := open_int' Tryz.underlying3 g4
  have g2' : TR enc W _ 23 [c2] = some _ := g2
  have g5' : TR enc W _ 22 [c5] = some _ := g5
  have g6' : TR enc W _ 24 [c6] = some _ := g6
  have g7' : TR enc W _ 25 [c7] = some _ := g7
  obtain ⟨L2, h2⟩ := open_ri Tryz.underlying23 g2' w2
  obtain ⟨L5, h5⟩ := open_ri Tryz.underlying22 g5' w5
  obtain ⟨L6, h6⟩ := open_rr Tryz.underlying24 g6' w6
  obtain ⟨L7, h7⟩ := open_rl Tryz.underlying25 g7' w7
  have e0' : c0 = .string i := (List.cons.inj e0).1
  have e1' : c1 = .int .i64 o := (List.cons.inj e1).1
  have e3' : c3 = .string pr := (List.cons.inj e3).1
  have e4' : c4 = .int .i64 st := (List.cons.inj e4).1
  subst e0' e1' e3' e4'
  exact ⟨⟨i, o, c2, L2, pr, st, c5, L5, c6, L6, c7, L7⟩, rfl, h2, h5, h6, h7, hi, hp⟩
end
end Go.Proofs.YtficjcomefaocaaGreatDoor
