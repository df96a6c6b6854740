/- WORDS for the cards of matter: what the library's variables hold, from the row. -/
import Derived.Test.YtficjcomefaocaaGreatDoorCardKitM
namespace Go.Proofs.YtficjcomefaocaaGreatDoor
open Go.ChangeShapes Go.WideShapes Go.ChangeAt Go.RowKit Go.Deep

theorem tabIs_below {w w' : World} {B : Nat} {n : String} {k : IntKind} {zs : List Int} {g : Nat} (hg : Tryz.prog.globalNamed n = some g) (h : Lib.TabIs Tryz.prog w n k zs) (hlt : g < B) (hb : Below B w w') : Lib.TabIs Tryz.prog w' n k zs := by
  unfold Lib.TabIs World.var? at *
  rw [hg] at h ⊢
  simp only [Option.bind_some] at h ⊢
  rw [hb.block g hlt]
  exact h
theorem gErrR : Tryz.prog.globalNamed "strconv.ErrRange" = some 3 := by kernel_rfl
theorem gErrS : Tryz.prog.globalNamed "strconv.ErrSyntax" = some 2 := by kernel_rfl
theorem tErrR : (Tryz.prog.globals[3]?).map (·.type) = some 70 := by kernel_rfl
theorem tErrS : (Tryz.prog.globals[2]?).map (·.type) = some 70 := by kernel_rfl
theorem err_star : "*" ++ "errors.errorString" = "*errors.errorString" := by decide
set_option maxRecDepth 100000 in
theorem err_row : ∀ u, Tryz.prog.typeName? 3 u = some "*errors.errorString" → u = 195 := fun u h =>
  typeName_ptr_named (nm := "errors.errorString") (by rw [err_star]; kernel_rfl) (by kernel_rfl) (by decide) u (by rw [err_star]; exact h)
theorem env_of {W : World} {a b c : String × DataW Unit} {tr ts : List UInt8} {rest : List (String × DataW Unit)}
    (h : laidMet Tryz.prog (a :: b :: ("internal/strconv.uint64pow10", Lib.tabData .u64 Lib.pow10Tab) :: c :: ("strconv.ErrRange", .iface "*errors.errorString" (.ptr (.agg [.lit (.string tr)]))) :: ("strconv.ErrSyntax", .iface "*errors.errorString" (.ptr (.agg [.lit (.string ts)]))) :: rest) W)
    (hs : W.ShapedOpen Tryz.prog) : Env W.heap.size W := by
  have ht : Lib.TabIs Tryz.prog W "internal/strconv.uint64pow10" .u64 Lib.pow10Tab := Lib.tabIs_of_head gPow gPowType Tryz.underlying177 Tryz.underlying123 cellsU64 cellsPow h.tail.tail
  have hp := block_lt_of_cell (ht.cell gPow 0 (by decide))
  obtain ⟨a1, _, v1, _⟩ := laid_sentinel h.tail.tail.tail.tail gErrR tErrR Tryz.underlying70 err_row Tryz.underlying195 Tryz.underlying197 rfl rfl Tryz.underlying9 (by kernel_rfl) cStr
  obtain ⟨a2, _, v2, _⟩ := laid_sentinel h.tail.tail.tail.tail.tail gErrS tErrS Tryz.underlying70 err_row Tryz.underlying195 Tryz.underlying197 rfl rfl Tryz.underlying9 (by kernel_rfl) cStr
  have c1 : W.cell? ⟨3, 0, none⟩ = some (.iface 195 (.pointer (some a1))) := by simpa using World.var?_cell gErrR v1 0
  have c2 : W.cell? ⟨2, 0, none⟩ = some (.iface 195 (.pointer (some a2))) := by simpa using World.var?_cell gErrS v2 0
  obtain ⟨m, hm⟩ := cell_of_shapedOpen_int (t := 3) (zero := #[.int .i64 0]) (g := 1) hs (by decide +kernel) (by kernel_rfl) rfl (by kernel_rfl) (by kernel_rfl) Tryz.underlying3
  intro w' hb
  exact ⟨tabIs_below gPow ht hp hb, ⟨m, (hb.cell (block_lt_of_cell hm)).trans hm⟩, ⟨_, (hb.cell (block_lt_of_cell c2)).trans c2, .inr ⟨_, _, rfl⟩⟩, ⟨_, (hb.cell (block_lt_of_cell c1)).trans c1, .inr ⟨_, _, rfl⟩⟩⟩
section
variable {H : Type} {enc : TypeId × Value → H} {W : World} {base : Nat}
theorem wok_of {ts : List TypeId} {ds : List (DataW H)} {j : Nat} {t : TypeId} {d : DataW H} (h : (DataW.weightsEach Tryz.prog ts ds).all (· ≤ reachBytes) = true) (ht : ts[j]? = some t) (hd : ds[j]? = some d) : WOK t d := fun n hn => by
  have := List.all_eq_true.1 h n (DataW.weights_mem_each ht hd n hn)
  simpa using this
set_option maxRecDepth 100000 in
theorem open_text {v : Value} {d : DataW H} {p : List MemPlace} (hv : Value.okWide Tryz.prog W .any base 9 v) (h : DataW.Trod enc Tryz.prog W 0 (fun _ => true) true 9 v d p) (hw : WOK 9 d) : ∃ s : ByteArray, v = .string s ∧ s.size ≤ 140737488355328 := by
  obtain ⟨fuel, hf⟩ := id h
  obtain ⟨x, rfl, _, _, _⟩ := Go.ChangeMaps.open_string Tryz.underlying9 hv h
  obtain ⟨s, e, hs⟩ := open_str Tryz.underlying9 hf hw
  have e' : Value.string x = .string s := (List.cons.inj e).1
  cases e'
  exact ⟨_, rfl, hs⟩
end
end Go.Proofs.YtficjcomefaocaaGreatDoor
