/- WORDS for the cards whose row lays strconv's sentinels: MaxLen is an int, by the world's shape. -/
import Derived.Test.YtpelnfolnlmhdaaDoorCardKit
import Derived.Test.YtpelnfolnlmhdaaDoorParse
import Derived.Shelf.Vars
import Derived.Deep.DeepWitnessRowRef
namespace Go.Proofs.YtpelnfolnlmhdaaDoor
open Go.RowKit
theorem mt_of_shaped {W : World} (h : W.ShapedOpen Tryd.prog) : MT W := by
  have hc := cell_of_shapedOpen_int (t := 3) (zero := #[.int .i64 0]) (g := 2) h (by decide +kernel) (by kernel_rfl) rfl (by kernel_rfl) (by kernel_rfl) Tryd.underlying3
  refine ⟨hc, ?_⟩
  obtain ⟨m, hm⟩ := hc
  exact block_lt_of_cell hm
end Go.Proofs.YtpelnfolnlmhdaaDoor
