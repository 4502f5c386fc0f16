/- The load of a box that is known whole: all its cells, as they are. -/
import Derived.Test.YtjjkdmngmopjbaaProg
import Derived.Test.YtjjkdmngmopjbaaRecS
namespace Go.Proofs.Ytjjkdmngmopjbaa
open Go.RowKit
variable {P : Program}
theorem run_loadAt_box {w : World} {b : Nat} {ty : TypeId} {C : Array Value} (d : TypeDesc) (h : Blk w b ty C) (hu : P.underlying ty = some d) (hd : d.isRow = true) (hi : (P.info? ty).map (·.size) = some C.size) :
    (Instr.loadAt ty (.pointer (some ⟨b, 0, none⟩))).run P w = .ok (.agg C) w := by
  have hr := World.rangeAt_of_block (w := w) (b := b) (C := C) (t := ty) (fr := (0, 0)) h 0 C.size
  have := run_loadAt_mid (P := P) w b 0 ty _ d hr hu hd (by simpa using hi)
  simpa using this
end Go.Proofs.Ytjjkdmngmopjbaa
