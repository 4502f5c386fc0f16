/- Of the texts Wr1. -/
import Derived.Test.YtlfonmpgenoooaaProg
import Derived.Test.YtlfonmpgenoooaaG25
import Derived.Test.YtlfonmpgenoooaaG01
import Derived.Deep.RegionLaw
set_option linter.unusedSimpArgs false
set_option linter.unusedVariables false
namespace Go.Proofs.Ytlfonmpgenoooaa
open Go.RowKit
theorem byteInfo : (Try.prog.info? 5).map (fun i => (i.zero, i.size, i.bytes)) = some (some (.int .u8 0), 1, 1) := by kernel_rfl
set_option maxRecDepth 100000 in
theorem limited_any (n m : Int) (w : World) (g : Nat) (S : Out) (h : Wrt w g S) :
  Calls Try.prog 78 #[.pointer (some ⟨g, 0, none⟩), .int .i64 n, .int .i64 m] w fun e w' => e = .returned (.tuple #[]) ∧ Wrt w' g (S.lim n m) ∧ Turned w w' g := by
 obtain ⟨v, hb, ho⟩ := h; have c1 := hb.c 1 rfl; have f1 := hb.frozen 1; have hgt := hb.lt
 by_cases hm : m < n
 ·go_enter Try.func78, Try.ntmps78; go_wp2
  go_end0
  exact ⟨rfl, ⟨v, by simpa [Out.lim, hm] using hb.set_ 1 (.bool true), by simpa [Out.lim] using ownsRow_setCell_below ho (a := ⟨g, 1, none⟩) (by simp) _⟩, (Turned.refl _ _).setCell _ _⟩
 ·go_enter Try.func78, Try.ntmps78; go_wp2
  go_end0
  exact ⟨rfl, ⟨v, by simpa [Out.lim, show decide (m < n) = false from decide_eq_false (by omega)] using hb, by simpa [Out.lim] using ho⟩, Turned.refl _ _⟩
set_option maxRecDepth 100000 in
theorem need_any (b : Bool) (w : World) (g : Nat) (S : Out) (h : Wrt w g S) :
  Calls Try.prog 69 #[.pointer (some ⟨g, 0, none⟩), .bool b] w fun e w' => e = .returned (.tuple #[]) ∧ Wrt w' g (S.need b) ∧ Turned w w' g := by
 obtain ⟨v, hb, ho⟩ := h; have c1 := hb.c 2 rfl; have f1 := hb.frozen 2; have hgt := hb.lt; cases b
 ·go_enter Try.func69, Try.ntmps69; go_wp2
  go_end0
  exact ⟨rfl, ⟨v, by simpa [Out.need] using hb.set_ 2 (.bool true), by simpa [Out.need] using ownsRow_setCell_below ho (a := ⟨g, 2, none⟩) (by simp) _⟩, (Turned.refl _ _).setCell _ _⟩
 ·go_enter Try.func69, Try.ntmps69; go_wp2
  go_end0
  exact ⟨rfl, ⟨v, by simpa [Out.need] using hb, by simpa [Out.need] using ho⟩, Turned.refl _ _⟩
theorem wrt_app {w w' : World} {g : Nat} {S : Out} {v v' : Value} {m : List UInt8} (hb : Blk w g 98 #[v, .bool S.far, .bool S.odd]) (ho : w.ownsRow (g + 1) 5 1 v S.b.length (u8s S.b))
  (ho' : w'.ownsRow (g + 1) 5 1 v' (S.b.length + m.length) (u8s S.b ++ u8s m)) (hg : w.grownBy w' v.ownBlock) :
  Blk w' g 98 #[v, .bool S.far, .bool S.odd] ∧ Turned w w' g ∧ Wrt (w'.setCell ⟨g, 0, none⟩ v') g (S.raw m) ∧ Turned w (w'.setCell ⟨g, 0, none⟩ v') g := by
 have hb' : Blk w' g 98 #[v, .bool S.far, .bool S.odd] := hb.grown hg (fun e => by have := (ho.lt g e.symm).1; omega); have ht := (Turned.refl w g).grown ho hg (by omega) hb.lt; refine ⟨hb', ht, ⟨v', hb'.set_ 0 v', ?_⟩, ht.setCell _ _⟩; have := ownsRow_setCell_below ho' (a := ⟨g, 0, none⟩) (by simp) v'; simpa [Out.raw, u8s_append] using this
end Go.Proofs.Ytlfonmpgenoooaa
