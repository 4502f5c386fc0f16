/- The frame of every law of this seat whose arguments are of a bounded bulk: if the law's walk returns true and turns nothing that was there, the given statement ('upto') holds. -/
import Derived.Test.YtjjkdmngmopjbaaFrame
import Derived.Test.YtjjkdmngmopjbaaRows
namespace Go.Proofs.Ytjjkdmngmopjbaa
open Go.ChangeShapes Go.WideShapes Go.ChangeAt Go.RowKit
section
variable {H : Type} {enc : TypeId × Value → H} {P : Program}
/-- What a law's walk has to show, where there is not too much of what came in. -/
def LawWalkB (enc : TypeId × Value → H) (P : Program) (fn : Func) (f : FuncId) : Prop :=
  ∀ (W : World) (args : Array Value) (ds : List (DataW H)) (p : List MemPlace),
    DataW.TrodAll enc P W 0 (fun _ => true) true fn.params.toList args.toList ds p → (∀ (j : Nat) t v, fn.params[j]? = some t → args[j]? = some v → Value.okWide P W .any 0 t v) →
    (∀ x ∈ p, x.block < W.heap.size) → W.noneFrozen p → Rows.uptoBulkAll ds ≤ 1048576 →
    Calls P f args W fun e w' => e = .returned (.bool true) ∧ Below W.heap.size W w'
theorem law_contract {C : Checked} {f : FuncId} {fn : Func} {s : ChangeSpec} {T : TypeId}
    (hl : laidOutB C.prog = true) (hr : fn.params.toList.all (fun t => C.prog.readableRec t && decide (t < C.prog.types.size)) = true) (hvars : s.vars = [])
    (hres : fn.resultTypes = #[T]) (hT : C.prog.underlying T = some .bool)
    (hspec : ∀ ds : List (DataW H), ds.length = fn.params.toList.length → s.fn H (ds ++ []) = { results := [.lit (.bool true)], args := ds })
    (walk : LawWalkB enc C.prog fn f)
    (W : World) (args : Array Value) (ds gs : List (DataW H)) (before : List MemPlace)
    (hval : ∀ (j : Nat) t v, fn.params[j]? = some t → args[j]? = some v → Value.okWide C.prog W .any 0 t v)
    (hW : DataW.Whole enc C.prog fn.params.toList s.vars false W args.toList ds gs before) (hk : Rows.uptoSmall H (ds ++ gs) = true) :
    Calls C.prog f args W fun e W' => ∃ v, e = .returned v ∧ s.post enc C.prog fn false true false false W args v W' := by
  have hW' := hW
  obtain ⟨p, q, hA, hV, rfl, hfz, _⟩ := hW
  rw [hvars] at hV
  have hV0 := hV
  have hgs : gs = [] ∧ q = [] := by
    cases gs <;> simp [DataW.TrodVars] at hV
    exact ⟨rfl, hV⟩
  obtain ⟨rfl, rfl⟩ := hgs
  have hlt : ∀ x ∈ p, x.block < W.heap.size := fun x hx => by simpa using hW'.lt x (by simp [hx])
  have hb : Rows.uptoBulkAll (ds ++ []) ≤ 1048576 := of_decide_eq_true hk
  rw [List.append_nil] at hb
  refine (walk W args ds p hA hval hlt (by simpa using hfz) hb).mono fun e W' ⟨he, bel⟩ => ?_
  subst he
  have hsp := hspec ds (trodAll_length _ _ _ _ hA).1
  refine ⟨_, rfl, ds, [], _, [], p, [], hW', ?_, ?_, ?_, bel.frame _, fun h => by cases h⟩
  · rw [hsp, hres]
    exact trodAll_mk1 (shut_bool hT _)
  · rw [hsp]
    exact trodAll_below hl bel _ _ _ _ hr hlt hA
  · rw [hsp, hvars]
    exact hV0
end
end Go.Proofs.Ytjjkdmngmopjbaa
