/- Y2: what is tidied is plain, and is not tidied further. The statement. -/
import Derived.Test.YtgjbcahpgkchfaaProg
import Derived.Test.YtgjbcahpgkchfaaRows
import Derived.Test.YtgjbcahpgkchfaaG06
import Derived.Test.YtgjbcahpgkchfaaG37
import Derived.SizedLaws
set_option linter.unusedSimpArgs false
set_option linter.unusedVariables false
namespace Go.Proofs.Ytgjbcahpgkchfaa
open Go.RowKit
section
open Go.ChangeShapes Go.WideShapes Go.ChangeAt
variable {H : Type} {enc : TypeId × Value → H} {P : Program}
def LawWalkS (enc : TypeId × Value → H) (P : Program) (fn : Func) (f : FuncId) : Prop :=
 ∀ (W : World) (args : Array Value) (ds : List (DataW H)) (p : List MemPlace), DataW.TrodAll enc P W 0 (fun _ => true) true fn.params.toList args.toList ds p → (∀ (j : Nat) t v, fn.params[j]? = some t → args[j]? = some v → Value.okWide P W .any 0 t v) →
  (∀ x ∈ p, x.block < W.heap.size) → W.noneFrozen p → (DataW.weightsEach P fn.params.toList ds).all (· ≤ reachBytes) = true →
  Calls P f args W fun e w' => e = .returned (.bool true) ∧ Below W.heap.size W w'
theorem law_liftS {C : Checked} {os : Os} {f : FuncId} {fn : Func} {s : ChangeSpec} {T : TypeId}
  (own : ownKnob C.prog.godebug = none) (started : os.Started) (noInit : C.prog.inits.idxOf? f = none) (hfn : C.prog.funcs[f]? = some fn)
  (hl : laidOutB C.prog = true) (hr : fn.params.toList.all (fun t => C.prog.readableRec t && decide (t < C.prog.types.size)) = true) (hvars : s.vars = [])
  (hpl : s.plain.varTypes C.prog = [])
  (hres : fn.resultTypes = #[T]) (hT : C.prog.underlying T = some .bool)
  (hspec : ∀ ds : List (DataW H), ds.length = fn.params.toList.length → s.fn H (ds ++ []) = { results := [.lit (.bool true)], args := ds })
  (witness : ∃ (w : World) (tape : Tape) (i : Input), w.os = os ∧ (w.forCall tape i).Shaped C.prog ∧ i.vars = [] ∧ Input.okWide C.prog (w.forCall tape i) .any w.heap.size f i ∧
   s.pre6 enc C.prog fn [] false (w.forCall tape i).memory i.args ∧ ({} : Assume).holds C.prog (lone (Frame.enter C.prog f i.args .normal) [] (w.forCall tape i)))
  (walk : LawWalkS enc C.prog fn f) :
  ReturnsInHanded {} C os f .any (s.pre6 enc C.prog fn [] false) (s.post enc C.prog fn false true false false) := by
 refine returnsInHanded_of_change_sized own started noInit hfn witness ?_; intro W base args ds gs before hval hW _ hsz _; have hW' := hW; obtain ⟨p, q, hA, hV, rfl, hfz, _⟩ := hW; rw [hvars] at hV; have hV0 := hV; have hgs : gs = [] ∧ q = [] := by
  cases gs <;> simp [DataW.TrodVars] at hV
  exact ⟨rfl, hV⟩
 obtain ⟨rfl, rfl⟩ := hgs; rw [hpl, List.append_nil, List.append_nil] at hsz; have hlt : ∀ x ∈ p, x.block < W.heap.size := fun x hx => by simpa using hW'.lt x (by simp [hx])
 have hval0 : ∀ (j : Nat) t v, fn.params[j]? = some t → args[j]? = some v → Value.okWide C.prog W .any 0 t v := fun j t v h1 h2 => hval j t v h1 h2
 refine (walk W args ds p hA hval0 hlt (by simpa using hfz) hsz).mono fun e W' ⟨he, bel⟩ => ?_
 subst he; have hsp := hspec ds (trodAll_length _ _ _ _ hA).1; refine ⟨_, rfl, ds, [], _, [], p, [], hW', ?_, ?_, ?_, bel.frame _, fun h => by cases h⟩
 ·rw [hsp, hres]; exact trodAll_mk1 (shut_bool hT _)
 ·rw [hsp]; exact trodAll_below hl bel _ _ _ _ hr hlt hA
 ·rw [hsp, hvars]; exact hV0
set_option maxRecDepth 100000 in
theorem names_small {W : World} {A A' : Option Addr} {n c n' c' : Nat} {d : DataW H} {p : List MemPlace} (h : DataW.Trod enc Try.prog W 0 (fun _ => true) true 25 (codV A n c A' n' c') d p) (hsz : (DataW.weightsEach Try.prog [25] [d]).all (· ≤ reachBytes) = true) : n' ≤ 8796093022207 := by
 obtain ⟨fuel, hf⟩ := h; obtain ⟨xs, m, _, hx, _, hl, hg⟩ := DataW.trod_struct Try.underlying25 hf; have hx : d = .agg (xs.map (·.1)) := congrArg Prod.fst hx; have h1 := hg 1 _ rfl; have es : Try.prog.cellsOf 23 = 1 := by kernel_rfl
 have eb : Try.prog.bytesOf 9 = 16 := by kernel_rfl
 have hl2 : xs.length = 2 := hl; have h1l : 1 < xs.length := by omega
 rw [List.getElem?_eq_getElem h1l] at h1; have h1 : DataW.trod enc Try.prog W 0 (fun _ => true) true m 23 (([Value.slice A n c, Value.slice A' n' c'].drop 1).take (Try.prog.cellsOf 23)) = some xs[1] := h1; rw [es] at h1
 rcases DataW.trod_slice Try.underlying23 h1 with ⟨hc, _⟩ | ⟨a, len, cap, elems, rest, _, _, hc, hx1, _, _, _, hel, _⟩
 ·simp at hc; omega
 ·simp at hc; obtain ⟨_, rfl, _⟩ := hc; have hw := List.all_eq_true.1 hsz ((elems.length + rest.length) * 16) (by
   subst hx; have e1 : ∃ x0, xs = [x0, xs[1]] := ⟨xs[0], by
    apply List.ext_getElem (by simp [hl2]); intro i h1 h2
    match i, h2 with
    | 0, _ => rfl
    | 1, _ => rfl⟩
   obtain ⟨x0, e1⟩ := e1; rw [e1, hx1]; simp [DataW.weightsEach, DataW.weights, Try.underlying25, Try.underlying23, eb])
  simp only [decide_eq_true_eq] at hw; unfold reachBytes at hw; omega
end
namespace tidySees
open Go.ChangeShapes Go.WideShapes Go.ChangeAt Go.RowKit
set_option linter.unusedVariables false
set_option maxRecDepth 100000 in
theorem walk {H : Type} (enc : TypeId × Value → H) : LawWalkS enc Try.prog Try.f3 3 := by
 intro W args ds p hA hval hlt hfz hsz; rw [Try.params3] at hA hval hsz; obtain ⟨v0, vs0, d0, ds0, p0, q0, hargs, rfl, rfl, h0, r0⟩ := trodAll_cons hA; obtain ⟨rfl, rfl, rfl⟩ := trodAll_nil r0; obtain rfl : args = #[v0] := by cases args; simp_all
 obtain ⟨x0, rfl, hx0⟩ := open_code (hval 0 _ v0 rfl rfl) h0; exact tidySees_walk x0 W hx0 (names_small h0 hsz)
set_option maxRecDepth 100000 in
theorem shape (H : Type) (ds : List (DataW H)) (h : ds.length = (Try.f3).params.toList.length) : Rows.tidySeesSpec.fn H (ds ++ []) = { results := [DataW.lit (Lit.bool true)], args := ds } := match ds, h with | [_], _ => rfl
set_option maxRecDepth 100000 in
theorem wit (os : Os) (H : Type) (enc : TypeId × Value → H) : ∃ (w : World) (tape : Tape) (i : Input), w.os = os ∧ (w.forCall tape i).Shaped Try.prog ∧ i.vars = [] ∧ Input.okWide Try.prog (w.forCall tape i) .any w.heap.size 3 i ∧ ChangeSpec.pre6 enc Try.prog Try.f3 Rows.tidySeesSpec [] false (w.forCall tape i).memory i.args ∧ ({ } : Assume).holds Try.prog (lone (Frame.enter Try.prog 3 i.args .normal) [] (w.forCall tape i)) :=
 ChangeSpec.witness6 (enc := enc) (C := Try.checked) false ⟨#[], #[.agg #[.slice none 0 0, .slice none 0 0]], []⟩ 8 (by kernel_rfl) (by kernel_rfl) (by kernel_rfl) (by kernel_rfl)
set_option maxRecDepth 100000 in
theorem lifted (os : Os) (started : os.Started) (H : Type) (enc : TypeId × Value → H) : ReturnsInHanded {} Try.checked os 3 .any (ChangeSpec.pre6 enc Try.prog Try.f3 Rows.tidySeesSpec [] false) (ChangeSpec.post enc Try.prog Try.f3 Rows.tidySeesSpec false true false false) :=
 law_liftS (C := Try.checked) (s := Rows.tidySeesSpec) (by kernel_rfl) started (by kernel_rfl) Try.func3 (by kernel_rfl) (by kernel_rfl) rfl rfl rfl Try.underlying4 (shape H) (wit os H enc) (walk enc)
set_option maxRecDepth 100000 in
theorem funcAt : Try.pinned.checked.prog.funcNamed Rows.tidySeesRow.func = some 3 := by kernel_rfl
set_option maxRecDepth 100000 in
theorem closed : joinedFacts Try.pinned.checked.prog 3 Try.f3 Rows.tidySeesSpec Rows.tidySeesRow = true := by kernel_rfl
set_option maxRecDepth 100000 in
theorem over : Rows.tidySeesRow.holds Try.pinned (OpenSpec.ofChange Rows.tidySeesSpec) :=
 OpenClaim.holds_of_wide 3 Try.f3 rfl rfl rfl rfl rfl rfl rfl ⟨rfl, rfl, rfl, rfl, rfl⟩ rfl rfl rfl rfl rfl funcAt Try.func3 closed
  (of_decide_eq_true (by kernel_rfl)) (by unfold Func.isWrapper; first | (rw [if_pos (by decide +kernel)]; kernel_rfl) | (rw [if_neg (by decide +kernel)]; exact ⟨rfl, rfl⟩))
  (fun os started H enc _ => lifted os started H enc)
end tidySees
theorem tidySees_holds : Rows.TidySeesSaid := tidySees.over
#print axioms tidySees_holds
end Go.Proofs.Ytgjbcahpgkchfaa
