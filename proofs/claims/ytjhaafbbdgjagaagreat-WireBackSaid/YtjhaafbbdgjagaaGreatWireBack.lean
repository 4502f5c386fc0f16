/- WireBack: the statement, of every number and every text. -/
import Derived.Test.YtjhaafbbdgjagaaGreatProg
import Derived.Test.YtjhaafbbdgjagaaGreatG47
import Derived.Test.YtjhaafbbdgjagaaGreatG28
import Derived.Test.YtjhaafbbdgjagaaGreatG27
import Derived.Test.YtjhaafbbdgjagaaGreatRows
set_option linter.unusedSimpArgs false
set_option linter.unusedVariables false
namespace Go.Proofs.YtjhaafbbdgjagaaGreat
open Go.RowKit Vc
set_option maxRecDepth 100000
def cfg_back : Cfg := { con := [(7, 0), (6, 0), (8, 1), (9, 0)] }
def vcd_back : { v : VC // vcOf Tryz.prog cfg_back 4 = v } := by refine ⟨?v, ?h⟩; rotate_left; conv => lhs; reduce
theorem vce_back : vcOf Tryz.prog cfg_back 4 = vcd_back.1 := vcd_back.2
theorem back_ok : Keeps Tryz.prog 4 LawS := by
 refine keeps_v Tryz.func4 cfg_back vce_back [.i, .s] LawS [(7, PickS), (6, PairS), (8, PutC numK), (9, numG)] ⟨pick_ok, pair_ok, kputnum_ok, gw_num, trivial⟩ (by kernel_rfl) (fun _ _ _ h _ => h) ?_; intro k s w hp; refine ⟨[], vc_use ?Q ?h ?g⟩
 case h => intro O C s I b; conv => lhs; reduce
 dsimp only [std]; simp only [ctrOf, invOf, List.lookup, Nat.reduceBEq, Option.getD_some, Int.reduceOfNat, Int.reduceNegSucc]; refine ⟨fun _ => ⟨rfl, fun _ _ => trivial⟩, fun h => ⟨fun _ _ => ⟨hp, by decide⟩, fun i _ => ⟨fun _ _ => by show Small s; unfold Small; omega, fun c0 c1 c2 c3 c4 c5 c6 c7 hq => ?_⟩⟩⟩; obtain ⟨e, f, b, hq, hb⟩ := hq; simp only [List.cons.injEq, U.s.injEq, U.i.injEq, and_true] at hq; obtain ⟨rfl, rfl, rfl, rfl, rfl, rfl, rfl, rfl⟩ := hq; refine ⟨Option Int, some 300, fun _ _ => ⟨300, _, rfl, trivial, trivial, fun y hy => by injection hy⟩, fun t g hn => ?_⟩; obtain ⟨rfl, rfl⟩ := put_post (K := numK) (A := [.i 300]) hn; refine ⟨fun _ _ => by show Small _; unfold Small; rw [show (bs (numK.out 300).rs).size = 3 by rfl]; omega, fun x e2 hg => ?_⟩; have hw : pWhole numK.R.p (fun y => (numK.out y).re) (bs (numK.out 300).rs) = .ok 300 := by kernel_rfl
 obtain ⟨_, _, y, hx, _, _, hy⟩ := hg; rw [hw] at hx hy; replace hy : y = 300 := hy; subst hy; replace hx : [U.i x, U.i e2] = [U.i 300, U.i 0] := hx; simp only [List.cons.injEq, U.i.injEq, and_true] at hx; obtain ⟨rfl, rfl⟩ := hx; refine ⟨fun _ => ⟨fun _ => ⟨fun _ => ⟨rfl, fun _ _ => trivial⟩, fun h0 => ⟨fun _ => ?_, fun h => absurd rfl h⟩⟩, fun h => absurd rfl h⟩, fun h => absurd rfl h⟩; obtain ⟨h1, rfl⟩ := hb h0; exact ⟨fun _ => ⟨by show [U.b _] = [U.b true]; simp, fun _ _ => trivial⟩, fun h => absurd h1 h⟩
namespace wireBack
open Go.ChangeShapes Go.WideShapes Go.ChangeAt Go.RowKit
set_option linter.unusedVariables false
set_option maxRecDepth 100000 in
theorem walk {H : Type} (enc : TypeId × Value → H) : LawWalk enc Tryz.prog Tryz.f4 4 := by
 intro W args ds p hA hval hlt hfz; rw [Tryz.params4] at hA hval; obtain ⟨v0, vs0, d0, ds0, p0, q0, hargs, rfl, rfl, h0, r0⟩ := trodAll_cons hA; obtain ⟨v1, vs1, d1, ds1, p1, q1, rfl, rfl, rfl, h1, r1⟩ := trodAll_cons r0; obtain ⟨rfl, rfl, rfl⟩ := trodAll_nil r1; obtain rfl : args = #[v0, v1] := by cases args; simp_all
 obtain ⟨a0, rfl, _, _, wa0⟩ := open_int Tryz.underlying3 (hval 0 _ v0 rfl rfl) h0; obtain ⟨s1, rfl, _, _, ws1⟩ := Go.ChangeMaps.open_string Tryz.underlying9 (hval 1 _ v1 rfl rfl) h1; exact law_calls back_ok Tryz.func4 (by kernel_rfl) (by kernel_rfl) a0 s1 (wf_i64 wa0) W
set_option maxRecDepth 100000 in
theorem shape (H : Type) (ds : List (DataW H)) (h : ds.length = (Tryz.f4).params.toList.length) : Rows.wireBackSpec.fn H (ds ++ []) = { results := [DataW.lit (Lit.bool true)], args := ds } := match ds, h with | [_, _], _ => rfl
set_option maxRecDepth 100000 in
theorem wit (os : Os) (H : Type) (enc : TypeId × Value → H) : ∃ (w : World) (tape : Tape) (i : Input), w.os = os ∧ (w.forCall tape i).Shaped Tryz.prog ∧ i.vars = [] ∧ Input.okWide Tryz.prog (w.forCall tape i) .any w.heap.size 4 i ∧ ChangeSpec.pre6 enc Tryz.prog Tryz.f4 Rows.wireBackSpec [] false (w.forCall tape i).memory i.args ∧ ({ } : Assume).holds Tryz.prog (lone (Frame.enter Tryz.prog 4 i.args .normal) [] (w.forCall tape i)) :=
 ChangeSpec.witness6 (enc := enc) (C := Tryz.checked) false ⟨#[], #[.int .i64 0, .string ⟨#[]⟩], []⟩ 8 (by kernel_rfl) (by kernel_rfl) (by kernel_rfl) (by kernel_rfl)
set_option maxRecDepth 100000 in
theorem lifted (os : Os) (started : os.Started) (H : Type) (enc : TypeId × Value → H) : ReturnsInHanded {} Tryz.checked os 4 .any (ChangeSpec.pre6 enc Tryz.prog Tryz.f4 Rows.wireBackSpec [] false) (ChangeSpec.post enc Tryz.prog Tryz.f4 Rows.wireBackSpec false true false false) :=
 law_lift (C := Tryz.checked) (s := Rows.wireBackSpec) (by kernel_rfl) started (by kernel_rfl) Tryz.func4 (by kernel_rfl) (by kernel_rfl) rfl rfl Tryz.underlying4 (shape H) (wit os H enc) (walk enc)
set_option maxRecDepth 100000 in
theorem funcAt : Tryz.pinned.checked.prog.funcNamed Rows.wireBackRow.func = some 4 := by kernel_rfl
set_option maxRecDepth 100000 in
theorem closed : joinedFacts Tryz.pinned.checked.prog 4 Tryz.f4 Rows.wireBackSpec Rows.wireBackRow = true := by kernel_rfl
set_option maxRecDepth 100000 in
theorem over : Rows.wireBackRow.holds Tryz.pinned (OpenSpec.ofChange Rows.wireBackSpec) :=
 OpenClaim.holds_of_wide 4 Tryz.f4 rfl rfl rfl rfl rfl rfl rfl ⟨rfl, rfl, rfl, rfl, rfl⟩ rfl rfl rfl rfl rfl funcAt Tryz.func4 closed
  (of_decide_eq_true (by kernel_rfl)) (by unfold Func.isWrapper; first | (rw [if_pos (by decide +kernel)]; kernel_rfl) | (rw [if_neg (by decide +kernel)]; exact ⟨rfl, rfl⟩))
  (fun os started H enc _ => lifted os started H enc)
end wireBack
theorem wireBack_holds : Rows.WireBackSaid := wireBack.over
#print axioms wireBack_holds
end Go.Proofs.YtjhaafbbdgjagaaGreat
