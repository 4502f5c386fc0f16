/- WireGets: the statement, of every number and every text. -/
import Derived.Test.YtjhaafbbdgjagaaGreatProg
import Derived.Test.YtjhaafbbdgjagaaGreatG47
import Derived.Test.YtjhaafbbdgjagaaGreatG28
import Derived.Test.YtjhaafbbdgjagaaGreatG27
import Derived.Test.YtjhaafbbdgjagaaGreatRows
set_option linter.unusedSimpArgs false
set_option linter.unusedVariables false
namespace Go.Proofs.YtjhaafbbdgjagaaGreat
open Go.RowKit Vc
set_option maxRecDepth 100000
def cfg_gets : Cfg := { con := [(7, 0), (6, 0)] }
def vcd_gets : { v : VC // vcOf Tryz.prog cfg_gets 3 = v } := ⟨VC.and (VC.imp (X.bin (BOp.lt) (X.int 65536) (X.un (UOp.cast) (X.un (UOp.size) (X.var 1)))) (VC.ret [X.un (UOp.co (Srt.b)) (X.bool true)] [FX.pre])) (VC.imp (X.un (UOp.not) (X.bin (BOp.lt) (X.int 65536) (X.un (UOp.cast) (X.un (UOp.size) (X.var 1))))) (VC.pre 7 [X.un (UOp.co (Srt.i)) (X.var 0), X.un (UOp.co (Srt.i)) (X.int 15)] [FX.pre] (VC.all 2 (Srt.i) (VC.post 7 [X.un (UOp.co (Srt.i)) (X.var 0), X.un (UOp.co (Srt.i)) (X.int 15)] [X.var 2] (VC.pre 6 [X.un (UOp.co (Srt.i)) (X.var 2), X.un (UOp.co (Srt.s)) (X.var 1)] [FX.pre, FX.fact 7 [X.un (UOp.co (Srt.i)) (X.var 0), X.un (UOp.co (Srt.i)) (X.int 15)] [X.var 2]] (VC.all 3 (Srt.s) (VC.all 4 (Srt.i) (VC.all 5 (Srt.i) (VC.all 6 (Srt.s) (VC.all 7 (Srt.s) (VC.all 8 (Srt.i) (VC.all 9 (Srt.i) (VC.all 10 (Srt.s) (VC.post 6 [X.un (UOp.co (Srt.i)) (X.var 2), X.un (UOp.co (Srt.s)) (X.var 1)] [X.var 3, X.var 4, X.var 5, X.var 6, X.var 7, X.var 8, X.var 9, X.var 10] (VC.ret [X.un (UOp.co (Srt.b)) (X.bin (BOp.and) (X.bin (BOp.seq) (X.var 3) (X.var 7)) (X.bin (BOp.and) (X.bin (BOp.eq) (X.var 4) (X.var 8)) (X.bin (BOp.and) (X.bin (BOp.eq) (X.var 5) (X.var 9)) (X.bin (BOp.seq) (X.var 6) (X.var 10)))))] [FX.pre, FX.fact 7 [X.un (UOp.co (Srt.i)) (X.var 0), X.un (UOp.co (Srt.i)) (X.int 15)] [X.var 2], FX.fact 6 [X.un (UOp.co (Srt.i)) (X.var 2), X.un (UOp.co (Srt.s)) (X.var 1)] [X.var 3, X.var 4, X.var 5, X.var 6, X.var 7, X.var 8, X.var 9, X.var 10]]))))))))))))))), by kernel_rfl⟩
theorem vce_gets : vcOf Tryz.prog cfg_gets 3 = vcd_gets.1 := vcd_gets.2
theorem gets_ok : Keeps Tryz.prog 3 LawS := by
 refine keeps_v Tryz.func3 cfg_gets vce_gets [.i, .s] LawS [(7, PickS), (6, PairS)] ⟨pick_ok, pair_ok, trivial⟩ (by kernel_rfl) (fun _ _ _ h _ => h) ?_; intro k s w hp; refine ⟨[], vc_use ?Q ?h ?g⟩
 case h => intro O C s I b; conv => lhs; reduce
 dsimp only [std]; simp only [ctrOf, invOf, List.lookup, Nat.reduceBEq, Option.getD_some, Int.reduceOfNat, Int.reduceNegSucc]; refine ⟨fun _ => ⟨rfl, fun _ _ => trivial⟩, fun h => ⟨fun _ _ => ⟨hp, by decide⟩, fun i _ => ⟨fun _ _ => by show Small s; unfold Small; omega, fun c0 c1 c2 c3 c4 c5 c6 c7 hq => ?_⟩⟩⟩; obtain ⟨e, f, b, hq, _⟩ := hq; simp only [List.cons.injEq, U.s.injEq, U.i.injEq, and_true] at hq; obtain ⟨rfl, rfl, rfl, rfl, rfl, rfl, rfl, rfl⟩ := hq; refine ⟨?_, fun _ _ => trivial⟩; show [U.b _] = [U.b true]; simp
namespace wireGets
open Go.ChangeShapes Go.WideShapes Go.ChangeAt Go.RowKit
set_option linter.unusedVariables false
set_option maxRecDepth 100000 in
theorem walk {H : Type} (enc : TypeId × Value → H) : LawWalk enc Tryz.prog Tryz.f3 3 := by
 intro W args ds p hA hval hlt hfz; rw [Tryz.params3] at hA hval; obtain ⟨v0, vs0, d0, ds0, p0, q0, hargs, rfl, rfl, h0, r0⟩ := trodAll_cons hA; obtain ⟨v1, vs1, d1, ds1, p1, q1, rfl, rfl, rfl, h1, r1⟩ := trodAll_cons r0; obtain ⟨rfl, rfl, rfl⟩ := trodAll_nil r1; obtain rfl : args = #[v0, v1] := by cases args; simp_all
 obtain ⟨a0, rfl, _, _, wa0⟩ := open_int Tryz.underlying3 (hval 0 _ v0 rfl rfl) h0; obtain ⟨s1, rfl, _, _, ws1⟩ := Go.ChangeMaps.open_string Tryz.underlying9 (hval 1 _ v1 rfl rfl) h1; exact law_calls gets_ok Tryz.func3 (by kernel_rfl) (by kernel_rfl) a0 s1 (wf_i64 wa0) W
set_option maxRecDepth 100000 in
theorem shape (H : Type) (ds : List (DataW H)) (h : ds.length = (Tryz.f3).params.toList.length) : Rows.wireGetsSpec.fn H (ds ++ []) = { results := [DataW.lit (Lit.bool true)], args := ds } := match ds, h with | [_, _], _ => rfl
set_option maxRecDepth 100000 in
theorem wit (os : Os) (H : Type) (enc : TypeId × Value → H) : ∃ (w : World) (tape : Tape) (i : Input), w.os = os ∧ (w.forCall tape i).Shaped Tryz.prog ∧ i.vars = [] ∧ Input.okWide Tryz.prog (w.forCall tape i) .any w.heap.size 3 i ∧ ChangeSpec.pre6 enc Tryz.prog Tryz.f3 Rows.wireGetsSpec [] false (w.forCall tape i).memory i.args ∧ ({ } : Assume).holds Tryz.prog (lone (Frame.enter Tryz.prog 3 i.args .normal) [] (w.forCall tape i)) :=
 ChangeSpec.witness6 (enc := enc) (C := Tryz.checked) false ⟨#[], #[.int .i64 0, .string ⟨#[]⟩], []⟩ 8 (by kernel_rfl) (by kernel_rfl) (by kernel_rfl) (by kernel_rfl)
set_option maxRecDepth 100000 in
theorem lifted (os : Os) (started : os.Started) (H : Type) (enc : TypeId × Value → H) : ReturnsInHanded {} Tryz.checked os 3 .any (ChangeSpec.pre6 enc Tryz.prog Tryz.f3 Rows.wireGetsSpec [] false) (ChangeSpec.post enc Tryz.prog Tryz.f3 Rows.wireGetsSpec false true false false) :=
 law_lift (C := Tryz.checked) (s := Rows.wireGetsSpec) (by kernel_rfl) started (by kernel_rfl) Tryz.func3 (by kernel_rfl) (by kernel_rfl) rfl rfl Tryz.underlying4 (shape H) (wit os H enc) (walk enc)
set_option maxRecDepth 100000 in
theorem funcAt : Tryz.pinned.checked.prog.funcNamed Rows.wireGetsRow.func = some 3 := by kernel_rfl
set_option maxRecDepth 100000 in
theorem closed : joinedFacts Tryz.pinned.checked.prog 3 Tryz.f3 Rows.wireGetsSpec Rows.wireGetsRow = true := by kernel_rfl
set_option maxRecDepth 100000 in
theorem over : Rows.wireGetsRow.holds Tryz.pinned (OpenSpec.ofChange Rows.wireGetsSpec) :=
 OpenClaim.holds_of_wide 3 Tryz.f3 rfl rfl rfl rfl rfl rfl rfl ⟨rfl, rfl, rfl, rfl, rfl⟩ rfl rfl rfl rfl rfl funcAt Tryz.func3 closed
  (of_decide_eq_true (by kernel_rfl)) (by unfold Func.isWrapper; first | (rw [if_pos (by decide +kernel)]; kernel_rfl) | (rw [if_neg (by decide +kernel)]; exact ⟨rfl, rfl⟩))
  (fun os started H enc _ => lifted os started H enc)
end wireGets
theorem wireGets_holds : Rows.WireGetsSaid := wireGets.over
#print axioms wireGets_holds
end Go.Proofs.YtjhaafbbdgjagaaGreat
