/- Of the texts OpenC. -/
import Derived.Test.YtgjbcahpgkchfaaProg
import Derived.Test.YtgjbcahpgkchfaaG24
import Derived.Test.YtgjbcahpgkchfaaG27
import Derived.Test.YtgjbcahpgkchfaaG29
import Derived.Test.YtgjbcahpgkchfaaG31
import Derived.Test.YtgjbcahpgkchfaaG08
set_option linter.unusedSimpArgs false
set_option linter.unusedVariables false
namespace Go.Proofs.Ytgjbcahpgkchfaa
open Go.ChangeShapes Go.WideShapes Go.ChangeAt Go.RowKit Go.Deep
def insC (i : Ins) : List Value := [.int .i64 i.op, .int .i64 i.a, .int .i64 i.b]
theorem InsR.of_lay {w : World} {B : Nat} {A : Option Addr} {I : List Ins} (h : Lay 3 insC w B A I) : InsR w B A I := fun k hk => by
 obtain ⟨b, off, e, hb, hc⟩ := Lay.at_ (n := 3) (f := insC) (fun _ => rfl) (by omega) h hk; exact ⟨b, off, e, hb, hc 0 _ rfl, hc 1 _ rfl, hc 2 _ rfl⟩
structure PceD where
 p : Pce
 A : Option Addr
 c : Nat
def PceD.cells (x : PceD) : List Value := [.string (bs x.p.name), .bool x.p.opn, .int .i64 x.p.params, .int .i64 x.p.locals, .slice x.A x.p.body.length x.c]
theorem PcsR.of_lay {w : World} {B : Nat} {A : Option Addr} {l : List PceD} (h : Lay 5 PceD.cells w B A l) (hi : ∀ x ∈ l, InsR w B x.A x.p.body) : PcsR w B A (l.map (·.p)) := fun k hk => by
 simp only [List.length_map] at hk; obtain ⟨b, off, e, hb, hc⟩ := Lay.at_ (n := 5) (f := PceD.cells) (fun _ => rfl) (by omega) h hk; simp only [List.getElem_map]; exact ⟨b, off, l[k].A, l[k].c, e, hb, hc 0 _ rfl, hc 1 _ rfl, hc 2 _ rfl, hc 3 _ rfl, hc 4 _ rfl, hi _ (List.getElem_mem hk)⟩
section
variable {H : Type} {enc : TypeId × Value → H} {W : World}
def IsBool0 (cs : List Value) (b : Bool) : Prop := cs = [.bool b] ∧ True
set_option maxRecDepth 100000 in
theorem bool_trod0 : ∀ fuel cs x, DataW.trod enc Try.prog W 0 (fun _ => true) true fuel 4 cs = some x → ∃ b, IsBool0 cs b := by
 intro fuel cs x h; obtain ⟨b, rfl, _⟩ := DataW.trod_bool Try.underlying4 h; exact ⟨b, rfl, trivial⟩
def IsIns (cs : List Value) (i : Ins) : Prop := cs = insC i ∧ True
set_option maxRecDepth 100000 in
theorem ins_trod : ∀ fuel cs x, DataW.trod enc Try.prog W 0 (fun _ => true) true fuel 31 cs = some x → ∃ i, IsIns cs i := by
 intro fuel cs x h; obtain ⟨hl, n, hf⟩ := open_struct Try.underlying31 h; have e : Try.prog.cellsOf 31 = 3 := by kernel_rfl
 have ei : Try.prog.cellsOf 3 = 1 := by kernel_rfl
 rw [e] at hl
 match cs, hl with
 | [c0, c1, c2], _ =>
  obtain ⟨y0, (h0 : DataW.trod enc Try.prog W 0 (fun _ => true) true n 3 (([c0, c1, c2].drop 0).take (Try.prog.cellsOf 3)) = some y0)⟩ := hf 0 _ rfl; obtain ⟨y1, (h1 : DataW.trod enc Try.prog W 0 (fun _ => true) true n 3 (([c0, c1, c2].drop 1).take (Try.prog.cellsOf 3)) = some y1)⟩ := hf 1 _ rfl; obtain ⟨y2, (h2 : DataW.trod enc Try.prog W 0 (fun _ => true) true n 3 (([c0, c1, c2].drop 2).take (Try.prog.cellsOf 3)) = some y2)⟩ := hf 2 _ rfl; rw [ei] at h0 h1 h2; obtain ⟨a, ha, _⟩ := int_trod _ _ _ h0; obtain ⟨b, hb, _⟩ := int_trod _ _ _ h1; obtain ⟨d, hd, _⟩ := int_trod _ _ _ h2; simp at ha hb hd; subst ha; subst hb; subst hd; exact ⟨⟨a, b, d⟩, rfl, trivial⟩
def IsInss (W : World) (cs : List Value) (x : List Ins × Option Addr × Nat) : Prop := cs = [.slice x.2.1 x.1.length x.2.2] ∧ InsR W W.heap.size x.2.1 x.1 ∧ x.1.length ≤ maxLen
set_option maxRecDepth 100000 in
theorem inss_trod : ∀ fuel cs x, DataW.trod enc Try.prog W 0 (fun _ => true) true fuel 32 cs = some x → ∃ l, IsInss W cs l := by
 intro fuel cs x h; obtain ⟨l, hl⟩ := slOf_of_trod (size := 3) (R := IsIns) Try.underlying32 (by kernel_rfl) (by omega) ins_trod _ _ _ h; obtain ⟨A, c, e, h1, h2, h3, h4⟩ := hl.flat insC (fun _ _ hx => hx.1); exact ⟨(l, A, c), e, InsR.of_lay h3, by show l.length ≤ _; omega⟩
def IsPce (W : World) (cs : List Value) (x : PceD) : Prop := cs = x.cells ∧ InsR W W.heap.size x.A x.p.body ∧ x.p.body.length ≤ maxLen ∧ x.p.name.length ≤ maxLen
set_option maxRecDepth 100000 in
theorem pce_trod : ∀ fuel cs x, DataW.trod enc Try.prog W 0 (fun _ => true) true fuel 34 cs = some x → ∃ p, IsPce W cs p := by
 intro fuel cs x h; obtain ⟨hl, n, hf⟩ := open_struct Try.underlying34 h; have e : Try.prog.cellsOf 34 = 5 := by kernel_rfl
 have ei : Try.prog.cellsOf 3 = 1 := by kernel_rfl
 have es : Try.prog.cellsOf 9 = 1 := by kernel_rfl
 have eb : Try.prog.cellsOf 4 = 1 := by kernel_rfl
 have el : Try.prog.cellsOf 32 = 1 := by kernel_rfl
 rw [e] at hl
 match cs, hl with
 | [c0, c1, c2, c3, c4], _ =>
  obtain ⟨y0, (h0 : DataW.trod enc Try.prog W 0 (fun _ => true) true n 9 (([c0, c1, c2, c3, c4].drop 0).take (Try.prog.cellsOf 9)) = some y0)⟩ := hf 0 _ rfl; obtain ⟨y1, (h1 : DataW.trod enc Try.prog W 0 (fun _ => true) true n 4 (([c0, c1, c2, c3, c4].drop 1).take (Try.prog.cellsOf 4)) = some y1)⟩ := hf 1 _ rfl; obtain ⟨y2, (h2 : DataW.trod enc Try.prog W 0 (fun _ => true) true n 3 (([c0, c1, c2, c3, c4].drop 2).take (Try.prog.cellsOf 3)) = some y2)⟩ := hf 2 _ rfl; obtain ⟨y3, (h3 : DataW.trod enc Try.prog W 0 (fun _ => true) true n 3 (([c0, c1, c2, c3, c4].drop 3).take (Try.prog.cellsOf 3)) = some y3)⟩ := hf 3 _ rfl; obtain ⟨y4, (h4 : DataW.trod enc Try.prog W 0 (fun _ => true) true n 32 (([c0, c1, c2, c3, c4].drop 4).take (Try.prog.cellsOf 32)) = some y4)⟩ := hf 4 _ rfl; rw [es] at h0; rw [eb] at h1; rw [ei] at h2 h3; rw [el] at h4; obtain ⟨s, hs, hsl⟩ := str_trod _ _ _ h0; obtain ⟨b, hb, _⟩ := bool_trod0 _ _ _ h1; obtain ⟨a, ha, _⟩ := int_trod _ _ _ h2; obtain ⟨d, hd, _⟩ := int_trod _ _ _ h3; obtain ⟨⟨l, A, c⟩, hq, hI, hll⟩ := inss_trod _ _ _ h4; simp at hs hb ha hd hq; subst hs; subst hb; subst ha; subst hd; subst hq; exact ⟨⟨⟨s, b, a, d, l⟩, A, c⟩, rfl, hI, hll, hsl⟩
def IsPcs (W : World) (cs : List Value) (x : List Pce × Option Addr × Nat) : Prop := cs = [.slice x.2.1 x.1.length x.2.2] ∧ PcsR W W.heap.size x.2.1 x.1 ∧ x.1.length ≤ maxLen ∧ ∀ p ∈ x.1, p.body.length ≤ maxLen ∧ p.name.length ≤ maxLen
set_option maxRecDepth 100000 in
theorem pcs_trod : ∀ fuel cs x, DataW.trod enc Try.prog W 0 (fun _ => true) true fuel 22 cs = some x → ∃ l, IsPcs W cs l := by
 intro fuel cs x h; obtain ⟨l, hl⟩ := slOf_of_trod (size := 5) (R := IsPce W) Try.underlying22 (by kernel_rfl) (by omega) pce_trod _ _ _ h; obtain ⟨A, c, e, h1, h2, h3, h4⟩ := hl.flat PceD.cells (fun _ _ hx => hx.1); refine ⟨(l.map (·.p), A, c), by simpa using e, PcsR.of_lay h3 fun x hx => ?_, by show (l.map _).length ≤ _; rw [List.length_map]; omega, fun p hp => ?_⟩
 ·obtain ⟨cs, hc⟩ := h4 x hx; exact hc.2.1
 ·obtain ⟨x, hx, rfl⟩ := List.mem_map.mp hp; obtain ⟨cs, hc⟩ := h4 x hx; exact hc.2.2
def IsStrs (W : World) (cs : List Value) (x : List (List UInt8) × Option Addr × Nat) : Prop := cs = [.slice x.2.1 x.1.length x.2.2] ∧ Strs W W.heap.size x.2.1 x.1 ∧ x.1.length ≤ maxLen ∧ ∀ s ∈ x.1, s.length ≤ maxLen
set_option maxRecDepth 100000 in
theorem strs_trod0 : ∀ fuel cs x, DataW.trod enc Try.prog W 0 (fun _ => true) true fuel 23 cs = some x → ∃ l, IsStrs W cs l := by
 intro fuel cs x h; obtain ⟨l, hl⟩ := slOf_of_trod (size := 1) (R := IsStr) Try.underlying23 (by kernel_rfl) (by omega) str_trod _ _ _ h; obtain ⟨A, c, e, h1, h2, h3, h4⟩ := hl.flat (fun s => [.string (bs s)]) (fun _ _ hx => hx.1); rw [flatMap_one] at h3; refine ⟨(l, A, c), e, h3, by show l.length ≤ _; omega, fun s hs => ?_⟩; obtain ⟨cs, hc⟩ := h4 s hs; exact hc.2
structure CodD where
 ps : List Pce
 A : Option Addr
 c : Nat
 ns : List (List UInt8)
 A' : Option Addr
 c' : Nat
def CodD.held (x : CodD) (w : World) (B : Nat) : Prop := PcsR w B x.A x.ps ∧ x.ps.length ≤ maxLen ∧ (∀ p ∈ x.ps, p.body.length ≤ maxLen ∧ p.name.length ≤ maxLen) ∧ Strs w B x.A' x.ns ∧ x.ns.length ≤ maxLen ∧ ∀ s ∈ x.ns, s.length ≤ maxLen
def CodD.cells (x : CodD) : List Value := [.slice x.A x.ps.length x.c, .slice x.A' x.ns.length x.c']
set_option maxRecDepth 100000 in
theorem code_trod : ∀ fuel cs x, DataW.trod enc Try.prog W 0 (fun _ => true) true fuel 25 cs = some x → ∃ d : CodD, cs = d.cells ∧ d.held W W.heap.size := by
 intro fuel cs x h; obtain ⟨hl, n, hf⟩ := open_struct Try.underlying25 h; have e : Try.prog.cellsOf 25 = 2 := by kernel_rfl
 have es : Try.prog.cellsOf 23 = 1 := by kernel_rfl
 have el : Try.prog.cellsOf 22 = 1 := by kernel_rfl
 rw [e] at hl
 match cs, hl with
 | [c0, c1], _ =>
  obtain ⟨y0, (h0 : DataW.trod enc Try.prog W 0 (fun _ => true) true n 22 (([c0, c1].drop 0).take (Try.prog.cellsOf 22)) = some y0)⟩ := hf 0 _ rfl; obtain ⟨y1, (h1 : DataW.trod enc Try.prog W 0 (fun _ => true) true n 23 (([c0, c1].drop 1).take (Try.prog.cellsOf 23)) = some y1)⟩ := hf 1 _ rfl; rw [el] at h0; rw [es] at h1; obtain ⟨⟨l, A, c⟩, hq, hP, hll, hlb⟩ := pcs_trod _ _ _ h0; obtain ⟨⟨l', A', c'⟩, hq', hS, hll', hlb'⟩ := strs_trod0 _ _ _ h1; simp at hq hq'; subst hq; subst hq'; exact ⟨⟨l, A, c, l', A', c'⟩, rfl, hP, hll, hlb, hS, hll', hlb'⟩
set_option maxRecDepth 100000 in
theorem open_code {v : Value} {d : DataW H} {p : List MemPlace} (hv : Value.okWide Try.prog W .any 0 25 v) (h : DataW.Trod enc Try.prog W 0 (fun _ => true) true 25 v d p) :
  ∃ x : CodD, v = codV x.A x.ps.length x.c x.A' x.ns.length x.c' ∧ x.held W W.heap.size := by
 obtain ⟨fuel, hf⟩ := h; obtain ⟨cs, rfl, hsz⟩ := okWide_struct Try.underlying25 hv; obtain ⟨x, hx, hm⟩ := code_trod _ _ _ hf; have e : cs.toList = x.cells := by simpa [Value.cells] using hx
 refine ⟨x, ?_, hm⟩; unfold codV; rw [show cs = (x.cells).toArray from by rw [← e]]; rfl
end
end Go.Proofs.Ytgjbcahpgkchfaa
