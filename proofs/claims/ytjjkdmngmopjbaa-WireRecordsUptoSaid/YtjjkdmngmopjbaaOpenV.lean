/- Headers, certs, proofs, sights, transactions as arguments, opened. -/
import Derived.Test.YtjjkdmngmopjbaaProg
import Derived.Test.YtjjkdmngmopjbaaOpenW
import Derived.Test.YtjjkdmngmopjbaaWrU
namespace Go.Proofs.Ytjjkdmngmopjbaa
open Go.ChangeShapes Go.WideShapes Go.ChangeAt Go.RowKit Go.Deep
section
variable {H : Type} {enc : TypeId × Value → H} {W : World}
theorem cellsB_int : Try.prog.cellsOf 3 = 1 := by kernel_rfl
set_option maxRecDepth 100000 in
theorem ints_trodB : ∀ fuel cs x, DataW.trod enc Try.prog W 0 (fun _ => true) true fuel 35 cs = some x → ∃ A c l, cs = [.slice A l.length c] ∧ (l.length ≤ c ∧ c ≤ maxLen ∧ Ints W W.heap.size A l) ∧ l.length + 1 ≤ Rows.uptoBulk x.1 := by
  intro fuel cs x h
  obtain ⟨l, hl, hm⟩ := slOf_of_trodB (fun _ => 1) (size := 1) (R := IsInt) Try.underlying35 cellsB_int (by omega) int_trodB _ _ _ h
  obtain ⟨A, c, e, h1, h2, h3, h4⟩ := hl.flat (fun n => [.int .i64 n]) (fun _ _ hx => hx.1)
  rw [sumL_const, Nat.one_mul] at hm
  refine ⟨A, c, l, e, ⟨h1, h2, ?_⟩, hm⟩
  rw [flatMap_one] at h3
  exact h3
theorem cellsB_header : Try.prog.cellsOf 27 = 9 := by kernel_rfl
def IsHeaderDB (W : World) (cs : List Value) (x : HeaderD) : Prop := cs = HeaderD.cells x ∧ (x.ok)
set_option maxRecDepth 100000 in
theorem header_trodB : ∀ fuel cs x, DataW.trod enc Try.prog W 0 (fun _ => true) true fuel 27 cs = some x → ∃ d, IsHeaderDB W cs d ∧ headerM d ≤ Rows.uptoBulk x.1 := by
  intro fuel cs x h
  obtain ⟨hl, n, xs, hx, hxl, hg⟩ := open_structB Try.underlying27 h
  rw [cellsB_header] at hl
  match cs, hl, xs, hxl with
  | [c0, c1, c2, c3, c4, c5, c6, c7, c8], _, [y0, y1, y2, y3, y4, y5, y6, y7, y8], _ =>
    have h0 : DataW.trod enc Try.prog W 0 (fun _ => true) true n 3 (([c0, c1, c2, c3, c4, c5, c6, c7, c8].drop 0).take (Try.prog.cellsOf 3)) = some y0 := hg 0 _ rfl
    rw [show Try.prog.cellsOf 3 = 1 by kernel_rfl] at h0
    have h1 : DataW.trod enc Try.prog W 0 (fun _ => true) true n 3 (([c0, c1, c2, c3, c4, c5, c6, c7, c8].drop 1).take (Try.prog.cellsOf 3)) = some y1 := hg 1 _ rfl
    rw [show Try.prog.cellsOf 3 = 1 by kernel_rfl] at h1
    have h2 : DataW.trod enc Try.prog W 0 (fun _ => true) true n 23 (([c0, c1, c2, c3, c4, c5, c6, c7, c8].drop 2).take (Try.prog.cellsOf 23)) = some y2 := hg 2 _ rfl
    rw [show Try.prog.cellsOf 23 = 1 by kernel_rfl] at h2
    have h3 : DataW.trod enc Try.prog W 0 (fun _ => true) true n 23 (([c0, c1, c2, c3, c4, c5, c6, c7, c8].drop 3).take (Try.prog.cellsOf 23)) = some y3 := hg 3 _ rfl
    rw [show Try.prog.cellsOf 23 = 1 by kernel_rfl] at h3
    have h4 : DataW.trod enc Try.prog W 0 (fun _ => true) true n 23 (([c0, c1, c2, c3, c4, c5, c6, c7, c8].drop 4).take (Try.prog.cellsOf 23)) = some y4 := hg 4 _ rfl
    rw [show Try.prog.cellsOf 23 = 1 by kernel_rfl] at h4
    have h5 : DataW.trod enc Try.prog W 0 (fun _ => true) true n 23 (([c0, c1, c2, c3, c4, c5, c6, c7, c8].drop 5).take (Try.prog.cellsOf 23)) = some y5 := hg 5 _ rfl
    rw [show Try.prog.cellsOf 23 = 1 by kernel_rfl] at h5
    have h6 : DataW.trod enc Try.prog W 0 (fun _ => true) true n 23 (([c0, c1, c2, c3, c4, c5, c6, c7, c8].drop 6).take (Try.prog.cellsOf 23)) = some y6 := hg 6 _ rfl
    rw [show Try.prog.cellsOf 23 = 1 by kernel_rfl] at h6
    have h7 : DataW.trod enc Try.prog W 0 (fun _ => true) true n 23 (([c0, c1, c2, c3, c4, c5, c6, c7, c8].drop 7).take (Try.prog.cellsOf 23)) = some y7 := hg 7 _ rfl
    rw [show Try.prog.cellsOf 23 = 1 by kernel_rfl] at h7
    have h8 : DataW.trod enc Try.prog W 0 (fun _ => true) true n 3 (([c0, c1, c2, c3, c4, c5, c6, c7, c8].drop 8).take (Try.prog.cellsOf 3)) = some y8 := hg 8 _ rfl
    rw [show Try.prog.cellsOf 3 = 1 by kernel_rfl] at h8
    obtain ⟨a0, ⟨e0, g0⟩, m0⟩ := int_trodB _ _ _ h0
    obtain ⟨a1, ⟨e1, g1⟩, m1⟩ := int_trodB _ _ _ h1
    obtain ⟨a2, ⟨e2, g2⟩, m2⟩ := dig_trodB _ _ _ h2
    obtain ⟨a3, ⟨e3, g3⟩, m3⟩ := dig_trodB _ _ _ h3
    obtain ⟨a4, ⟨e4, g4⟩, m4⟩ := dig_trodB _ _ _ h4
    obtain ⟨a5, ⟨e5, g5⟩, m5⟩ := dig_trodB _ _ _ h5
    obtain ⟨a6, ⟨e6, g6⟩, m6⟩ := dig_trodB _ _ _ h6
    obtain ⟨a7, ⟨e7, g7⟩, m7⟩ := dig_trodB _ _ _ h7
    obtain ⟨a8, ⟨e8, g8⟩, m8⟩ := int_trodB _ _ _ h8
    simp at e0 e1 e2 e3 e4 e5 e6 e7 e8
    subst e0
    subst e1
    subst e2
    subst e3
    subst e4
    subst e5
    subst e6
    subst e7
    subst e8
    exact ⟨⟨a0, a1, a2, a3, a4, a5, a6, a7, a8⟩, ⟨rfl, ⟨g2, g3, g4, g5, g6, g7⟩⟩, by rw [hx]; simp only [List.map_cons, List.map_nil, Rows.uptoBulk, Rows.uptoBulkAll, headerM]; omega⟩
set_option maxRecDepth 100000 in
theorem openB_header {v : Value} {d : DataW H} {p : List MemPlace} (hv : Value.okWide Try.prog W .any 0 27 v) (h : DataW.Trod enc Try.prog W 0 (fun _ => true) true 27 v d p) : ∃ x, v = .agg (HeaderD.cells x).toArray ∧ IsHeaderDB W (HeaderD.cells x) x ∧ headerM x ≤ Rows.uptoBulk d := by
  obtain ⟨fuel, hf⟩ := h
  obtain ⟨cs, rfl, hsz⟩ := okWide_struct Try.underlying27 hv
  obtain ⟨x, hx, hm⟩ := header_trodB _ _ _ hf
  have e : cs.toList = HeaderD.cells x := by have := hx.1; simpa [Value.cells] using this
  exact ⟨x, by rw [← e], ⟨rfl, hx.2⟩, hm⟩
theorem cellsB_cert : Try.prog.cellsOf 37 = 6 := by kernel_rfl
def IsCertDB (W : World) (cs : List Value) (x : CertD) : Prop := cs = CertD.cells x ∧ (x.held W W.heap.size)
set_option maxRecDepth 100000 in
theorem cert_trodB : ∀ fuel cs x, DataW.trod enc Try.prog W 0 (fun _ => true) true fuel 37 cs = some x → ∃ d, IsCertDB W cs d ∧ certM d ≤ Rows.uptoBulk x.1 := by
  intro fuel cs x h
  obtain ⟨hl, n, xs, hx, hxl, hg⟩ := open_structB Try.underlying37 h
  rw [cellsB_cert] at hl
  match cs, hl, xs, hxl with
  | [c0, c1, c2, c3, c4, c5], _, [y0, y1, y2, y3, y4, y5], _ =>
    have h0 : DataW.trod enc Try.prog W 0 (fun _ => true) true n 3 (([c0, c1, c2, c3, c4, c5].drop 0).take (Try.prog.cellsOf 3)) = some y0 := hg 0 _ rfl
    rw [show Try.prog.cellsOf 3 = 1 by kernel_rfl] at h0
    have h1 : DataW.trod enc Try.prog W 0 (fun _ => true) true n 3 (([c0, c1, c2, c3, c4, c5].drop 1).take (Try.prog.cellsOf 3)) = some y1 := hg 1 _ rfl
    rw [show Try.prog.cellsOf 3 = 1 by kernel_rfl] at h1
    have h2 : DataW.trod enc Try.prog W 0 (fun _ => true) true n 3 (([c0, c1, c2, c3, c4, c5].drop 2).take (Try.prog.cellsOf 3)) = some y2 := hg 2 _ rfl
    rw [show Try.prog.cellsOf 3 = 1 by kernel_rfl] at h2
    have h3 : DataW.trod enc Try.prog W 0 (fun _ => true) true n 4 (([c0, c1, c2, c3, c4, c5].drop 3).take (Try.prog.cellsOf 4)) = some y3 := hg 3 _ rfl
    rw [show Try.prog.cellsOf 4 = 1 by kernel_rfl] at h3
    have h4 : DataW.trod enc Try.prog W 0 (fun _ => true) true n 23 (([c0, c1, c2, c3, c4, c5].drop 4).take (Try.prog.cellsOf 23)) = some y4 := hg 4 _ rfl
    rw [show Try.prog.cellsOf 23 = 1 by kernel_rfl] at h4
    have h5 : DataW.trod enc Try.prog W 0 (fun _ => true) true n 35 (([c0, c1, c2, c3, c4, c5].drop 5).take (Try.prog.cellsOf 35)) = some y5 := hg 5 _ rfl
    rw [show Try.prog.cellsOf 35 = 1 by kernel_rfl] at h5
    obtain ⟨a0, ⟨e0, g0⟩, m0⟩ := int_trodB _ _ _ h0
    obtain ⟨a1, ⟨e1, g1⟩, m1⟩ := int_trodB _ _ _ h1
    obtain ⟨a2, ⟨e2, g2⟩, m2⟩ := int_trodB _ _ _ h2
    obtain ⟨a3, ⟨e3, g3⟩, m3⟩ := bool_trodB _ _ _ h3
    obtain ⟨a4, ⟨e4, g4⟩, m4⟩ := dig_trodB _ _ _ h4
    obtain ⟨A5, k5, l5, e5, g5, m5⟩ := ints_trodB _ _ _ h5
    simp at e0 e1 e2 e3 e4 e5
    subst e0
    subst e1
    subst e2
    subst e3
    subst e4
    subst e5
    exact ⟨⟨a0, a1, a2, a3, a4, l5, A5, k5⟩, ⟨rfl, ⟨g4, g5.2.2, Nat.le_trans g5.1 g5.2.1⟩⟩, by rw [hx]; simp only [List.map_cons, List.map_nil, Rows.uptoBulk, Rows.uptoBulkAll, certM]; omega⟩
set_option maxRecDepth 100000 in
theorem openB_cert {v : Value} {d : DataW H} {p : List MemPlace} (hv : Value.okWide Try.prog W .any 0 37 v) (h : DataW.Trod enc Try.prog W 0 (fun _ => true) true 37 v d p) : ∃ x, v = .agg (CertD.cells x).toArray ∧ IsCertDB W (CertD.cells x) x ∧ certM x ≤ Rows.uptoBulk d := by
  obtain ⟨fuel, hf⟩ := h
  obtain ⟨cs, rfl, hsz⟩ := okWide_struct Try.underlying37 hv
  obtain ⟨x, hx, hm⟩ := cert_trodB _ _ _ hf
  have e : cs.toList = CertD.cells x := by have := hx.1; simpa [Value.cells] using this
  exact ⟨x, by rw [← e], ⟨rfl, hx.2⟩, hm⟩
theorem cellsB_turn : Try.prog.cellsOf 141 = 2 := by kernel_rfl
def IsTurnDB (W : World) (cs : List Value) (x : TurnD) : Prop := cs = TurnD.cells x ∧ (x.ok)
set_option maxRecDepth 100000 in
theorem turn_trodB : ∀ fuel cs x, DataW.trod enc Try.prog W 0 (fun _ => true) true fuel 141 cs = some x → ∃ d, IsTurnDB W cs d ∧ turnM d ≤ Rows.uptoBulk x.1 := by
  intro fuel cs x h
  obtain ⟨hl, n, xs, hx, hxl, hg⟩ := open_structB Try.underlying141 h
  rw [cellsB_turn] at hl
  match cs, hl, xs, hxl with
  | [c0, c1], _, [y0, y1], _ =>
    have h0 : DataW.trod enc Try.prog W 0 (fun _ => true) true n 3 (([c0, c1].drop 0).take (Try.prog.cellsOf 3)) = some y0 := hg 0 _ rfl
    rw [show Try.prog.cellsOf 3 = 1 by kernel_rfl] at h0
    have h1 : DataW.trod enc Try.prog W 0 (fun _ => true) true n 23 (([c0, c1].drop 1).take (Try.prog.cellsOf 23)) = some y1 := hg 1 _ rfl
    rw [show Try.prog.cellsOf 23 = 1 by kernel_rfl] at h1
    obtain ⟨a0, ⟨e0, g0⟩, m0⟩ := int_trodB _ _ _ h0
    obtain ⟨a1, ⟨e1, g1⟩, m1⟩ := dig_trodB _ _ _ h1
    simp at e0 e1
    subst e0
    subst e1
    exact ⟨⟨a0, a1⟩, ⟨rfl, g1⟩, by rw [hx]; simp only [List.map_cons, List.map_nil, Rows.uptoBulk, Rows.uptoBulkAll, turnM]; omega⟩
set_option maxRecDepth 100000 in
theorem openB_turn {v : Value} {d : DataW H} {p : List MemPlace} (hv : Value.okWide Try.prog W .any 0 141 v) (h : DataW.Trod enc Try.prog W 0 (fun _ => true) true 141 v d p) : ∃ x, v = .agg (TurnD.cells x).toArray ∧ IsTurnDB W (TurnD.cells x) x ∧ turnM x ≤ Rows.uptoBulk d := by
  obtain ⟨fuel, hf⟩ := h
  obtain ⟨cs, rfl, hsz⟩ := okWide_struct Try.underlying141 hv
  obtain ⟨x, hx, hm⟩ := turn_trodB _ _ _ hf
  have e : cs.toList = TurnD.cells x := by have := hx.1; simpa [Value.cells] using this
  exact ⟨x, by rw [← e], ⟨rfl, hx.2⟩, hm⟩
set_option maxRecDepth 100000 in
theorem turns_trodB : ∀ fuel cs x, DataW.trod enc Try.prog W 0 (fun _ => true) true fuel 68 cs = some x → ∃ A c l, cs = [.slice A l.length c] ∧ (l.length ≤ c ∧ c ≤ maxLen ∧ Lay 2 TurnD.cells W W.heap.size A l ∧ ∀ y ∈ l, IsTurnDB W (TurnD.cells y) y) ∧ sumL turnM l + 1 ≤ Rows.uptoBulk x.1 := by
  intro fuel cs x h
  obtain ⟨l, hl, hm⟩ := slOf_of_trodB turnM (size := 2) (R := IsTurnDB W) Try.underlying68 cellsB_turn (by omega) turn_trodB _ _ _ h
  obtain ⟨A, c, e, h1, h2, h3, h4⟩ := hl.flat TurnD.cells (fun _ _ hx => hx.1)
  exact ⟨A, c, l, e, ⟨h1, h2, h3, fun y hy => by obtain ⟨cs, hc⟩ := h4 y hy; exact ⟨rfl, hc.2⟩⟩, hm⟩
set_option maxRecDepth 100000 in
theorem openB_turns {v : Value} {d : DataW H} {p : List MemPlace} (hv : Value.okWide Try.prog W .any 0 68 v) (h : DataW.Trod enc Try.prog W 0 (fun _ => true) true 68 v d p) : ∃ A c l, v = .slice A l.length c ∧ (l.length ≤ c ∧ c ≤ maxLen ∧ Lay 2 TurnD.cells W W.heap.size A l ∧ ∀ y ∈ l, IsTurnDB W (TurnD.cells y) y) ∧ sumL turnM l + 1 ≤ Rows.uptoBulk d := by
  obtain ⟨fuel, hf⟩ := h
  obtain ⟨a, len, cap, rfl⟩ := okWide_slice Try.underlying68 hv
  obtain ⟨A, c, l, e, h1, hm⟩ := turns_trodB _ _ _ hf
  simp [Value.cells] at e
  obtain ⟨rfl, rfl, rfl⟩ := e
  exact ⟨_, _, l, rfl, h1, hm⟩
theorem cellsB_proof : Try.prog.cellsOf 70 = 4 := by kernel_rfl
def IsProofDB (W : World) (cs : List Value) (x : ProofD) : Prop := cs = ProofD.cells x ∧ (x.held W W.heap.size)
set_option maxRecDepth 100000 in
theorem proof_trodB : ∀ fuel cs x, DataW.trod enc Try.prog W 0 (fun _ => true) true fuel 70 cs = some x → ∃ d, IsProofDB W cs d ∧ proofM d ≤ Rows.uptoBulk x.1 := by
  intro fuel cs x h
  obtain ⟨hl, n, xs, hx, hxl, hg⟩ := open_structB Try.underlying70 h
  rw [cellsB_proof] at hl
  match cs, hl, xs, hxl with
  | [c0, c1, c2, c3], _, [y0, y1, y2, y3], _ =>
    have h0 : DataW.trod enc Try.prog W 0 (fun _ => true) true n 68 (([c0, c1, c2, c3].drop 0).take (Try.prog.cellsOf 68)) = some y0 := hg 0 _ rfl
    rw [show Try.prog.cellsOf 68 = 1 by kernel_rfl] at h0
    have h1 : DataW.trod enc Try.prog W 0 (fun _ => true) true n 4 (([c0, c1, c2, c3].drop 1).take (Try.prog.cellsOf 4)) = some y1 := hg 1 _ rfl
    rw [show Try.prog.cellsOf 4 = 1 by kernel_rfl] at h1
    have h2 : DataW.trod enc Try.prog W 0 (fun _ => true) true n 9 (([c0, c1, c2, c3].drop 2).take (Try.prog.cellsOf 9)) = some y2 := hg 2 _ rfl
    rw [show Try.prog.cellsOf 9 = 1 by kernel_rfl] at h2
    have h3 : DataW.trod enc Try.prog W 0 (fun _ => true) true n 9 (([c0, c1, c2, c3].drop 3).take (Try.prog.cellsOf 9)) = some y3 := hg 3 _ rfl
    rw [show Try.prog.cellsOf 9 = 1 by kernel_rfl] at h3
    obtain ⟨A0, k0, l0, e0, g0, m0⟩ := turns_trodB _ _ _ h0
    obtain ⟨a1, ⟨e1, g1⟩, m1⟩ := bool_trodB _ _ _ h1
    obtain ⟨a2, ⟨e2, g2⟩, m2⟩ := str_trodB _ _ _ h2
    obtain ⟨a3, ⟨e3, g3⟩, m3⟩ := str_trodB _ _ _ h3
    simp at e0 e1 e2 e3
    subst e0
    subst e1
    subst e2
    subst e3
    exact ⟨⟨l0, A0, k0, a1, a2, a3⟩, ⟨rfl, ⟨g0.2.2.1, Nat.le_trans g0.1 g0.2.1, fun y hy => (g0.2.2.2 y hy).2⟩⟩, by rw [hx]; simp only [List.map_cons, List.map_nil, Rows.uptoBulk, Rows.uptoBulkAll, proofM]; omega⟩
set_option maxRecDepth 100000 in
theorem openB_proof {v : Value} {d : DataW H} {p : List MemPlace} (hv : Value.okWide Try.prog W .any 0 70 v) (h : DataW.Trod enc Try.prog W 0 (fun _ => true) true 70 v d p) : ∃ x, v = .agg (ProofD.cells x).toArray ∧ IsProofDB W (ProofD.cells x) x ∧ proofM x ≤ Rows.uptoBulk d := by
  obtain ⟨fuel, hf⟩ := h
  obtain ⟨cs, rfl, hsz⟩ := okWide_struct Try.underlying70 hv
  obtain ⟨x, hx, hm⟩ := proof_trodB _ _ _ hf
  have e : cs.toList = ProofD.cells x := by have := hx.1; simpa [Value.cells] using this
  exact ⟨x, by rw [← e], ⟨rfl, hx.2⟩, hm⟩
set_option maxRecDepth 100000 in
theorem proofs_trodB : ∀ fuel cs x, DataW.trod enc Try.prog W 0 (fun _ => true) true fuel 113 cs = some x → ∃ A c l, cs = [.slice A l.length c] ∧ (l.length ≤ c ∧ c ≤ maxLen ∧ Lay 4 ProofD.cells W W.heap.size A l ∧ ∀ y ∈ l, IsProofDB W (ProofD.cells y) y) ∧ sumL proofM l + 1 ≤ Rows.uptoBulk x.1 := by
  intro fuel cs x h
  obtain ⟨l, hl, hm⟩ := slOf_of_trodB proofM (size := 4) (R := IsProofDB W) Try.underlying113 cellsB_proof (by omega) proof_trodB _ _ _ h
  obtain ⟨A, c, e, h1, h2, h3, h4⟩ := hl.flat ProofD.cells (fun _ _ hx => hx.1)
  exact ⟨A, c, l, e, ⟨h1, h2, h3, fun y hy => by obtain ⟨cs, hc⟩ := h4 y hy; exact ⟨rfl, hc.2⟩⟩, hm⟩
set_option maxRecDepth 100000 in
theorem openB_proofs {v : Value} {d : DataW H} {p : List MemPlace} (hv : Value.okWide Try.prog W .any 0 113 v) (h : DataW.Trod enc Try.prog W 0 (fun _ => true) true 113 v d p) : ∃ A c l, v = .slice A l.length c ∧ (l.length ≤ c ∧ c ≤ maxLen ∧ Lay 4 ProofD.cells W W.heap.size A l ∧ ∀ y ∈ l, IsProofDB W (ProofD.cells y) y) ∧ sumL proofM l + 1 ≤ Rows.uptoBulk d := by
  obtain ⟨fuel, hf⟩ := h
  obtain ⟨a, len, cap, rfl⟩ := okWide_slice Try.underlying113 hv
  obtain ⟨A, c, l, e, h1, hm⟩ := proofs_trodB _ _ _ hf
  simp [Value.cells] at e
  obtain ⟨rfl, rfl, rfl⟩ := e
  exact ⟨_, _, l, rfl, h1, hm⟩
theorem cellsB_sight : Try.prog.cellsOf 85 = 16 := by kernel_rfl
def IsSightDB (W : World) (cs : List Value) (x : SightD) : Prop := cs = SightD.cells x ∧ (x.held W W.heap.size)
set_option maxRecDepth 100000 in
theorem sight_trodB : ∀ fuel cs x, DataW.trod enc Try.prog W 0 (fun _ => true) true fuel 85 cs = some x → ∃ d, IsSightDB W cs d ∧ sightM d ≤ Rows.uptoBulk x.1 := by
  intro fuel cs x h
  obtain ⟨hl, n, xs, hx, hxl, hg⟩ := open_structB Try.underlying85 h
  rw [cellsB_sight] at hl
  match cs, hl, xs, hxl with
  | [c0, c1, c2, c3, c4, c5, c6, c7, c8, c9, c10, c11, c12, c13, c14, c15], _, [y0, y1, y2], _ =>
    have h0 : DataW.trod enc Try.prog W 0 (fun _ => true) true n 27 (([c0, c1, c2, c3, c4, c5, c6, c7, c8, c9, c10, c11, c12, c13, c14, c15].drop 0).take (Try.prog.cellsOf 27)) = some y0 := hg 0 _ rfl
    rw [show Try.prog.cellsOf 27 = 9 by kernel_rfl] at h0
    have h1 : DataW.trod enc Try.prog W 0 (fun _ => true) true n 37 (([c0, c1, c2, c3, c4, c5, c6, c7, c8, c9, c10, c11, c12, c13, c14, c15].drop 9).take (Try.prog.cellsOf 37)) = some y1 := hg 1 _ rfl
    rw [show Try.prog.cellsOf 37 = 6 by kernel_rfl] at h1
    have h2 : DataW.trod enc Try.prog W 0 (fun _ => true) true n 80 (([c0, c1, c2, c3, c4, c5, c6, c7, c8, c9, c10, c11, c12, c13, c14, c15].drop 15).take (Try.prog.cellsOf 80)) = some y2 := hg 2 _ rfl
    rw [show Try.prog.cellsOf 80 = 1 by kernel_rfl] at h2
    obtain ⟨a0, ⟨e0, g0⟩, m0⟩ := header_trodB _ _ _ h0
    obtain ⟨a1, ⟨e1, g1⟩, m1⟩ := cert_trodB _ _ _ h1
    obtain ⟨A2, k2, l2, e2, g2, m2⟩ := seats_trodB _ _ _ h2
    simp [CertD.cells, HeaderD.cells] at e0 e1 e2
    obtain ⟨rfl, rfl, rfl, rfl, rfl, rfl, rfl, rfl, rfl⟩ := e0
    obtain ⟨rfl, rfl, rfl, rfl, rfl, rfl⟩ := e1
    subst e2
    have hsm : sumL seatM l2 = 3 * l2.length := sumL_const 3 l2
    exact ⟨⟨a0, a1, l2, A2, k2⟩, ⟨rfl, ⟨g0, g1, g2.2.2.1, Nat.le_trans g2.1 g2.2.1⟩⟩, by rw [hx]; simp only [List.map_cons, List.map_nil, Rows.uptoBulk, Rows.uptoBulkAll, sightM]; omega⟩
set_option maxRecDepth 100000 in
theorem openB_sight {v : Value} {d : DataW H} {p : List MemPlace} (hv : Value.okWide Try.prog W .any 0 85 v) (h : DataW.Trod enc Try.prog W 0 (fun _ => true) true 85 v d p) : ∃ x, v = .agg (SightD.cells x).toArray ∧ IsSightDB W (SightD.cells x) x ∧ sightM x ≤ Rows.uptoBulk d := by
  obtain ⟨fuel, hf⟩ := h
  obtain ⟨cs, rfl, hsz⟩ := okWide_struct Try.underlying85 hv
  obtain ⟨x, hx, hm⟩ := sight_trodB _ _ _ hf
  have e : cs.toList = SightD.cells x := by have := hx.1; simpa [Value.cells] using this
  exact ⟨x, by rw [← e], ⟨rfl, hx.2⟩, hm⟩
set_option maxRecDepth 100000 in
theorem sights_trodB : ∀ fuel cs x, DataW.trod enc Try.prog W 0 (fun _ => true) true fuel 88 cs = some x → ∃ A c l, cs = [.slice A l.length c] ∧ (l.length ≤ c ∧ c ≤ maxLen ∧ Lay 16 SightD.cells W W.heap.size A l ∧ ∀ y ∈ l, IsSightDB W (SightD.cells y) y) ∧ sumL sightM l + 1 ≤ Rows.uptoBulk x.1 := by
  intro fuel cs x h
  obtain ⟨l, hl, hm⟩ := slOf_of_trodB sightM (size := 16) (R := IsSightDB W) Try.underlying88 cellsB_sight (by omega) sight_trodB _ _ _ h
  obtain ⟨A, c, e, h1, h2, h3, h4⟩ := hl.flat SightD.cells (fun _ _ hx => hx.1)
  exact ⟨A, c, l, e, ⟨h1, h2, h3, fun y hy => by obtain ⟨cs, hc⟩ := h4 y hy; exact ⟨rfl, hc.2⟩⟩, hm⟩
set_option maxRecDepth 100000 in
theorem openB_sights {v : Value} {d : DataW H} {p : List MemPlace} (hv : Value.okWide Try.prog W .any 0 88 v) (h : DataW.Trod enc Try.prog W 0 (fun _ => true) true 88 v d p) : ∃ A c l, v = .slice A l.length c ∧ (l.length ≤ c ∧ c ≤ maxLen ∧ Lay 16 SightD.cells W W.heap.size A l ∧ ∀ y ∈ l, IsSightDB W (SightD.cells y) y) ∧ sumL sightM l + 1 ≤ Rows.uptoBulk d := by
  obtain ⟨fuel, hf⟩ := h
  obtain ⟨a, len, cap, rfl⟩ := okWide_slice Try.underlying88 hv
  obtain ⟨A, c, l, e, h1, hm⟩ := sights_trodB _ _ _ hf
  simp [Value.cells] at e
  obtain ⟨rfl, rfl, rfl⟩ := e
  exact ⟨_, _, l, rfl, h1, hm⟩
theorem cellsB_tx : Try.prog.cellsOf 115 = 11 := by kernel_rfl
def IsTxDB (W : World) (cs : List Value) (x : TxD) : Prop := cs = TxD.cells x ∧ (x.held W W.heap.size)
set_option maxRecDepth 100000 in
theorem tx_trodB : ∀ fuel cs x, DataW.trod enc Try.prog W 0 (fun _ => true) true fuel 115 cs = some x → ∃ d, IsTxDB W cs d ∧ txM d ≤ Rows.uptoBulk x.1 := by
  intro fuel cs x h
  obtain ⟨hl, n, xs, hx, hxl, hg⟩ := open_structB Try.underlying115 h
  rw [cellsB_tx] at hl
  match cs, hl, xs, hxl with
  | [c0, c1, c2, c3, c4, c5, c6, c7, c8, c9, c10], _, [y0, y1, y2, y3, y4, y5, y6, y7, y8, y9, y10], _ =>
    have h0 : DataW.trod enc Try.prog W 0 (fun _ => true) true n 3 (([c0, c1, c2, c3, c4, c5, c6, c7, c8, c9, c10].drop 0).take (Try.prog.cellsOf 3)) = some y0 := hg 0 _ rfl
    rw [show Try.prog.cellsOf 3 = 1 by kernel_rfl] at h0
    have h1 : DataW.trod enc Try.prog W 0 (fun _ => true) true n 3 (([c0, c1, c2, c3, c4, c5, c6, c7, c8, c9, c10].drop 1).take (Try.prog.cellsOf 3)) = some y1 := hg 1 _ rfl
    rw [show Try.prog.cellsOf 3 = 1 by kernel_rfl] at h1
    have h2 : DataW.trod enc Try.prog W 0 (fun _ => true) true n 3 (([c0, c1, c2, c3, c4, c5, c6, c7, c8, c9, c10].drop 2).take (Try.prog.cellsOf 3)) = some y2 := hg 2 _ rfl
    rw [show Try.prog.cellsOf 3 = 1 by kernel_rfl] at h2
    have h3 : DataW.trod enc Try.prog W 0 (fun _ => true) true n 3 (([c0, c1, c2, c3, c4, c5, c6, c7, c8, c9, c10].drop 3).take (Try.prog.cellsOf 3)) = some y3 := hg 3 _ rfl
    rw [show Try.prog.cellsOf 3 = 1 by kernel_rfl] at h3
    have h4 : DataW.trod enc Try.prog W 0 (fun _ => true) true n 3 (([c0, c1, c2, c3, c4, c5, c6, c7, c8, c9, c10].drop 4).take (Try.prog.cellsOf 3)) = some y4 := hg 4 _ rfl
    rw [show Try.prog.cellsOf 3 = 1 by kernel_rfl] at h4
    have h5 : DataW.trod enc Try.prog W 0 (fun _ => true) true n 3 (([c0, c1, c2, c3, c4, c5, c6, c7, c8, c9, c10].drop 5).take (Try.prog.cellsOf 3)) = some y5 := hg 5 _ rfl
    rw [show Try.prog.cellsOf 3 = 1 by kernel_rfl] at h5
    have h6 : DataW.trod enc Try.prog W 0 (fun _ => true) true n 3 (([c0, c1, c2, c3, c4, c5, c6, c7, c8, c9, c10].drop 6).take (Try.prog.cellsOf 3)) = some y6 := hg 6 _ rfl
    rw [show Try.prog.cellsOf 3 = 1 by kernel_rfl] at h6
    have h7 : DataW.trod enc Try.prog W 0 (fun _ => true) true n 9 (([c0, c1, c2, c3, c4, c5, c6, c7, c8, c9, c10].drop 7).take (Try.prog.cellsOf 9)) = some y7 := hg 7 _ rfl
    rw [show Try.prog.cellsOf 9 = 1 by kernel_rfl] at h7
    have h8 : DataW.trod enc Try.prog W 0 (fun _ => true) true n 35 (([c0, c1, c2, c3, c4, c5, c6, c7, c8, c9, c10].drop 8).take (Try.prog.cellsOf 35)) = some y8 := hg 8 _ rfl
    rw [show Try.prog.cellsOf 35 = 1 by kernel_rfl] at h8
    have h9 : DataW.trod enc Try.prog W 0 (fun _ => true) true n 88 (([c0, c1, c2, c3, c4, c5, c6, c7, c8, c9, c10].drop 9).take (Try.prog.cellsOf 88)) = some y9 := hg 9 _ rfl
    rw [show Try.prog.cellsOf 88 = 1 by kernel_rfl] at h9
    have h10 : DataW.trod enc Try.prog W 0 (fun _ => true) true n 113 (([c0, c1, c2, c3, c4, c5, c6, c7, c8, c9, c10].drop 10).take (Try.prog.cellsOf 113)) = some y10 := hg 10 _ rfl
    rw [show Try.prog.cellsOf 113 = 1 by kernel_rfl] at h10
    obtain ⟨a0, ⟨e0, g0⟩, m0⟩ := int_trodB _ _ _ h0
    obtain ⟨a1, ⟨e1, g1⟩, m1⟩ := int_trodB _ _ _ h1
    obtain ⟨a2, ⟨e2, g2⟩, m2⟩ := int_trodB _ _ _ h2
    obtain ⟨a3, ⟨e3, g3⟩, m3⟩ := int_trodB _ _ _ h3
    obtain ⟨a4, ⟨e4, g4⟩, m4⟩ := int_trodB _ _ _ h4
    obtain ⟨a5, ⟨e5, g5⟩, m5⟩ := int_trodB _ _ _ h5
    obtain ⟨a6, ⟨e6, g6⟩, m6⟩ := int_trodB _ _ _ h6
    obtain ⟨a7, ⟨e7, g7⟩, m7⟩ := str_trodB _ _ _ h7
    obtain ⟨A8, k8, l8, e8, g8, m8⟩ := ints_trodB _ _ _ h8
    obtain ⟨A9, k9, l9, e9, g9, m9⟩ := sights_trodB _ _ _ h9
    obtain ⟨A10, k10, l10, e10, g10, m10⟩ := proofs_trodB _ _ _ h10
    simp at e0 e1 e2 e3 e4 e5 e6 e7 e8 e9 e10
    subst e0
    subst e1
    subst e2
    subst e3
    subst e4
    subst e5
    subst e6
    subst e7
    subst e8
    subst e9
    subst e10
    exact ⟨⟨a0, a1, a2, a3, a4, a5, a6, a7, l8, A8, k8, l9, A9, k9, l10, A10, k10⟩, ⟨rfl, ⟨g8.2.2, g9.2.2.1, g10.2.2.1, ⟨Nat.le_trans g8.1 g8.2.1, Nat.le_trans g9.1 g9.2.1, Nat.le_trans g10.1 g10.2.1⟩, fun y hy => (g9.2.2.2 y hy).2, fun y hy => (g10.2.2.2 y hy).2⟩⟩, by rw [hx]; simp only [List.map_cons, List.map_nil, Rows.uptoBulk, Rows.uptoBulkAll, txM]; omega⟩
set_option maxRecDepth 100000 in
theorem openB_tx {v : Value} {d : DataW H} {p : List MemPlace} (hv : Value.okWide Try.prog W .any 0 115 v) (h : DataW.Trod enc Try.prog W 0 (fun _ => true) true 115 v d p) : ∃ x, v = .agg (TxD.cells x).toArray ∧ IsTxDB W (TxD.cells x) x ∧ txM x ≤ Rows.uptoBulk d := by
  obtain ⟨fuel, hf⟩ := h
  obtain ⟨cs, rfl, hsz⟩ := okWide_struct Try.underlying115 hv
  obtain ⟨x, hx, hm⟩ := tx_trodB _ _ _ hf
  have e : cs.toList = TxD.cells x := by have := hx.1; simpa [Value.cells] using this
  exact ⟨x, by rw [← e], ⟨rfl, hx.2⟩, hm⟩
set_option maxRecDepth 100000 in
theorem txs_trodB : ∀ fuel cs x, DataW.trod enc Try.prog W 0 (fun _ => true) true fuel 28 cs = some x → ∃ A c l, cs = [.slice A l.length c] ∧ (l.length ≤ c ∧ c ≤ maxLen ∧ Lay 11 TxD.cells W W.heap.size A l ∧ ∀ y ∈ l, IsTxDB W (TxD.cells y) y) ∧ sumL txM l + 1 ≤ Rows.uptoBulk x.1 := by
  intro fuel cs x h
  obtain ⟨l, hl, hm⟩ := slOf_of_trodB txM (size := 11) (R := IsTxDB W) Try.underlying28 cellsB_tx (by omega) tx_trodB _ _ _ h
  obtain ⟨A, c, e, h1, h2, h3, h4⟩ := hl.flat TxD.cells (fun _ _ hx => hx.1)
  exact ⟨A, c, l, e, ⟨h1, h2, h3, fun y hy => by obtain ⟨cs, hc⟩ := h4 y hy; exact ⟨rfl, hc.2⟩⟩, hm⟩
set_option maxRecDepth 100000 in
theorem openB_txs {v : Value} {d : DataW H} {p : List MemPlace} (hv : Value.okWide Try.prog W .any 0 28 v) (h : DataW.Trod enc Try.prog W 0 (fun _ => true) true 28 v d p) : ∃ A c l, v = .slice A l.length c ∧ (l.length ≤ c ∧ c ≤ maxLen ∧ Lay 11 TxD.cells W W.heap.size A l ∧ ∀ y ∈ l, IsTxDB W (TxD.cells y) y) ∧ sumL txM l + 1 ≤ Rows.uptoBulk d := by
  obtain ⟨fuel, hf⟩ := h
  obtain ⟨a, len, cap, rfl⟩ := okWide_slice Try.underlying28 hv
  obtain ⟨A, c, l, e, h1, hm⟩ := txs_trodB _ _ _ hf
  simp [Value.cells] at e
  obtain ⟨rfl, rfl, rfl⟩ := e
  exact ⟨_, _, l, rfl, h1, hm⟩
end
end Go.Proofs.Ytjjkdmngmopjbaa
