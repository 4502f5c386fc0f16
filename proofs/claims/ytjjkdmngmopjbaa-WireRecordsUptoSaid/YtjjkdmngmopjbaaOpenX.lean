/- Blocks, motions, knowns, messages, records as arguments, opened. -/
import Derived.Test.YtjjkdmngmopjbaaProg
import Derived.Test.YtjjkdmngmopjbaaOpenV
import Derived.Test.YtjjkdmngmopjbaaWrV
namespace Go.Proofs.Ytjjkdmngmopjbaa
open Go.ChangeShapes Go.WideShapes Go.ChangeAt Go.RowKit Go.Deep
section
variable {H : Type} {enc : TypeId × Value → H} {W : World}
set_option maxRecDepth 100000 in
theorem guilts_trodB : ∀ fuel cs x, DataW.trod enc Try.prog W 0 (fun _ => true) true fuel 29 cs = some x → ∃ A c l, cs = [.slice A l.length c] ∧ (l.length ≤ c ∧ c ≤ maxLen ∧ Lay 12 GuiltD.cells W W.heap.size A l ∧ ∀ y ∈ l, IsGuiltDB W (GuiltD.cells y) y) ∧ sumL guiltM l + 1 ≤ Rows.uptoBulk x.1 := by
  intro fuel cs x h
  obtain ⟨l, hl, hm⟩ := slOf_of_trodB guiltM (size := 12) (R := IsGuiltDB W) Try.underlying29 cellsB_guilt (by omega) guilt_trodB _ _ _ h
  obtain ⟨A, c, e, h1, h2, h3, h4⟩ := hl.flat GuiltD.cells (fun _ _ hx => hx.1)
  exact ⟨A, c, l, e, ⟨h1, h2, h3, fun y hy => by obtain ⟨cs, hc⟩ := h4 y hy; exact ⟨rfl, hc.2⟩⟩, hm⟩
set_option maxRecDepth 100000 in
theorem openB_guilts {v : Value} {d : DataW H} {p : List MemPlace} (hv : Value.okWide Try.prog W .any 0 29 v) (h : DataW.Trod enc Try.prog W 0 (fun _ => true) true 29 v d p) : ∃ A c l, v = .slice A l.length c ∧ (l.length ≤ c ∧ c ≤ maxLen ∧ Lay 12 GuiltD.cells W W.heap.size A l ∧ ∀ y ∈ l, IsGuiltDB W (GuiltD.cells y) y) ∧ sumL guiltM l + 1 ≤ Rows.uptoBulk d := by
  obtain ⟨fuel, hf⟩ := h
  obtain ⟨a, len, cap, rfl⟩ := okWide_slice Try.underlying29 hv
  obtain ⟨A, c, l, e, h1, hm⟩ := guilts_trodB _ _ _ hf
  simp [Value.cells] at e
  obtain ⟨rfl, rfl, rfl⟩ := e
  exact ⟨_, _, l, rfl, h1, hm⟩
set_option maxRecDepth 100000 in
theorem certs_trodB : ∀ fuel cs x, DataW.trod enc Try.prog W 0 (fun _ => true) true fuel 32 cs = some x → ∃ A c l, cs = [.slice A l.length c] ∧ (l.length ≤ c ∧ c ≤ maxLen ∧ Lay 6 CertD.cells W W.heap.size A l ∧ ∀ y ∈ l, IsCertDB W (CertD.cells y) y) ∧ sumL certM l + 1 ≤ Rows.uptoBulk x.1 := by
  intro fuel cs x h
  obtain ⟨l, hl, hm⟩ := slOf_of_trodB certM (size := 6) (R := IsCertDB W) Try.underlying32 cellsB_cert (by omega) cert_trodB _ _ _ h
  obtain ⟨A, c, e, h1, h2, h3, h4⟩ := hl.flat CertD.cells (fun _ _ hx => hx.1)
  exact ⟨A, c, l, e, ⟨h1, h2, h3, fun y hy => by obtain ⟨cs, hc⟩ := h4 y hy; exact ⟨rfl, hc.2⟩⟩, hm⟩
set_option maxRecDepth 100000 in
theorem openB_certs {v : Value} {d : DataW H} {p : List MemPlace} (hv : Value.okWide Try.prog W .any 0 32 v) (h : DataW.Trod enc Try.prog W 0 (fun _ => true) true 32 v d p) : ∃ A c l, v = .slice A l.length c ∧ (l.length ≤ c ∧ c ≤ maxLen ∧ Lay 6 CertD.cells W W.heap.size A l ∧ ∀ y ∈ l, IsCertDB W (CertD.cells y) y) ∧ sumL certM l + 1 ≤ Rows.uptoBulk d := by
  obtain ⟨fuel, hf⟩ := h
  obtain ⟨a, len, cap, rfl⟩ := okWide_slice Try.underlying32 hv
  obtain ⟨A, c, l, e, h1, hm⟩ := certs_trodB _ _ _ hf
  simp [Value.cells] at e
  obtain ⟨rfl, rfl, rfl⟩ := e
  exact ⟨_, _, l, rfl, h1, hm⟩
theorem cellsB_block : Try.prog.cellsOf 31 = 11 := by kernel_rfl
def IsBlockDB (W : World) (cs : List Value) (x : BlockD) : Prop := cs = BlockD.cells x ∧ (x.held W W.heap.size)
set_option maxRecDepth 100000 in
theorem block_trodB : ∀ fuel cs x, DataW.trod enc Try.prog W 0 (fun _ => true) true fuel 31 cs = some x → ∃ d, IsBlockDB W cs d ∧ blockM d ≤ Rows.uptoBulk x.1 := by
  intro fuel cs x h
  obtain ⟨hl, n, xs, hx, hxl, hg⟩ := open_structB Try.underlying31 h
  rw [cellsB_block] at hl
  match cs, hl, xs, hxl with
  | [c0, c1, c2, c3, c4, c5, c6, c7, c8, c9, c10], _, [y0, y1, y2], _ =>
    have h0 : DataW.trod enc Try.prog W 0 (fun _ => true) true n 27 (([c0, c1, c2, c3, c4, c5, c6, c7, c8, c9, c10].drop 0).take (Try.prog.cellsOf 27)) = some y0 := hg 0 _ rfl
    rw [show Try.prog.cellsOf 27 = 9 by kernel_rfl] at h0
    have h1 : DataW.trod enc Try.prog W 0 (fun _ => true) true n 28 (([c0, c1, c2, c3, c4, c5, c6, c7, c8, c9, c10].drop 9).take (Try.prog.cellsOf 28)) = some y1 := hg 1 _ rfl
    rw [show Try.prog.cellsOf 28 = 1 by kernel_rfl] at h1
    have h2 : DataW.trod enc Try.prog W 0 (fun _ => true) true n 29 (([c0, c1, c2, c3, c4, c5, c6, c7, c8, c9, c10].drop 10).take (Try.prog.cellsOf 29)) = some y2 := hg 2 _ rfl
    rw [show Try.prog.cellsOf 29 = 1 by kernel_rfl] at h2
    obtain ⟨a0, ⟨e0, g0⟩, m0⟩ := header_trodB _ _ _ h0
    obtain ⟨A1, k1, l1, e1, g1, m1⟩ := txs_trodB _ _ _ h1
    obtain ⟨A2, k2, l2, e2, g2, m2⟩ := guilts_trodB _ _ _ h2
    simp [HeaderD.cells] at e0 e1 e2
    obtain ⟨rfl, rfl, rfl, rfl, rfl, rfl, rfl, rfl, rfl⟩ := e0
    subst e1
    subst e2
    exact ⟨⟨a0, l1, A1, k1, l2, A2, k2⟩, ⟨rfl, ⟨g0, g1.2.2.1, g2.2.2.1, ⟨Nat.le_trans g1.1 g1.2.1, Nat.le_trans g2.1 g2.2.1⟩, fun y hy => (g1.2.2.2 y hy).2, fun y hy => (g2.2.2.2 y hy).2⟩⟩, by rw [hx]; simp only [List.map_cons, List.map_nil, Rows.uptoBulk, Rows.uptoBulkAll, blockM]; omega⟩
set_option maxRecDepth 100000 in
theorem openB_block {v : Value} {d : DataW H} {p : List MemPlace} (hv : Value.okWide Try.prog W .any 0 31 v) (h : DataW.Trod enc Try.prog W 0 (fun _ => true) true 31 v d p) : ∃ x, v = .agg (BlockD.cells x).toArray ∧ IsBlockDB W (BlockD.cells x) x ∧ blockM x ≤ Rows.uptoBulk d := by
  obtain ⟨fuel, hf⟩ := h
  obtain ⟨cs, rfl, hsz⟩ := okWide_struct Try.underlying31 hv
  obtain ⟨x, hx, hm⟩ := block_trodB _ _ _ hf
  have e : cs.toList = BlockD.cells x := by have := hx.1; simpa [Value.cells] using this
  exact ⟨x, by rw [← e], ⟨rfl, hx.2⟩, hm⟩
theorem cellsB_motion : Try.prog.cellsOf 34 = 14 := by kernel_rfl
def IsMotionDB (W : World) (cs : List Value) (x : MotionD) : Prop := cs = MotionD.cells x ∧ (x.held W W.heap.size)
set_option maxRecDepth 100000 in
theorem motion_trodB : ∀ fuel cs x, DataW.trod enc Try.prog W 0 (fun _ => true) true fuel 34 cs = some x → ∃ d, IsMotionDB W cs d ∧ motionM d ≤ Rows.uptoBulk x.1 := by
  intro fuel cs x h
  obtain ⟨hl, n, xs, hx, hxl, hg⟩ := open_structB Try.underlying34 h
  rw [cellsB_motion] at hl
  match cs, hl, xs, hxl with
  | [c0, c1, c2, c3, c4, c5, c6, c7, c8, c9, c10, c11, c12, c13], _, [y0, y1, y2, y3], _ =>
    have h0 : DataW.trod enc Try.prog W 0 (fun _ => true) true n 3 (([c0, c1, c2, c3, c4, c5, c6, c7, c8, c9, c10, c11, c12, c13].drop 0).take (Try.prog.cellsOf 3)) = some y0 := hg 0 _ rfl
    rw [show Try.prog.cellsOf 3 = 1 by kernel_rfl] at h0
    have h1 : DataW.trod enc Try.prog W 0 (fun _ => true) true n 3 (([c0, c1, c2, c3, c4, c5, c6, c7, c8, c9, c10, c11, c12, c13].drop 1).take (Try.prog.cellsOf 3)) = some y1 := hg 1 _ rfl
    rw [show Try.prog.cellsOf 3 = 1 by kernel_rfl] at h1
    have h2 : DataW.trod enc Try.prog W 0 (fun _ => true) true n 31 (([c0, c1, c2, c3, c4, c5, c6, c7, c8, c9, c10, c11, c12, c13].drop 2).take (Try.prog.cellsOf 31)) = some y2 := hg 2 _ rfl
    rw [show Try.prog.cellsOf 31 = 11 by kernel_rfl] at h2
    have h3 : DataW.trod enc Try.prog W 0 (fun _ => true) true n 32 (([c0, c1, c2, c3, c4, c5, c6, c7, c8, c9, c10, c11, c12, c13].drop 13).take (Try.prog.cellsOf 32)) = some y3 := hg 3 _ rfl
    rw [show Try.prog.cellsOf 32 = 1 by kernel_rfl] at h3
    obtain ⟨a0, ⟨e0, g0⟩, m0⟩ := int_trodB _ _ _ h0
    obtain ⟨a1, ⟨e1, g1⟩, m1⟩ := int_trodB _ _ _ h1
    obtain ⟨a2, ⟨e2, g2⟩, m2⟩ := block_trodB _ _ _ h2
    obtain ⟨A3, k3, l3, e3, g3, m3⟩ := certs_trodB _ _ _ h3
    simp [BlockD.cells] at e0 e1 e2 e3
    subst e0
    subst e1
    obtain ⟨rfl, rfl, rfl, rfl, rfl, rfl, rfl, rfl, rfl, rfl, rfl⟩ := e2
    subst e3
    exact ⟨⟨a0, a1, a2, l3, A3, k3⟩, ⟨rfl, ⟨g2, g3.2.2.1, Nat.le_trans g3.1 g3.2.1, fun y hy => (g3.2.2.2 y hy).2⟩⟩, by rw [hx]; simp only [List.map_cons, List.map_nil, Rows.uptoBulk, Rows.uptoBulkAll, motionM]; omega⟩
set_option maxRecDepth 100000 in
theorem openB_motion {v : Value} {d : DataW H} {p : List MemPlace} (hv : Value.okWide Try.prog W .any 0 34 v) (h : DataW.Trod enc Try.prog W 0 (fun _ => true) true 34 v d p) : ∃ x, v = .agg (MotionD.cells x).toArray ∧ IsMotionDB W (MotionD.cells x) x ∧ motionM x ≤ Rows.uptoBulk d := by
  obtain ⟨fuel, hf⟩ := h
  obtain ⟨cs, rfl, hsz⟩ := okWide_struct Try.underlying34 hv
  obtain ⟨x, hx, hm⟩ := motion_trodB _ _ _ hf
  have e : cs.toList = MotionD.cells x := by have := hx.1; simpa [Value.cells] using this
  exact ⟨x, by rw [← e], ⟨rfl, hx.2⟩, hm⟩
theorem cellsB_known : Try.prog.cellsOf 39 = 17 := by kernel_rfl
def IsKnownDB (W : World) (cs : List Value) (x : KnownD) : Prop := cs = KnownD.cells x ∧ (x.held W W.heap.size)
set_option maxRecDepth 100000 in
theorem known_trodB : ∀ fuel cs x, DataW.trod enc Try.prog W 0 (fun _ => true) true fuel 39 cs = some x → ∃ d, IsKnownDB W cs d ∧ knownM d ≤ Rows.uptoBulk x.1 := by
  intro fuel cs x h
  obtain ⟨hl, n, xs, hx, hxl, hg⟩ := open_structB Try.underlying39 h
  rw [cellsB_known] at hl
  match cs, hl, xs, hxl with
  | [c0, c1, c2, c3, c4, c5, c6, c7, c8, c9, c10, c11, c12, c13, c14, c15, c16], _, [y0, y1], _ =>
    have h0 : DataW.trod enc Try.prog W 0 (fun _ => true) true n 37 (([c0, c1, c2, c3, c4, c5, c6, c7, c8, c9, c10, c11, c12, c13, c14, c15, c16].drop 0).take (Try.prog.cellsOf 37)) = some y0 := hg 0 _ rfl
    rw [show Try.prog.cellsOf 37 = 6 by kernel_rfl] at h0
    have h1 : DataW.trod enc Try.prog W 0 (fun _ => true) true n 31 (([c0, c1, c2, c3, c4, c5, c6, c7, c8, c9, c10, c11, c12, c13, c14, c15, c16].drop 6).take (Try.prog.cellsOf 31)) = some y1 := hg 1 _ rfl
    rw [show Try.prog.cellsOf 31 = 11 by kernel_rfl] at h1
    obtain ⟨a0, ⟨e0, g0⟩, m0⟩ := cert_trodB _ _ _ h0
    obtain ⟨a1, ⟨e1, g1⟩, m1⟩ := block_trodB _ _ _ h1
    simp [BlockD.cells, CertD.cells] at e0 e1
    obtain ⟨rfl, rfl, rfl, rfl, rfl, rfl⟩ := e0
    obtain ⟨rfl, rfl, rfl, rfl, rfl, rfl, rfl, rfl, rfl, rfl, rfl⟩ := e1
    exact ⟨⟨a0, a1⟩, ⟨rfl, ⟨g0, g1⟩⟩, by rw [hx]; simp only [List.map_cons, List.map_nil, Rows.uptoBulk, Rows.uptoBulkAll, knownM]; omega⟩
set_option maxRecDepth 100000 in
theorem openB_known {v : Value} {d : DataW H} {p : List MemPlace} (hv : Value.okWide Try.prog W .any 0 39 v) (h : DataW.Trod enc Try.prog W 0 (fun _ => true) true 39 v d p) : ∃ x, v = .agg (KnownD.cells x).toArray ∧ IsKnownDB W (KnownD.cells x) x ∧ knownM x ≤ Rows.uptoBulk d := by
  obtain ⟨fuel, hf⟩ := h
  obtain ⟨cs, rfl, hsz⟩ := okWide_struct Try.underlying39 hv
  obtain ⟨x, hx, hm⟩ := known_trodB _ _ _ hf
  have e : cs.toList = KnownD.cells x := by have := hx.1; simpa [Value.cells] using this
  exact ⟨x, by rw [← e], ⟨rfl, hx.2⟩, hm⟩
def IsMessageDB (W : World) (cs : List Value) (x : MessageD) : Prop := cs = MessageD.cells x ∧ (x.held W W.heap.size)
theorem cellsB_record : Try.prog.cellsOf 41 = 38 := by kernel_rfl
def IsRecordDB (W : World) (cs : List Value) (x : RecordD) : Prop := cs = RecordD.cells x ∧ x.held W W.heap.size
theorem list_cut {α : Type} (l : List α) (a n : Nat) : l.drop a = (l.drop a).take n ++ l.drop (a + n) := by
  rw [← List.drop_drop, List.take_append_drop]
set_option maxRecDepth 100000 in
theorem record_trodB : ∀ fuel cs x, DataW.trod enc Try.prog W 0 (fun _ => true) true fuel 41 cs = some x → ∃ d, IsRecordDB W cs d ∧ recordM d ≤ Rows.uptoBulk x.1 := by
  intro fuel cs x h
  obtain ⟨hl, n, xs, hx, hxl, hg⟩ := open_structB Try.underlying41 h
  rw [cellsB_record] at hl
  match xs, hxl with
  | [y0, y1, y2, y3], _ =>
    have h0 : DataW.trod enc Try.prog W 0 (fun _ => true) true n 3 ((cs.drop 0).take (Try.prog.cellsOf 3)) = some y0 := hg 0 _ rfl
    rw [show Try.prog.cellsOf 3 = 1 by kernel_rfl] at h0
    have h1 : DataW.trod enc Try.prog W 0 (fun _ => true) true n 25 ((cs.drop 1).take (Try.prog.cellsOf 25)) = some y1 := hg 1 _ rfl
    rw [show Try.prog.cellsOf 25 = 6 by kernel_rfl] at h1
    have h2 : DataW.trod enc Try.prog W 0 (fun _ => true) true n 34 ((cs.drop 7).take (Try.prog.cellsOf 34)) = some y2 := hg 2 _ rfl
    rw [show Try.prog.cellsOf 34 = 14 by kernel_rfl] at h2
    have h3 : DataW.trod enc Try.prog W 0 (fun _ => true) true n 39 ((cs.drop 21).take (Try.prog.cellsOf 39)) = some y3 := hg 3 _ rfl
    rw [show Try.prog.cellsOf 39 = 17 by kernel_rfl] at h3
    obtain ⟨a0, ⟨e0, g0⟩, m0⟩ := int_trodB _ _ _ h0
    obtain ⟨a1, ⟨e1, g1⟩, m1⟩ := vote_trodB _ _ _ h1
    obtain ⟨a2, ⟨e2, g2⟩, m2⟩ := motion_trodB _ _ _ h2
    obtain ⟨a3, ⟨e3, g3⟩, m3⟩ := known_trodB _ _ _ h3
    have e : cs = RecordD.cells ⟨a0, a1, a2, a3⟩ := by
      have p0 := list_cut cs 0 1
      have p1 := list_cut cs 1 6
      have p2 := list_cut cs 7 14
      have p3 := list_cut cs 21 17
      rw [e0] at p0
      rw [e1] at p1
      rw [e2] at p2
      rw [e3, List.drop_eq_nil_of_le (show cs.length ≤ 21 + 17 by omega)] at p3
      rw [p3] at p2
      rw [p2] at p1
      rw [p1] at p0
      exact p0
    exact ⟨⟨a0, a1, a2, a3⟩, ⟨e, ⟨g1, g2, g3⟩⟩, by rw [hx]; simp only [List.map_cons, List.map_nil, Rows.uptoBulk, Rows.uptoBulkAll, recordM]; omega⟩
set_option maxRecDepth 100000 in
theorem openB_record {v : Value} {d : DataW H} {p : List MemPlace} (hv : Value.okWide Try.prog W .any 0 41 v) (h : DataW.Trod enc Try.prog W 0 (fun _ => true) true 41 v d p) : ∃ x, v = .agg (RecordD.cells x).toArray ∧ IsRecordDB W (RecordD.cells x) x ∧ recordM x ≤ Rows.uptoBulk d := by
  obtain ⟨fuel, hf⟩ := h
  obtain ⟨cs, rfl, hsz⟩ := okWide_struct Try.underlying41 hv
  obtain ⟨x, hx, hm⟩ := record_trodB _ _ _ hf
  have e : cs.toList = RecordD.cells x := by have := hx.1; simpa [Value.cells] using this
  exact ⟨x, by rw [← e], ⟨rfl, hx.2⟩, hm⟩
end
end Go.Proofs.Ytjjkdmngmopjbaa
