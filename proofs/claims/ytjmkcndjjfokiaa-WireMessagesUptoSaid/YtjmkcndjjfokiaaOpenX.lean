/- Blocks, motions, knowns, messages, records as arguments, opened. -/
import Derived.Test.YtjmkcndjjfokiaaProg
import Derived.Test.YtjmkcndjjfokiaaOpenV
import Derived.Test.YtjmkcndjjfokiaaWrV
namespace Go.Proofs.Ytjmkcndjjfokiaa
open Go.ChangeShapes Go.WideShapes Go.ChangeAt Go.RowKit Go.Deep
section
variable {H : Type} {enc : TypeId × Value → H} {W : World}
set_option maxRecDepth 100000 in
theorem votes_trodB : ∀ fuel cs x, DataW.trod enc Try.prog W 0 (fun _ => true) true fuel 91 cs = some x → ∃ A c l, cs = [.slice A l.length c] ∧ (l.length ≤ c ∧ c ≤ maxLen ∧ Lay 6 voteCells W W.heap.size A l ∧ ∀ y ∈ l, IsVoteDB W (voteCells y) y) ∧ sumL voteM l + 1 ≤ Rows.uptoBulk x.1 := by
  intro fuel cs x h
  obtain ⟨l, hl, hm⟩ := slOf_of_trodB voteM (size := 6) (R := IsVoteDB W) Try.underlying91 cellsB_vote (by omega) vote_trodB _ _ _ h
  obtain ⟨A, c, e, h1, h2, h3, h4⟩ := hl.flat voteCells (fun _ _ hx => hx.1)
  exact ⟨A, c, l, e, ⟨h1, h2, h3, fun y hy => by obtain ⟨cs, hc⟩ := h4 y hy; exact ⟨rfl, hc.2⟩⟩, hm⟩
set_option maxRecDepth 100000 in
theorem openB_votes {v : Value} {d : DataW H} {p : List MemPlace} (hv : Value.okWide Try.prog W .any 0 91 v) (h : DataW.Trod enc Try.prog W 0 (fun _ => true) true 91 v d p) : ∃ A c l, v = .slice A l.length c ∧ (l.length ≤ c ∧ c ≤ maxLen ∧ Lay 6 voteCells W W.heap.size A l ∧ ∀ y ∈ l, IsVoteDB W (voteCells y) y) ∧ sumL voteM l + 1 ≤ Rows.uptoBulk d := by
  obtain ⟨fuel, hf⟩ := h
  obtain ⟨a, len, cap, rfl⟩ := okWide_slice Try.underlying91 hv
  obtain ⟨A, c, l, e, h1, hm⟩ := votes_trodB _ _ _ hf
  simp [Value.cells] at e
  obtain ⟨rfl, rfl, rfl⟩ := e
  exact ⟨_, _, l, rfl, h1, hm⟩
set_option maxRecDepth 100000 in
theorem guilts_trodB : ∀ fuel cs x, DataW.trod enc Try.prog W 0 (fun _ => true) true fuel 66 cs = some x → ∃ A c l, cs = [.slice A l.length c] ∧ (l.length ≤ c ∧ c ≤ maxLen ∧ Lay 12 GuiltD.cells W W.heap.size A l ∧ ∀ y ∈ l, IsGuiltDB W (GuiltD.cells y) y) ∧ sumL guiltM l + 1 ≤ Rows.uptoBulk x.1 := by
  intro fuel cs x h
  obtain ⟨l, hl, hm⟩ := slOf_of_trodB guiltM (size := 12) (R := IsGuiltDB W) Try.underlying66 cellsB_guilt (by omega) guilt_trodB _ _ _ h
  obtain ⟨A, c, e, h1, h2, h3, h4⟩ := hl.flat GuiltD.cells (fun _ _ hx => hx.1)
  exact ⟨A, c, l, e, ⟨h1, h2, h3, fun y hy => by obtain ⟨cs, hc⟩ := h4 y hy; exact ⟨rfl, hc.2⟩⟩, hm⟩
set_option maxRecDepth 100000 in
theorem openB_guilts {v : Value} {d : DataW H} {p : List MemPlace} (hv : Value.okWide Try.prog W .any 0 66 v) (h : DataW.Trod enc Try.prog W 0 (fun _ => true) true 66 v d p) : ∃ A c l, v = .slice A l.length c ∧ (l.length ≤ c ∧ c ≤ maxLen ∧ Lay 12 GuiltD.cells W W.heap.size A l ∧ ∀ y ∈ l, IsGuiltDB W (GuiltD.cells y) y) ∧ sumL guiltM l + 1 ≤ Rows.uptoBulk d := by
  obtain ⟨fuel, hf⟩ := h
  obtain ⟨a, len, cap, rfl⟩ := okWide_slice Try.underlying66 hv
  obtain ⟨A, c, l, e, h1, hm⟩ := guilts_trodB _ _ _ hf
  simp [Value.cells] at e
  obtain ⟨rfl, rfl, rfl⟩ := e
  exact ⟨_, _, l, rfl, h1, hm⟩
set_option maxRecDepth 100000 in
theorem certs_trodB : ∀ fuel cs x, DataW.trod enc Try.prog W 0 (fun _ => true) true fuel 98 cs = some x → ∃ A c l, cs = [.slice A l.length c] ∧ (l.length ≤ c ∧ c ≤ maxLen ∧ Lay 6 CertD.cells W W.heap.size A l ∧ ∀ y ∈ l, IsCertDB W (CertD.cells y) y) ∧ sumL certM l + 1 ≤ Rows.uptoBulk x.1 := by
  intro fuel cs x h
  obtain ⟨l, hl, hm⟩ := slOf_of_trodB certM (size := 6) (R := IsCertDB W) Try.underlying98 cellsB_cert (by omega) cert_trodB _ _ _ h
  obtain ⟨A, c, e, h1, h2, h3, h4⟩ := hl.flat CertD.cells (fun _ _ hx => hx.1)
  exact ⟨A, c, l, e, ⟨h1, h2, h3, fun y hy => by obtain ⟨cs, hc⟩ := h4 y hy; exact ⟨rfl, hc.2⟩⟩, hm⟩
set_option maxRecDepth 100000 in
theorem openB_certs {v : Value} {d : DataW H} {p : List MemPlace} (hv : Value.okWide Try.prog W .any 0 98 v) (h : DataW.Trod enc Try.prog W 0 (fun _ => true) true 98 v d p) : ∃ A c l, v = .slice A l.length c ∧ (l.length ≤ c ∧ c ≤ maxLen ∧ Lay 6 CertD.cells W W.heap.size A l ∧ ∀ y ∈ l, IsCertDB W (CertD.cells y) y) ∧ sumL certM l + 1 ≤ Rows.uptoBulk d := by
  obtain ⟨fuel, hf⟩ := h
  obtain ⟨a, len, cap, rfl⟩ := okWide_slice Try.underlying98 hv
  obtain ⟨A, c, l, e, h1, hm⟩ := certs_trodB _ _ _ hf
  simp [Value.cells] at e
  obtain ⟨rfl, rfl, rfl⟩ := e
  exact ⟨_, _, l, rfl, h1, hm⟩
theorem cellsB_block : Try.prog.cellsOf 68 = 11 := by kernel_rfl
def IsBlockDB (W : World) (cs : List Value) (x : BlockD) : Prop := cs = BlockD.cells x ∧ (x.held W W.heap.size)
set_option maxRecDepth 100000 in
theorem block_trodB : ∀ fuel cs x, DataW.trod enc Try.prog W 0 (fun _ => true) true fuel 68 cs = some x → ∃ d, IsBlockDB W cs d ∧ blockM d ≤ Rows.uptoBulk x.1 := by
  intro fuel cs x h
  obtain ⟨hl, n, xs, hx, hxl, hg⟩ := open_structB Try.underlying68 h
  rw [cellsB_block] at hl
  match cs, hl, xs, hxl with
  | [c0, c1, c2, c3, c4, c5, c6, c7, c8, c9, c10], _, [y0, y1, y2], _ =>
    have h0 : DataW.trod enc Try.prog W 0 (fun _ => true) true n 64 (([c0, c1, c2, c3, c4, c5, c6, c7, c8, c9, c10].drop 0).take (Try.prog.cellsOf 64)) = some y0 := hg 0 _ rfl
    rw [show Try.prog.cellsOf 64 = 9 by kernel_rfl] at h0
    have h1 : DataW.trod enc Try.prog W 0 (fun _ => true) true n 65 (([c0, c1, c2, c3, c4, c5, c6, c7, c8, c9, c10].drop 9).take (Try.prog.cellsOf 65)) = some y1 := hg 1 _ rfl
    rw [show Try.prog.cellsOf 65 = 1 by kernel_rfl] at h1
    have h2 : DataW.trod enc Try.prog W 0 (fun _ => true) true n 66 (([c0, c1, c2, c3, c4, c5, c6, c7, c8, c9, c10].drop 10).take (Try.prog.cellsOf 66)) = some y2 := hg 2 _ rfl
    rw [show Try.prog.cellsOf 66 = 1 by kernel_rfl] at h2
    obtain ⟨a0, ⟨e0, g0⟩, m0⟩ := header_trodB _ _ _ h0
    obtain ⟨A1, k1, l1, e1, g1, m1⟩ := txs_trodB _ _ _ h1
    obtain ⟨A2, k2, l2, e2, g2, m2⟩ := guilts_trodB _ _ _ h2
    simp [HeaderD.cells] at e0 e1 e2
    obtain ⟨rfl, rfl, rfl, rfl, rfl, rfl, rfl, rfl, rfl⟩ := e0
    subst e1
    subst e2
    exact ⟨⟨a0, l1, A1, k1, l2, A2, k2⟩, ⟨rfl, ⟨g0, g1.2.2.1, g2.2.2.1, ⟨Nat.le_trans g1.1 g1.2.1, Nat.le_trans g2.1 g2.2.1⟩, fun y hy => (g1.2.2.2 y hy).2, fun y hy => (g2.2.2.2 y hy).2⟩⟩, by rw [hx]; simp only [List.map_cons, List.map_nil, Rows.uptoBulk, Rows.uptoBulkAll, blockM]; omega⟩
set_option maxRecDepth 100000 in
theorem openB_block {v : Value} {d : DataW H} {p : List MemPlace} (hv : Value.okWide Try.prog W .any 0 68 v) (h : DataW.Trod enc Try.prog W 0 (fun _ => true) true 68 v d p) : ∃ x, v = .agg (BlockD.cells x).toArray ∧ IsBlockDB W (BlockD.cells x) x ∧ blockM x ≤ Rows.uptoBulk d := by
  obtain ⟨fuel, hf⟩ := h
  obtain ⟨cs, rfl, hsz⟩ := okWide_struct Try.underlying68 hv
  obtain ⟨x, hx, hm⟩ := block_trodB _ _ _ hf
  have e : cs.toList = BlockD.cells x := by have := hx.1; simpa [Value.cells] using this
  exact ⟨x, by rw [← e], ⟨rfl, hx.2⟩, hm⟩
theorem cellsB_motion : Try.prog.cellsOf 100 = 14 := by kernel_rfl
def IsMotionDB (W : World) (cs : List Value) (x : MotionD) : Prop := cs = MotionD.cells x ∧ (x.held W W.heap.size)
set_option maxRecDepth 100000 in
theorem motion_trodB : ∀ fuel cs x, DataW.trod enc Try.prog W 0 (fun _ => true) true fuel 100 cs = some x → ∃ d, IsMotionDB W cs d ∧ motionM d ≤ Rows.uptoBulk x.1 := by
  intro fuel cs x h
  obtain ⟨hl, n, xs, hx, hxl, hg⟩ := open_structB Try.underlying100 h
  rw [cellsB_motion] at hl
  match cs, hl, xs, hxl with
  | [c0, c1, c2, c3, c4, c5, c6, c7, c8, c9, c10, c11, c12, c13], _, [y0, y1, y2, y3], _ =>
    have h0 : DataW.trod enc Try.prog W 0 (fun _ => true) true n 3 (([c0, c1, c2, c3, c4, c5, c6, c7, c8, c9, c10, c11, c12, c13].drop 0).take (Try.prog.cellsOf 3)) = some y0 := hg 0 _ rfl
    rw [show Try.prog.cellsOf 3 = 1 by kernel_rfl] at h0
    have h1 : DataW.trod enc Try.prog W 0 (fun _ => true) true n 3 (([c0, c1, c2, c3, c4, c5, c6, c7, c8, c9, c10, c11, c12, c13].drop 1).take (Try.prog.cellsOf 3)) = some y1 := hg 1 _ rfl
    rw [show Try.prog.cellsOf 3 = 1 by kernel_rfl] at h1
    have h2 : DataW.trod enc Try.prog W 0 (fun _ => true) true n 68 (([c0, c1, c2, c3, c4, c5, c6, c7, c8, c9, c10, c11, c12, c13].drop 2).take (Try.prog.cellsOf 68)) = some y2 := hg 2 _ rfl
    rw [show Try.prog.cellsOf 68 = 11 by kernel_rfl] at h2
    have h3 : DataW.trod enc Try.prog W 0 (fun _ => true) true n 98 (([c0, c1, c2, c3, c4, c5, c6, c7, c8, c9, c10, c11, c12, c13].drop 13).take (Try.prog.cellsOf 98)) = some y3 := hg 3 _ rfl
    rw [show Try.prog.cellsOf 98 = 1 by kernel_rfl] at h3
    obtain ⟨a0, ⟨e0, g0⟩, m0⟩ := int_trodB _ _ _ h0
    obtain ⟨a1, ⟨e1, g1⟩, m1⟩ := int_trodB _ _ _ h1
    obtain ⟨a2, ⟨e2, g2⟩, m2⟩ := block_trodB _ _ _ h2
    obtain ⟨A3, k3, l3, e3, g3, m3⟩ := certs_trodB _ _ _ h3
    simp [BlockD.cells] at e0 e1 e2 e3
    subst e0
    subst e1
    obtain ⟨rfl, rfl, rfl, rfl, rfl, rfl, rfl, rfl, rfl, rfl, rfl⟩ := e2
    subst e3
    exact ⟨⟨a0, a1, a2, l3, A3, k3⟩, ⟨rfl, ⟨g2, g3.2.2.1, Nat.le_trans g3.1 g3.2.1, fun y hy => (g3.2.2.2 y hy).2⟩⟩, by rw [hx]; simp only [List.map_cons, List.map_nil, Rows.uptoBulk, Rows.uptoBulkAll, motionM]; omega⟩
set_option maxRecDepth 100000 in
theorem openB_motion {v : Value} {d : DataW H} {p : List MemPlace} (hv : Value.okWide Try.prog W .any 0 100 v) (h : DataW.Trod enc Try.prog W 0 (fun _ => true) true 100 v d p) : ∃ x, v = .agg (MotionD.cells x).toArray ∧ IsMotionDB W (MotionD.cells x) x ∧ motionM x ≤ Rows.uptoBulk d := by
  obtain ⟨fuel, hf⟩ := h
  obtain ⟨cs, rfl, hsz⟩ := okWide_struct Try.underlying100 hv
  obtain ⟨x, hx, hm⟩ := motion_trodB _ _ _ hf
  have e : cs.toList = MotionD.cells x := by have := hx.1; simpa [Value.cells] using this
  exact ⟨x, by rw [← e], ⟨rfl, hx.2⟩, hm⟩
set_option maxRecDepth 100000 in
theorem motions_trodB : ∀ fuel cs x, DataW.trod enc Try.prog W 0 (fun _ => true) true fuel 92 cs = some x → ∃ A c l, cs = [.slice A l.length c] ∧ (l.length ≤ c ∧ c ≤ maxLen ∧ Lay 14 MotionD.cells W W.heap.size A l ∧ ∀ y ∈ l, IsMotionDB W (MotionD.cells y) y) ∧ sumL motionM l + 1 ≤ Rows.uptoBulk x.1 := by
  intro fuel cs x h
  obtain ⟨l, hl, hm⟩ := slOf_of_trodB motionM (size := 14) (R := IsMotionDB W) Try.underlying92 cellsB_motion (by omega) motion_trodB _ _ _ h
  obtain ⟨A, c, e, h1, h2, h3, h4⟩ := hl.flat MotionD.cells (fun _ _ hx => hx.1)
  exact ⟨A, c, l, e, ⟨h1, h2, h3, fun y hy => by obtain ⟨cs, hc⟩ := h4 y hy; exact ⟨rfl, hc.2⟩⟩, hm⟩
set_option maxRecDepth 100000 in
theorem openB_motions {v : Value} {d : DataW H} {p : List MemPlace} (hv : Value.okWide Try.prog W .any 0 92 v) (h : DataW.Trod enc Try.prog W 0 (fun _ => true) true 92 v d p) : ∃ A c l, v = .slice A l.length c ∧ (l.length ≤ c ∧ c ≤ maxLen ∧ Lay 14 MotionD.cells W W.heap.size A l ∧ ∀ y ∈ l, IsMotionDB W (MotionD.cells y) y) ∧ sumL motionM l + 1 ≤ Rows.uptoBulk d := by
  obtain ⟨fuel, hf⟩ := h
  obtain ⟨a, len, cap, rfl⟩ := okWide_slice Try.underlying92 hv
  obtain ⟨A, c, l, e, h1, hm⟩ := motions_trodB _ _ _ hf
  simp [Value.cells] at e
  obtain ⟨rfl, rfl, rfl⟩ := e
  exact ⟨_, _, l, rfl, h1, hm⟩
theorem cellsB_known : Try.prog.cellsOf 102 = 17 := by kernel_rfl
def IsKnownDB (W : World) (cs : List Value) (x : KnownD) : Prop := cs = KnownD.cells x ∧ (x.held W W.heap.size)
set_option maxRecDepth 100000 in
theorem known_trodB : ∀ fuel cs x, DataW.trod enc Try.prog W 0 (fun _ => true) true fuel 102 cs = some x → ∃ d, IsKnownDB W cs d ∧ knownM d ≤ Rows.uptoBulk x.1 := by
  intro fuel cs x h
  obtain ⟨hl, n, xs, hx, hxl, hg⟩ := open_structB Try.underlying102 h
  rw [cellsB_known] at hl
  match cs, hl, xs, hxl with
  | [c0, c1, c2, c3, c4, c5, c6, c7, c8, c9, c10, c11, c12, c13, c14, c15, c16], _, [y0, y1], _ =>
    have h0 : DataW.trod enc Try.prog W 0 (fun _ => true) true n 54 (([c0, c1, c2, c3, c4, c5, c6, c7, c8, c9, c10, c11, c12, c13, c14, c15, c16].drop 0).take (Try.prog.cellsOf 54)) = some y0 := hg 0 _ rfl
    rw [show Try.prog.cellsOf 54 = 6 by kernel_rfl] at h0
    have h1 : DataW.trod enc Try.prog W 0 (fun _ => true) true n 68 (([c0, c1, c2, c3, c4, c5, c6, c7, c8, c9, c10, c11, c12, c13, c14, c15, c16].drop 6).take (Try.prog.cellsOf 68)) = some y1 := hg 1 _ rfl
    rw [show Try.prog.cellsOf 68 = 11 by kernel_rfl] at h1
    obtain ⟨a0, ⟨e0, g0⟩, m0⟩ := cert_trodB _ _ _ h0
    obtain ⟨a1, ⟨e1, g1⟩, m1⟩ := block_trodB _ _ _ h1
    simp [BlockD.cells, CertD.cells] at e0 e1
    obtain ⟨rfl, rfl, rfl, rfl, rfl, rfl⟩ := e0
    obtain ⟨rfl, rfl, rfl, rfl, rfl, rfl, rfl, rfl, rfl, rfl, rfl⟩ := e1
    exact ⟨⟨a0, a1⟩, ⟨rfl, ⟨g0, g1⟩⟩, by rw [hx]; simp only [List.map_cons, List.map_nil, Rows.uptoBulk, Rows.uptoBulkAll, knownM]; omega⟩
set_option maxRecDepth 100000 in
theorem openB_known {v : Value} {d : DataW H} {p : List MemPlace} (hv : Value.okWide Try.prog W .any 0 102 v) (h : DataW.Trod enc Try.prog W 0 (fun _ => true) true 102 v d p) : ∃ x, v = .agg (KnownD.cells x).toArray ∧ IsKnownDB W (KnownD.cells x) x ∧ knownM x ≤ Rows.uptoBulk d := by
  obtain ⟨fuel, hf⟩ := h
  obtain ⟨cs, rfl, hsz⟩ := okWide_struct Try.underlying102 hv
  obtain ⟨x, hx, hm⟩ := known_trodB _ _ _ hf
  have e : cs.toList = KnownD.cells x := by have := hx.1; simpa [Value.cells] using this
  exact ⟨x, by rw [← e], ⟨rfl, hx.2⟩, hm⟩
set_option maxRecDepth 100000 in
theorem knowns_trodB : ∀ fuel cs x, DataW.trod enc Try.prog W 0 (fun _ => true) true fuel 93 cs = some x → ∃ A c l, cs = [.slice A l.length c] ∧ (l.length ≤ c ∧ c ≤ maxLen ∧ Lay 17 KnownD.cells W W.heap.size A l ∧ ∀ y ∈ l, IsKnownDB W (KnownD.cells y) y) ∧ sumL knownM l + 1 ≤ Rows.uptoBulk x.1 := by
  intro fuel cs x h
  obtain ⟨l, hl, hm⟩ := slOf_of_trodB knownM (size := 17) (R := IsKnownDB W) Try.underlying93 cellsB_known (by omega) known_trodB _ _ _ h
  obtain ⟨A, c, e, h1, h2, h3, h4⟩ := hl.flat KnownD.cells (fun _ _ hx => hx.1)
  exact ⟨A, c, l, e, ⟨h1, h2, h3, fun y hy => by obtain ⟨cs, hc⟩ := h4 y hy; exact ⟨rfl, hc.2⟩⟩, hm⟩
set_option maxRecDepth 100000 in
theorem openB_knowns {v : Value} {d : DataW H} {p : List MemPlace} (hv : Value.okWide Try.prog W .any 0 93 v) (h : DataW.Trod enc Try.prog W 0 (fun _ => true) true 93 v d p) : ∃ A c l, v = .slice A l.length c ∧ (l.length ≤ c ∧ c ≤ maxLen ∧ Lay 17 KnownD.cells W W.heap.size A l ∧ ∀ y ∈ l, IsKnownDB W (KnownD.cells y) y) ∧ sumL knownM l + 1 ≤ Rows.uptoBulk d := by
  obtain ⟨fuel, hf⟩ := h
  obtain ⟨a, len, cap, rfl⟩ := okWide_slice Try.underlying93 hv
  obtain ⟨A, c, l, e, h1, hm⟩ := knowns_trodB _ _ _ hf
  simp [Value.cells] at e
  obtain ⟨rfl, rfl, rfl⟩ := e
  exact ⟨_, _, l, rfl, h1, hm⟩
theorem cellsB_message : Try.prog.cellsOf 95 = 7 := by kernel_rfl
def IsMessageDB (W : World) (cs : List Value) (x : MessageD) : Prop := cs = MessageD.cells x ∧ (x.held W W.heap.size)
set_option maxRecDepth 100000 in
theorem message_trodB : ∀ fuel cs x, DataW.trod enc Try.prog W 0 (fun _ => true) true fuel 95 cs = some x → ∃ d, IsMessageDB W cs d ∧ messageM d ≤ Rows.uptoBulk x.1 := by
  intro fuel cs x h
  obtain ⟨hl, n, xs, hx, hxl, hg⟩ := open_structB Try.underlying95 h
  rw [cellsB_message] at hl
  match cs, hl, xs, hxl with
  | [c0, c1, c2, c3, c4, c5, c6], _, [y0, y1, y2, y3, y4, y5, y6], _ =>
    have h0 : DataW.trod enc Try.prog W 0 (fun _ => true) true n 3 (([c0, c1, c2, c3, c4, c5, c6].drop 0).take (Try.prog.cellsOf 3)) = some y0 := hg 0 _ rfl
    rw [show Try.prog.cellsOf 3 = 1 by kernel_rfl] at h0
    have h1 : DataW.trod enc Try.prog W 0 (fun _ => true) true n 3 (([c0, c1, c2, c3, c4, c5, c6].drop 1).take (Try.prog.cellsOf 3)) = some y1 := hg 1 _ rfl
    rw [show Try.prog.cellsOf 3 = 1 by kernel_rfl] at h1
    have h2 : DataW.trod enc Try.prog W 0 (fun _ => true) true n 3 (([c0, c1, c2, c3, c4, c5, c6].drop 2).take (Try.prog.cellsOf 3)) = some y2 := hg 2 _ rfl
    rw [show Try.prog.cellsOf 3 = 1 by kernel_rfl] at h2
    have h3 : DataW.trod enc Try.prog W 0 (fun _ => true) true n 91 (([c0, c1, c2, c3, c4, c5, c6].drop 3).take (Try.prog.cellsOf 91)) = some y3 := hg 3 _ rfl
    rw [show Try.prog.cellsOf 91 = 1 by kernel_rfl] at h3
    have h4 : DataW.trod enc Try.prog W 0 (fun _ => true) true n 92 (([c0, c1, c2, c3, c4, c5, c6].drop 4).take (Try.prog.cellsOf 92)) = some y4 := hg 4 _ rfl
    rw [show Try.prog.cellsOf 92 = 1 by kernel_rfl] at h4
    have h5 : DataW.trod enc Try.prog W 0 (fun _ => true) true n 93 (([c0, c1, c2, c3, c4, c5, c6].drop 5).take (Try.prog.cellsOf 93)) = some y5 := hg 5 _ rfl
    rw [show Try.prog.cellsOf 93 = 1 by kernel_rfl] at h5
    have h6 : DataW.trod enc Try.prog W 0 (fun _ => true) true n 65 (([c0, c1, c2, c3, c4, c5, c6].drop 6).take (Try.prog.cellsOf 65)) = some y6 := hg 6 _ rfl
    rw [show Try.prog.cellsOf 65 = 1 by kernel_rfl] at h6
    obtain ⟨a0, ⟨e0, g0⟩, m0⟩ := int_trodB _ _ _ h0
    obtain ⟨a1, ⟨e1, g1⟩, m1⟩ := int_trodB _ _ _ h1
    obtain ⟨a2, ⟨e2, g2⟩, m2⟩ := int_trodB _ _ _ h2
    obtain ⟨A3, k3, l3, e3, g3, m3⟩ := votes_trodB _ _ _ h3
    obtain ⟨A4, k4, l4, e4, g4, m4⟩ := motions_trodB _ _ _ h4
    obtain ⟨A5, k5, l5, e5, g5, m5⟩ := knowns_trodB _ _ _ h5
    obtain ⟨A6, k6, l6, e6, g6, m6⟩ := txs_trodB _ _ _ h6
    simp at e0 e1 e2 e3 e4 e5 e6
    subst e0
    subst e1
    subst e2
    subst e3
    subst e4
    subst e5
    subst e6
    exact ⟨⟨a0, a1, a2, l3, A3, k3, l4, A4, k4, l5, A5, k5, l6, A6, k6⟩, ⟨rfl, ⟨g3.2.2.1, g4.2.2.1, g5.2.2.1, g6.2.2.1, ⟨Nat.le_trans g3.1 g3.2.1, Nat.le_trans g4.1 g4.2.1, Nat.le_trans g5.1 g5.2.1, Nat.le_trans g6.1 g6.2.1⟩, fun y hy => (g3.2.2.2 y hy).2, fun y hy => (g4.2.2.2 y hy).2, fun y hy => (g5.2.2.2 y hy).2, fun y hy => (g6.2.2.2 y hy).2⟩⟩, by rw [hx]; simp only [List.map_cons, List.map_nil, Rows.uptoBulk, Rows.uptoBulkAll, messageM]; omega⟩
set_option maxRecDepth 100000 in
theorem openB_message {v : Value} {d : DataW H} {p : List MemPlace} (hv : Value.okWide Try.prog W .any 0 95 v) (h : DataW.Trod enc Try.prog W 0 (fun _ => true) true 95 v d p) : ∃ x, v = .agg (MessageD.cells x).toArray ∧ IsMessageDB W (MessageD.cells x) x ∧ messageM x ≤ Rows.uptoBulk d := by
  obtain ⟨fuel, hf⟩ := h
  obtain ⟨cs, rfl, hsz⟩ := okWide_struct Try.underlying95 hv
  obtain ⟨x, hx, hm⟩ := message_trodB _ _ _ hf
  have e : cs.toList = MessageD.cells x := by have := hx.1; simpa [Value.cells] using this
  exact ⟨x, by rw [← e], ⟨rfl, hx.2⟩, hm⟩
theorem cellsB_record : Try.prog.cellsOf 104 = 38 := by kernel_rfl
def IsRecordDB (W : World) (cs : List Value) (x : RecordD) : Prop := cs = RecordD.cells x ∧ x.held W W.heap.size
theorem list_cut {α : Type} (l : List α) (a n : Nat) : l.drop a = (l.drop a).take n ++ l.drop (a + n) := by
  rw [← List.drop_drop, List.take_append_drop]
set_option maxRecDepth 100000 in
theorem record_trodB : ∀ fuel cs x, DataW.trod enc Try.prog W 0 (fun _ => true) true fuel 104 cs = some x → ∃ d, IsRecordDB W cs d ∧ recordM d ≤ Rows.uptoBulk x.1 := by
  intro fuel cs x h
  obtain ⟨hl, n, xs, hx, hxl, hg⟩ := open_structB Try.underlying104 h
  rw [cellsB_record] at hl
  match xs, hxl with
  | [y0, y1, y2, y3], _ =>
    have h0 : DataW.trod enc Try.prog W 0 (fun _ => true) true n 3 ((cs.drop 0).take (Try.prog.cellsOf 3)) = some y0 := hg 0 _ rfl
    rw [show Try.prog.cellsOf 3 = 1 by kernel_rfl] at h0
    have h1 : DataW.trod enc Try.prog W 0 (fun _ => true) true n 56 ((cs.drop 1).take (Try.prog.cellsOf 56)) = some y1 := hg 1 _ rfl
    rw [show Try.prog.cellsOf 56 = 6 by kernel_rfl] at h1
    have h2 : DataW.trod enc Try.prog W 0 (fun _ => true) true n 100 ((cs.drop 7).take (Try.prog.cellsOf 100)) = some y2 := hg 2 _ rfl
    rw [show Try.prog.cellsOf 100 = 14 by kernel_rfl] at h2
    have h3 : DataW.trod enc Try.prog W 0 (fun _ => true) true n 102 ((cs.drop 21).take (Try.prog.cellsOf 102)) = some y3 := hg 3 _ rfl
    rw [show Try.prog.cellsOf 102 = 17 by kernel_rfl] at h3
    obtain ⟨a0, ⟨e0, g0⟩, m0⟩ := int_trodB _ _ _ h0
    obtain ⟨a1, ⟨e1, g1⟩, m1⟩ := vote_trodB _ _ _ h1
    obtain ⟨a2, ⟨e2, g2⟩, m2⟩ := motion_trodB _ _ _ h2
    obtain ⟨a3, ⟨e3, g3⟩, m3⟩ := known_trodB _ _ _ h3
    have e : cs = RecordD.cells ⟨a0, a1, a2, a3⟩ := by
      have p0 := list_cut cs 0 1
      have p1 := list_cut cs 1 6
      have p2 := list_cut cs 7 14
      have p3 := list_cut cs 21 17
      rw [e0] at p0
      rw [e1] at p1
      rw [e2] at p2
      rw [e3, List.drop_eq_nil_of_le (show cs.length ≤ 21 + 17 by omega)] at p3
      rw [p3] at p2
      rw [p2] at p1
      rw [p1] at p0
      exact p0
    exact ⟨⟨a0, a1, a2, a3⟩, ⟨e, ⟨g1, g2, g3⟩⟩, by rw [hx]; simp only [List.map_cons, List.map_nil, Rows.uptoBulk, Rows.uptoBulkAll, recordM]; omega⟩
set_option maxRecDepth 100000 in
theorem openB_record {v : Value} {d : DataW H} {p : List MemPlace} (hv : Value.okWide Try.prog W .any 0 104 v) (h : DataW.Trod enc Try.prog W 0 (fun _ => true) true 104 v d p) : ∃ x, v = .agg (RecordD.cells x).toArray ∧ IsRecordDB W (RecordD.cells x) x ∧ recordM x ≤ Rows.uptoBulk d := by
  obtain ⟨fuel, hf⟩ := h
  obtain ⟨cs, rfl, hsz⟩ := okWide_struct Try.underlying104 hv
  obtain ⟨x, hx, hm⟩ := record_trodB _ _ _ hf
  have e : cs.toList = RecordD.cells x := by have := hx.1; simpa [Value.cells] using this
  exact ⟨x, by rw [← e], ⟨rfl, hx.2⟩, hm⟩
end
end Go.Proofs.Ytjmkcndjjfokiaa
