/- Of the texts VcQ, VcU. -/
import Derived.Test.YtjhaafbbdgjagaaGreatG15
import Derived.Recover
set_option linter.unusedSimpArgs false
set_option linter.unusedVariables false
namespace Go.Proofs.YtjhaafbbdgjagaaGreat.Vc
open Go Go.RowKit
section
variable {P : Program} {g tA tS : Nat} {fc : Func} {i0 i1 : Nat} {y0 y1 y2 y3 y4 y5 y6 y7 : Nat} {p0 p1 p2 p3 p4 p5 p6 p7 : String} {a0 a1 a2 a3 a4 a5 a6 a7 : Array Edge} {C : Code}
def catchCode (tA tS i0 i1 y0 y1 y2 y3 y4 y5 y6 y7 : Nat) (p0 p1 p2 p3 p4 p5 p6 p7 : String) (a0 a1 a2 a3 a4 a5 a6 a7 : Array Edge) (C : Code) : Code :=
 .seq (.region i0 #[⟨some 6, .call { callee := .builtin .recover, args := #[], argTypes := #[] }, y0, p0, a0, none⟩, ⟨some 7, .typeAssert (.tmp 6) tA tS true, y1, p1, a1, none⟩, ⟨some 5, .move (.tmp 7), y2, p2, a2, none⟩, ⟨some 8, .extract (.tmp 5) 0, y3, p3, a3, none⟩, ⟨some 9, .extract (.tmp 5) 1, y4, p4, a4, none⟩, ⟨some 2, .assign (.tmp 8), y5, p5, a5, none⟩, ⟨some 3, .assign (.tmp 9), y6, p6, a6, none⟩] false)
  (.seq (.region i1 #[⟨some 10, .move (.tmp 3), y7, p7, a7, none⟩] false) (.cond (.tmp 10) C .skip))
theorem opsS_step {Q : Exit → Act → List Frame → World → Prop} {ops : Array Oper} {i : Nat} {l : List Nat} {o : Oper} {a : Act} {cs : List Frame} {w w' : World} {v : Value} (ho : ops[i]? = some o) (hg : o.guard = none) (hr : (execOp a.eval o).run P w = .ok (.value v) w') (h : wpOpsS P ops Q l (a.put o.dst v) cs w') : wpOpsS P ops Q (i :: l) a cs w := by
 unfold wpOpsS; rw [ho]; have hw : Region.wanted o (yielded ops a.tmps) = true := by unfold Region.wanted; rw [hg]
 simp only [hw, if_true, hr]; exact h
theorem opsS_none {Q : Exit → Act → List Frame → World → Prop} {ops : Array Oper} {i : Nat} {l : List Nat} {o : Oper} {a : Act} {cs : List Frame} {w w' : World} (ho : ops[i]? = some o) (hg : o.guard = none) (hr : (execOp a.eval o).run P w = .ok .recover w') (hc : recoverD cs = none) (h : wpOpsS P ops Q l (a.put o.dst .nilIface) cs w') : wpOpsS P ops Q (i :: l) a cs w := by
 unfold wpOpsS; rw [ho]; have hw : Region.wanted o (yielded ops a.tmps) = true := by unfold Region.wanted; rw [hg]
 simp only [hw, if_true, hr, hc]; exact h
theorem opsS_some {Q : Exit → Act → List Frame → World → Prop} {ops : Array Oper} {i : Nat} {l : List Nat} {o : Oper} {a : Act} {cs cs' : List Frame} {w w' : World} {v : Value} (ho : ops[i]? = some o) (hg : o.guard = none) (hr : (execOp a.eval o).run P w = .ok .recover w') (hc : recoverD cs = some (v, cs')) (h : wpOpsS P ops Q l (a.put o.dst v) cs' w') : wpOpsS P ops Q (i :: l) a cs w := by
 unfold wpOpsS; rw [ho]; have hw : Region.wanted o (yielded ops a.tmps) = true := by unfold Region.wanted; rw [hg]
 simp only [hw, if_true, hr, hc]; exact h
theorem catch_tmps {fc : Func} (hn : fc.ntmps = 13) (x6 x7 : Value) : (#[x6, x7] ++ Array.replicate (fc.ntmps - (#[x6, x7] : Array Value).size) undef : Array Value) = #[x6, x7, undef, undef, undef, undef, undef, undef, undef, undef, undef, undef, undef] := by rw [hn]; rfl
theorem catch_ret (hfc : P.funcs[g]? = some fc) (hb : fc.body = some (catchCode tA tS i0 i1 y0 y1 y2 y3 y4 y5 y6 y7 p0 p1 p2 p3 p4 p5 p6 p7 a0 a1 a2 a3 a4 a5 a6 a7 C)) (hn : fc.ntmps = 13) (hr : fc.results = #[])
  (hu : P.underlying tS = some (.int .i64)) (hz : ∃ i, P.info? tS = some i ∧ i.zero = some (.int .i64 0)) (x6 x7 : Value) (w : World) :
  CallsD P g #[x6, x7] .returning w fun e u w' => e = .returned (.tuple #[]) ∧ u = .returning ∧ w' = w := by
 obtain ⟨iz, hiz, hz⟩ := hz; refine callsD_of_wpS hfc hb fun c₀ cs hm => ?_
 rw [catch_tmps hn]; unfold catchCode; have hrd : recoverD (c₀ :: cs) = none := by simp only [recoverD, hm]
 have e1 : (Instr.typeAssert .nilIface tA tS true).run P w = .ok (.tuple #[.int .i64 0, .bool false]) w := by
  unfold Instr.typeAssert; simp only [Sem.run_bind, run_und w hu, Result.andThen_ok]; unfold zeroValue; simp [Sem.run_bind, run_info hiz, hz]
 refine wpS_seq (wpS_region ?_); refine opsS_none (i := 0) (l := [1, 2, 3, 4, 5, 6]) rfl rfl rfl hrd ?_; refine opsS_step (v := .tuple #[.int .i64 0, .bool false]) (w' := w) rfl rfl (by show (do pure (.value (← Instr.typeAssert .nilIface tA tS true)) : Sem Next).run P w = _; exact run_v e1) ?_; refine opsS_step rfl rfl rfl ?_; refine opsS_step rfl rfl rfl ?_; refine opsS_step rfl rfl rfl ?_; refine opsS_step rfl rfl rfl ?_; refine opsS_step rfl rfl rfl ?_; refine wpS_seq (wpS_region ?_); refine opsS_step (i := 0) (l := []) rfl rfl rfl ?_; refine wpS_cond (t := false) (by simp [Act.eval, Act.put]) ?_; refine wpS_of_wp (wp_skip ?_); exact ⟨rfl, .returning, by rw [← hm], .tuple #[], results_none hr _ _ _, rfl, rfl, rfl⟩
theorem catch_pan (hfc : P.funcs[g]? = some fc) (hb : fc.body = some (catchCode tA tS i0 i1 y0 y1 y2 y3 y4 y5 y6 y7 p0 p1 p2 p3 p4 p5 p6 p7 a0 a1 a2 a3 a4 a5 a6 a7 C)) (hn : fc.ntmps = 13) (hr : fc.results = #[])
  (hu : P.underlying tS = some (.int .i64)) (x6 x7 : Value) (e : Int) (w : World) {R : World → Prop}
  (hC : C.wp P (fun ex a w' => ex = .normal ∧ a.defers = [] ∧ R w') { tmps := #[x6, x7, .int .i64 e, .bool true, undef, .tuple #[.int .i64 e, .bool true], .iface tS (.int .i64 e), .tuple #[.int .i64 e, .bool true], .int .i64 e, .bool true, .bool true, undef, undef], defers := [] } w) :
  CallsD P g #[x6, x7] (.panicking [{ v := .iface tS (.int .i64 e), recovered := false }]) w fun en u w' => en = .returned (.tuple #[]) ∧ u = .panicking [{ v := .iface tS (.int .i64 e), recovered := true }] ∧ R w' := by
 refine callsD_of_wpS hfc hb fun c₀ cs hm => ?_
 rw [catch_tmps hn]; unfold catchCode; have hrd : recoverD (c₀ :: cs) = some (.iface tS (.int .i64 e), { c₀ with mode := .panicking [{ v := .iface tS (.int .i64 e), recovered := true }] } :: cs) := by simp only [recoverD, hm]
 have e1 : (Instr.typeAssert (.iface tS (.int .i64 e)) tA tS true).run P w = .ok (.tuple #[.int .i64 e, .bool true]) w := by
  unfold Instr.typeAssert; simp [Sem.run_bind, run_und w hu, Result.andThen_ok]
 refine wpS_seq (wpS_region ?_); refine opsS_some (i := 0) (l := [1, 2, 3, 4, 5, 6]) rfl rfl rfl hrd ?_; refine opsS_step (v := .tuple #[.int .i64 e, .bool true]) (w' := w) rfl rfl (by show (do pure (.value (← Instr.typeAssert (.iface tS (.int .i64 e)) tA tS true)) : Sem Next).run P w = _; exact run_v e1) ?_; refine opsS_step rfl rfl rfl ?_; refine opsS_step rfl rfl rfl ?_; refine opsS_step rfl rfl rfl ?_; refine opsS_step rfl rfl rfl ?_; refine opsS_step rfl rfl rfl ?_; refine wpS_seq (wpS_region ?_); refine opsS_step (i := 0) (l := []) rfl rfl rfl ?_; refine wpS_cond (t := true) (by simp [Act.eval, Act.put]) ?_; have key : ∀ A : Act, A = { tmps := #[x6, x7, .int .i64 e, .bool true, undef, .tuple #[.int .i64 e, .bool true], .iface tS (.int .i64 e), .tuple #[.int .i64 e, .bool true], .int .i64 e, .bool true, .bool true, undef, undef], defers := [] } → C.wp P (fun ex a w' => ex = .normal ∧ a.defers = [] ∧ R w') A w := fun A h => h ▸ hC
 refine wpS_of_wp (wp_mono (key _ (by simp [Act.put, Act.eval])) fun ex a w' ⟨h1, h2, h3⟩ => ?_); subst h1; exact ⟨h2, _, rfl, .tuple #[], results_none hr _ _ _, rfl, rfl, h3⟩
end
deriving instance DecidableEq for St
def pinSt (E : St) (S : St) : VC := if S = E then .top else .no 0
theorem pinSt_den {E S : St} {σ : Sm} {ρ : Nat → U} (h : (pinSt E S).den σ ρ) : S = E := by
 unfold pinSt at h; split at h
 ·assumption
 ·exact h.elim
def catchS (T tE n : Nat) : St := { nt := 13, fr := [(0, .s (.one (.own 0 0))), (1, .s (.one (.own 1 0))), (2, .s (.one (.int .i64 (.var 0))))], blk := [(0, T, (List.range n).map fun j => .val (.var (j + 1))), (1, tE, [.val (.var (n + 1))])], row := [], nv := n + 2, facts := [] }
def catchK (T tE : Nat) (zs : List C1) (e : Ex) (S : St) : VC := if e = .normal ∧ S.block 0 = some (T, zs) ∧ S.block 1 = some (tE, [.int .i64 (.var 0)]) then .top else .no 0
theorem catch_code {P : Program} {C : Code} {T tE n : Nat} {zs : List C1} {zv : List Value} (hm : P.follows .mixedOrders = true) (hv : exec P { mine := [(0, T), (1, tE)] } C (catchS T tE n) (catchK T tE zs) = .top) (hz : ∀ β ρ, zs.map (C1.den β ρ) = zv)
  {b6 b7 : Nat} {c6 c7 : Array Value} {w : World} {e : Int} {y10 y11 y12 y5 y6 y7 : Value} (hb : b6 ≠ b7) (h6 : w.heap[b6]? = some (.cells c6 T (0, 0))) (h7 : w.heap[b7]? = some (.cells c7 tE (0, 0))) (n6 : c6.size = n) (n7 : c7.size = 1) {t4 t8 t9 : Value} :
  C.wp P (fun ex a w' => ex = .normal ∧ a.defers = [] ∧ (w'.heap[b6]? = some (.cells zv.toArray T (0, 0)) ∧ w'.heap[b7]? = some (.cells #[.int .i64 e] tE (0, 0)) ∧ Kept (fun k => k = b6 ∨ k = b7) w.heap.size w w')) { tmps := #[.pointer (some ⟨b6, 0, none⟩), .pointer (some ⟨b7, 0, none⟩), .int .i64 e, y10, t4, y5, y6, y7, t8, t9, y10, y11, y12], defers := [] } w := by
 let σ : Sm := { base := w.heap.size, lnames := [(0, b6), (1, b7)], pre0 := fun _ => True, post0 := fun _ => True, fact0 := fun _ _ => True, pre := fun _ _ _ => False, post := fun _ _ _ => True, fact := fun _ _ _ _ => True, inv := fun _ _ => False, invF := fun _ _ _ => True, mea := fun _ _ => 0 }
 have hlent : ∀ k, σ.lent k → k = b6 ∨ k = b7 := by
  rintro k ⟨m, hk⟩; have hk := lookup_mem hk; simp only [σ, List.mem_cons, Prod.mk.injEq, List.not_mem_nil, or_false] at hk
  rcases hk with ⟨_, h⟩ | ⟨_, h⟩
  ·exact .inl h
  ·exact .inr h
 have c : Ctx P { mine := [(0, T), (1, tE)] } σ w := ⟨(fun f gh h => by cases h), rfl, fun _ _ => trivial, (fun m h => by
  show ([(0, b6), (1, b7)] : List (Nat × Nat)).lookup m = none; have h : ([0, 1] : List Nat).contains m = false := h; simp only [List.contains_cons, List.contains_nil, Bool.or_false, Bool.or_eq_false_iff] at h; simp [List.lookup, h.1, h.2]), hm, (fun q h => by cases h), newsOk_nil⟩
 let ρ : Nat → U := fun k => if k = 0 then .i e else if k ≤ n then .v (c6.toList.getD (k - 1) undef) else .v (c7.toList.getD 0 undef)
 let β : Beta := { blk := fun m => if m = 0 then b6 else b7, row := fun _ => (none, 0), junk := fun _ => undef }
 have e6 : ((List.range n).map fun j => C1.val (.var (j + 1))).map (C1.den β ρ) = c6.toList := by
  apply List.ext_getElem
  ·simp [n6]
  ·intro j h1 h2; have hj : j < n := by simpa using h1
   simp only [List.getElem_map, List.getElem_range]; show (ρ (j + 1)).V = _; have h2' : j < c6.size := by omega
   simp [ρ, Nat.succ_le_of_lt hj, U.V, h2']
 have e7 : [C1.val (.var (n + 1))].map (C1.den β ρ) = c7.toList := by
  apply List.ext_getElem
  ·simp [n7]
  ·intro j h1 h2; have hj : j = 0 := by simpa using h1
   subst hj; have h2' : 0 < c7.size := by omega
   show (ρ (n + 1)).V = _; simp [ρ, U.V, h2', show ¬ n + 1 ≤ n by omega]
 have d : Den σ (catchS T tE n) β ρ w { tmps := #[.pointer (some ⟨b6, 0, none⟩), .pointer (some ⟨b7, 0, none⟩), .int .i64 e, y10, t4, y5, y6, y7, t8, t9, y10, y11, y12], defers := [] } w := by
  refine ⟨rfl, rfl, ?_, ?_, (fun r hr => by cases hr), ?_, List.nodup_nil, (fun e he => by cases he), (fun F hF => by cases hF), (fun q hq => by cases hq), Kept.refl _ _ _⟩
  ·intro t v ht; have ht := lookup_mem ht; simp only [catchS, List.mem_cons, Prod.mk.injEq, List.not_mem_nil, or_false] at ht
   rcases ht with ⟨rfl, rfl⟩ | ⟨rfl, rfl⟩ | ⟨rfl, rfl⟩ <;> rfl
  ·intro q hq; simp only [catchS, List.mem_cons, List.not_mem_nil, or_false] at hq
   rcases hq with rfl | rfl
   ·refine ⟨?_, rfl⟩; show w.heap[b6]? = some (.cells (((List.range n).map fun j => C1.val (.var (j + 1))).map (C1.den β ρ)).toArray T (0, 0)); rw [e6]; exact h6
   ·refine ⟨?_, rfl⟩; show w.heap[b7]? = some (.cells ([C1.val (.var (n + 1))].map (C1.den β ρ)).toArray tE (0, 0)); rw [e7]; exact h7
  ·show [b6, b7].Nodup; simp [hb]
 refine exec_den c C _ (fun ch a w' h => h.elim) (catchS T tE n) (catchK T tE zs) β ρ _ w d (by rw [hv]; trivial) ?_; intro ex S' β' ρ' a' w' hk d' hal _; unfold catchK at hk; split at hk
 ·next hc =>
  obtain ⟨rfl, hb0, hb1⟩ := hc; have q0 := d'.bk _ (lookup_mem hb0); have q1 := d'.bk _ (lookup_mem hb1); have g0 : β'.blk 0 = b6 := q0.2; have g1 : β'.blk 1 = b7 := q1.2; have q0 := q0.1; have q1 := q1.1; simp only [g0, g1, hz] at q0 q1; have hv0 : ρ' 0 = .i e := hal 0 (by show 0 < n + 2; omega); refine ⟨rfl, d'.df, q0, ?_, d'.bl.mono (Nat.le_refl _) fun k _ h => hlent k h⟩; simp only [List.map_cons, List.map_nil, C1.den, X.den, hv0] at q1; exact q1
 ·exact hk.elim
def readS (fn : Func) (pin : List Sh) (T tE : Nat) (zs : List C1) : St :=
 { nt := max fn.params.size fn.ntmps, fr := (7, .s (.one (.own 7 0))) :: (6, .s (.one (.own 6 0))) :: ((shsFresh 0 pin).zipIdx.map fun p => (p.2, SV.s p.1)), blk := [(7, tE, [.int .i64 (.int 0)]), (6, T, zs)], row := [], nv := lfsAr (shsLfs pin), facts := [.pre] }
def readK (P : Program) (fn : Func) (pout : List Sh) (e : Ex) (S : St) : VC := match e with | .normal | .ret => final P [6, 7] fn pout [] [] [] S | _ => .no 81
def panS (T tE nt : Nat) (zs : List C1) : St := { nt := nt, fr := [(6, .s (.one (.own 6 0))), (7, .s (.one (.own 7 0)))], blk := [(6, T, zs), (7, tE, [.int .i64 (.var 0)])], row := [], nv := 1, facts := [.pre] }
def readC (s : Ctr) (tS : Nat) (zx : List X) : Ctr := { s with pan := fun us ch => ∃ e : Int, ch = [{ v := .iface tS (.int .i64 e), recovered := false }] ∧ s.post us (dens (fun _ => .i e) zx) ∧ ∀ u, s.pre us u → s.fact us (dens (fun _ => .i e) zx) u }
theorem opsW_step {P : Program} {Q : Exit → Act → World → Prop} {ops : Array Oper} {i : Nat} {l : List Nat} {o : Oper} {a : Act} {w w' : World} {v : Value} (ho : ops[i]? = some o) (hg : o.guard = none) (hr : (execOp a.eval o).run P w = .ok (.value v) w') (h : wpOps P ops Q l (a.put o.dst v) w') : wpOps P ops Q (i :: l) a w := by
 unfold wpOps; rw [ho]; have hw : Region.wanted o (yielded ops a.tmps) = true := by unfold Region.wanted; rw [hg]
 simp only [hw, if_true]; left; unfold Oper.wp; rw [hr]; exact h
theorem opsW_defer {P : Program} {Q : Exit → Act → World → Prop} {ops : Array Oper} {i : Nat} {l : List Nat} {o : Oper} {a : Act} {w w' : World} {dd : Deferred} (ho : ops[i]? = some o) (hg : o.guard = none) (hr : (execOp a.eval o).run P w = .ok (.defer dd) w') (h : wpOps P ops Q l ({ a with defers := dd :: a.defers }.put o.dst undef) w') : wpOps P ops Q (i :: l) a w := by
 unfold wpOps; rw [ho]; have hw : Region.wanted o (yielded ops a.tmps) = true := by unfold Region.wanted; rw [hg]
 simp only [hw, if_true]; left; unfold Oper.wp; rw [hr]; exact h
theorem invoke_clo {P : Program} {g : Nat} {fc : Func} (hfc : P.funcs[g]? = some fc) (hbody : fc.body.isSome = true) (hname : (fc.name == "runtime.NumGoroutine") = false) (cap : Array Value) (w : World) : (invoke (.fn (.func g) cap) #[]).run P w = .ok (.enter g cap) w := by
 unfold invoke callFunc program; have hb : fc.body.isNone = false := by cases h : fc.body <;> simp_all
 simp only [Sem.run_bind, Sem.run, Result.andThen_ok, hfc, hb, hname]; simp
theorem kept_low {L : Nat → Prop} {B : Nat} {w w' u : World} (h : Below B w w') (k : Kept L w'.heap.size w' u) (hL : ∀ b, L b → B ≤ b) (hB : B ≤ w.heap.size) : Below B w u :=
 ⟨k.os.trans h.os, k.tape.trans h.tape, k.output.trans h.output, Nat.le_trans h.size k.size, fun b hb => (k.block b (Nat.lt_of_lt_of_le hb (Nat.le_trans hB h.size)) fun hl => by have := hL b hl; omega).trans (h.block b hb)⟩
section
variable {P : Program} {f g T tE tS tA n : Nat} {fn fc : Func} {pin pout : List Sh} {rest C : Code} {zs : List C1} {zv : List Value} {zx : List X} {v : VC}
variable {r0 r1 z0 z1 z2 z3 : Nat} {q0 q1 q2 q3 : String} {b0 b1 b2 b3 : Array Edge}
variable {i0 i1 y0 y1 y2 y3 y4 y5 y6 y7 : Nat} {p0 p1 p2 p3 p4 p5 p6 p7 : String} {a0 a1 a2 a3 a4 a5 a6 a7 : Array Edge}
set_option maxHeartbeats 1000000 in
theorem keeps_read (hfn : P.funcs[f]? = some fn) (hb : fn.body = some (.seq (.region r0 #[⟨some 6, .alloc T, z0, q0, b0, none⟩, ⟨some 7, .alloc tE, z1, q1, b1, none⟩] false) (.seq (.region r1 #[⟨some 11, .makeFunc (.func g) #[] #[.tmp 6, .tmp 7], z2, q2, b2, none⟩, ⟨none, .defer { callee := .value (.tmp 11), args := #[], argTypes := #[] }, z3, q3, b3, none⟩] false) rest)))
  (hfc : P.funcs[g]? = some fc) (hbc : fc.body = some (catchCode tA tS i0 i1 y0 y1 y2 y3 y4 y5 y6 y7 p0 p1 p2 p3 p4 p5 p6 p7 a0 a1 a2 a3 a4 a5 a6 a7 C)) (hnc : fc.ntmps = 13) (hrc : fc.results = #[]) (hname : (fc.name == "runtime.NumGoroutine") = false)
  (hu : P.underlying tS = some (.int .i64)) (hzS : ∃ i, P.info? tS = some i ∧ i.zero = some (.int .i64 0)) (hm : P.follows .mixedOrders = true)
  (hvc : exec P { mine := [(0, T), (1, tE)] } C (catchS T tE n) (catchK T tE zs) = .top) (hz : ∀ β ρ, zs.map (C1.den β ρ) = zv) (hzn : zs.length = n)
  (hpin : shsOf P fn.params = some pin) (hpout : shsOf P fn.resultTypes = some pout) (hlen : pin.length = fn.params.size) (hlt : fn.params.size ≤ 6) (hnt12 : 12 ≤ fn.ntmps)
  (hrun : runOps P {} #[⟨some 6, .alloc T, z0, q0, b0, none⟩, ⟨some 7, .alloc tE, z1, q1, b1, none⟩] [0, 1] (start fn pin 0 [] 0 []) (pinSt (readS fn pin T tE zs)) = .top)
  (hE : (readS fn pin T tE zs).ok = true) (h11 : (readS fn pin T tE zs).fr.all (fun p => p.1 != 11) = true) (hfin : ∀ nt, final P [6, 7] fn pout [] [] [] (panS T tE nt zs) = .ret zx [.pre])
  (Γ : Cfg) (hmine : Γ.mine = [(6, T), (7, tE)]) (hkb : Γ.keepB = [(6, T, n), (7, tE, 1)]) (hv : exec P Γ rest (readS fn pin T tE zs) (readK P fn pout) = v)
  (s : Ctr) (hgh : s.gh = 0) (specs : List (Nat × Ctr)) (hs : KeepAll P Γ.lents Γ.lrows Γ.pans specs) (hΓ : Γ.con = conOf specs) (mono : ∀ us w w', s.pre us w → Below w.heap.size w w' → s.pre us w')
  (vc : AllU (fun us => ∀ w, s.pre us w → ∃ invs, ∀ base, v.denO std ⟨ctrOf specs, readC s tS zx, invOf invs, us, base⟩ (rhoOf us (lfsSrts (shsLfs pin)))) (lfsSrts (shsLfs pin)) []) (hmr : Γ.mrows = [] := by rfl) (hnew : NewsOk P Γ.news := by exact newsOk_nil) : Keeps P f s := by
 intro fn' pin' pout' h1 h2 h3 us w ht hp; rw [hfn] at h1; injection h1 with h1; subst h1
 rw [hpin] at h2; injection h2 with h2; subst h2
 rw [hpout] at h3; injection h3 with h3; subst h3
 rw [hgh, List.replicate_zero, List.append_nil] at ht; obtain ⟨invs, hvc1⟩ := AllU.get vc ht w hp
 let σ0 : Sm := smOf [] { s with pan := fun _ _ => False } [] us w.heap.size []
 have hl0 : ∀ k, ¬ σ0.lent k := by rintro k ⟨m, hk⟩; cases hk
 have c0 : Ctx P {} σ0 w := ⟨(fun f gh h => by cases h), rfl, (fun u hu => mono us w u hp (hu.below hl0)), (fun m h => rfl), hm, (fun q h => by cases h), newsOk_nil⟩
 have d0 := (start_den (σ := σ0) (w0 := w) (fn := fn) (pin := pin) (us := us) (own := 0) (M := []) (nr := 0) (lls := []) (bs := []) (gs := []) rfl hlen rfl c0.pre List.nodup_nil (fun i p b h => by simp at h) trivial).2; rw [show lfsSrts (shsLfs pin) ++ (List.replicate 0 Srt.l ++ (lfsSrts (List.flatten ([] : List (List Lf))) ++ [])) = lfsSrts (shsLfs pin) from List.append_nil _] at d0; refine calls_of_wp_defers hfn hb ?_; refine wp_seq (wp_region ?_); refine runOps_den (Γ := {}) c0 (fun ch a w' h => h.elim) [0, 1] _ _ _ _ w d0 (by rw [hrun]; trivial) ?_; intro S' β' ρ' a' w' hk d' hal _; obtain rfl := pinSt_den hk; clear hk; have d' := d'.alike (ρ' := rhoOf us (lfsSrts (shsLfs pin))) (n := (readS fn pin T tE zs).nv) (fun k hk => (hal k hk).symm) hE; have m6 := d'.bk (6, T, zs) (List.mem_cons_of_mem _ (List.mem_cons_self ..)); have m7 := d'.bk (7, tE, [.int .i64 (.int 0)]) (List.mem_cons_self ..); have g6 : w.heap.size ≤ β'.blk 6 := m6.2; have g7 : w.heap.size ≤ β'.blk 7 := m7.2; have e6 : a'.tmps[6]? = some (.pointer (some ⟨β'.blk 6, 0, none⟩)) := d'.fr 6 (.s (.one (.own 6 0))) rfl; have e7 : a'.tmps[7]? = some (.pointer (some ⟨β'.blk 7, 0, none⟩)) := d'.fr 7 (.s (.one (.own 7 0))) rfl; have hne : β'.blk 6 ≠ β'.blk 7 := by
  have := d'.nd; have : [β'.blk 7, β'.blk 6].Nodup := this; simp at this; exact fun e => this e.symm
 have hbel : Below w.heap.size w w' := d'.bl.below hl0; generalize hB6 : β'.blk 6 = B6 at *; generalize hB7 : β'.blk 7 = B7 at *
 let cap : Array Value := #[.pointer (some ⟨B6, 0, none⟩), .pointer (some ⟨B7, 0, none⟩)]
 let dd : Deferred := { target := .fn (.func g) cap, args := #[] }
 have ev6 : a'.eval (.tmp 6) = .pointer (some ⟨B6, 0, none⟩) := by show a'.tmps.getD 6 undef = _; rw [Array.getD_eq_getD_getElem?, e6]; rfl
 have ev7 : a'.eval (.tmp 7) = .pointer (some ⟨B7, 0, none⟩) := by show a'.tmps.getD 7 undef = _; rw [Array.getD_eq_getD_getElem?, e7]; rfl
 have hbody : fc.body.isSome = true := by rw [hbc]; rfl
 refine wp_seq (wp_region ?_); refine opsW_step (i := 0) (l := [1]) (v := .func (.func g) #[] cap) (w' := w') rfl rfl ?_ ?_
 ·show (do pure (.value (← Instr.makeFunc (.func g) ((#[] : Array Operand).map a'.eval) ((#[.tmp 6, .tmp 7] : Array Operand).map a'.eval))) : Sem Next).run P w' = _; simp [Instr.makeFunc, ev6, ev7, cap]
 have hdf : a'.defers = [] := d'.df; have hnt : a'.tmps.size = max fn.params.size fn.ntmps := d'.nt; refine opsW_defer (i := 1) (l := []) (dd := dd) (w' := w') rfl rfl ?_ ?_
 ·have h11' : (a'.put (some 11) (.func (.func g) #[] cap)).eval (.tmp 11) = .func (.func g) #[] cap ∨ ¬ 11 < a'.tmps.size := by
   by_cases hs : 11 < a'.tmps.size
   ·left; show (a'.tmps.setIfInBounds 11 _).getD 11 undef = _; simp [Array.getD_eq_getD_getElem?, hs]
   ·exact .inr hs
  rcases h11' with h | h
  ·show (do pure (.defer (← resolve (a'.put (some 11) (.func (.func g) #[] cap)).eval { callee := .value (.tmp 11), args := #[], argTypes := #[] } z3)) : Sem Next).run P w' = _; unfold resolve; simp [h, Deferred.ofValue, dd]
  ·exact absurd (by rw [hnt]; omega) h
 let a2 : Act := { tmps := a'.tmps.setIfInBounds 11 (.func (.func g) #[] cap), defers := [dd] }
 have ha2 : ({ (a'.put (some 11) (.func (.func g) #[] cap)) with defers := dd :: (a'.put (some 11) (.func (.func g) #[] cap)).defers } : Act) = a2 := by
  show ({ tmps := _, defers := dd :: a'.defers } : Act) = _; rw [hdf]; rfl
 show (rest.wp P (bodyPostD P fn _)) ({ (a'.put (some 11) (.func (.func g) #[] cap)) with defers := dd :: (a'.put (some 11) (.func (.func g) #[] cap)).defers } : Act) w'; rw [ha2]
 let E : Env := ⟨ctrOf specs, readC s tS zx, invOf invs, us, w'.heap.size⟩
 let σ1 : Sm := E.sm [(6, B6), (7, B7)] [dd]
 have hl1 : ∀ k, σ1.lent k → k = B6 ∨ k = B7 := by
  rintro k ⟨m, hk⟩; have hk := lookup_mem hk; simp only [σ1, E, Env.sm, List.mem_cons, Prod.mk.injEq, List.not_mem_nil, or_false] at hk
  rcases hk with ⟨_, h⟩ | ⟨_, h⟩
  ·exact .inl h
  ·exact .inr h
 have low : ∀ {u : World}, Kept σ1.lent w'.heap.size w' u → Below w.heap.size w u := fun hk => kept_low hbel hk (fun b hb => by rcases hl1 b hb with rfl | rfl <;> assumption) (Nat.le_refl _)
 have c1 : Ctx P Γ σ1 w' := ⟨fun f gh hg => by
  rw [hΓ] at hg; obtain ⟨k1, k2⟩ := hs.get f gh hg; unfold CallOk; rw [← k2]; exact k1, rfl, (fun u hu => mono us w u hp (low hu)), (fun m h => by
  have h : (Γ.mine.map (·.1) ++ Γ.mrows.map fun q => cname q.1 q.2.1).contains m = false := h; rw [hmine, hmr] at h; show ([(6, B6), (7, B7)] : List (Nat × Nat)).lookup m = none; simp only [List.map_cons, List.map_nil, List.append_nil, List.contains_cons, List.contains_nil, Bool.or_false, Bool.or_eq_false_iff] at h; simp [List.lookup, h.1, h.2]), hm, (fun q h => by
  rw [hkb] at h; simp only [List.mem_cons, List.not_mem_nil, or_false] at h
  rcases h with rfl | rfl
  ·exact ⟨B6, rfl⟩
  ·exact ⟨B7, rfl⟩), hnew⟩
 have d1 : Den σ1 (readS fn pin T tE zs) β' (rhoOf us (lfsSrts (shsLfs pin))) w' a2 w' := by
  refine ⟨rfl, by show (a'.tmps.setIfInBounds 11 _).size = _; rw [Array.size_setIfInBounds]; exact d'.nt, ?_, ?_, (fun r hr => by cases hr), d'.nd, List.nodup_nil, (fun e he => by cases he), ?_, (fun q hq => by cases hq), Kept.refl _ _ _⟩
  ·intro t v ht; have hne : t ≠ 11 := by
    have := List.all_eq_true.1 h11 _ (lookup_mem ht); simpa using this
   show (a'.tmps.setIfInBounds 11 _)[t]? = _; rw [Array.getElem?_setIfInBounds_ne (Ne.symm hne)]; exact d'.fr t v ht
  ·intro q hq; have hb := (d'.bk q hq).1; simp only [readS, List.mem_cons, List.not_mem_nil, or_false] at hq
   rcases hq with rfl | rfl
   ·exact ⟨hb, hB7⟩
   ·exact ⟨hb, hB6⟩
  ·intro F hF u hu _; simp only [readS, List.mem_cons, List.not_mem_nil, or_false] at hF; subst hF; exact hu
 have hvden : (exec P Γ rest (readS fn pin T tE zs) (readK P fn pout)).den σ1 (rhoOf us (lfsSrts (shsLfs pin))) := by
  rw [hv]; have := hvc1 w'.heap.size; rw [VC.denO_std _ [(6, B6), (7, B7)] [dd]] at this; exact this
 refine exec_den c1 rest _ ?_ _ _ β' _ a2 w' d1 hvden ?_
 ·intro ch a3 w3 hpan hdf3 hk3 hkeep; obtain ⟨e, rfl, hpost, hfact⟩ := hpan; rw [KeepB, hkb] at hkeep; obtain ⟨x6, c6, l6, t6, h6, n6⟩ := hkeep (6, T, n) (List.mem_cons_self ..); obtain ⟨x7, c7, l7, t7, h7, n7⟩ := hkeep (7, tE, 1) (List.mem_cons_of_mem _ (List.mem_cons_self ..)); have l6 : some B6 = some x6 := l6; have l7 : some B7 = some x7 := l7; injection l6 with l6
  injection l7 with l7
  subst l6; subst l7; show Leaves P fn a3.tmps _ a3.defers (.panicking _) w3; rw [hdf3]; show Leaves P fn a3.tmps _ [dd] (.panicking _) w3; refine leaves_cons (by simp) (invoke_clo hfc hbody hname cap w3) ?_; refine (catch_pan hfc hbc hnc hrc hu _ _ e w3 (catch_code hm hvc hz hne h6 h7 n6 n7)).mono ?_; rintro en u' w4 ⟨rfl, rfl, g6', g7', k4⟩; have kk : Kept σ1.lent w'.heap.size w' w4 := hk3.trans (k4.mono hk3.size fun k _ h => by
   rcases h with rfl | rfl
   ·exact ⟨6, rfl⟩
   ·exact ⟨7, rfl⟩)
  show Leaves P fn a3.tmps _ [] .returning w4
  let βe : Beta := { blk := fun m => if m = 6 then B6 else B7, row := fun _ => (none, 0), junk := fun _ => undef }
  have de : Den σ1 (panS T tE a3.tmps.size zs) βe (fun _ => .i e) w' { tmps := a3.tmps, defers := [dd] } w4 := by
   refine ⟨rfl, rfl, ?_, ?_, (fun r hr => by cases hr), ?_, List.nodup_nil, (fun e he => by cases he), ?_, (fun q hq => by cases hq), kk⟩
   ·intro t v ht; have ht := lookup_mem ht; simp only [panS, List.mem_cons, Prod.mk.injEq, List.not_mem_nil, or_false] at ht
    rcases ht with ⟨rfl, rfl⟩ | ⟨rfl, rfl⟩
    ·exact t6
    ·exact t7
   ·intro q hq; simp only [panS, List.mem_cons, List.not_mem_nil, or_false] at hq
    rcases hq with rfl | rfl
    ·refine ⟨?_, rfl⟩; show w4.heap[B6]? = some (.cells (zs.map (C1.den βe fun _ => .i e)).toArray T (0, 0)); rw [hz]; exact g6'
    ·refine ⟨?_, rfl⟩; exact g7'
   ·show [B6, B7].Nodup; simp [hne]
   ·intro F hF u hu _; simp only [panS, List.mem_cons, List.not_mem_nil, or_false] at hF; subst hF; exact hu
  obtain ⟨os, Bs, o1, o2, o3, _, oR, _, _, o4, o5⟩ := final_den c1 (M := []) (R := []) (lls := []) (bs := []) (As := []) (vals := []) (us0 := []) (k0 := 0) (k1 := 0) List.nodup_nil List.nodup_nil trivial (fun i q A h => by simp at h) (N := [6, 7]) (fun m hm => by show ([(6, B6), (7, B7)] : List (Nat × Nat)).lookup m = none; simp only [List.contains_cons, List.contains_nil, Bool.or_false, Bool.or_eq_false_iff] at hm; simp [List.lookup, hm.1, hm.2]) (fun q hq => by cases hq) trivial (fun i p b h => by simp at h) de (by
   rw [hfin]; exact ⟨hpost, fun u hu => hfact u hu⟩)
  refine ⟨_, o2, os, by rw [o1]; exact List.append_nil _, rfl, o3, fun u hu hpu => o4 u hpu fun b hb1 hb2 _ => hu b (Nat.le_trans hbel.size hb1) hb2, low kk⟩
 ·intro ex S2 β2 ρ2 a3 w3 hk d3 _ _; have fin : (final P [6, 7] fn pout [] [] [] S2).den σ1 ρ2 → Leaves P fn a3.tmps (fun e w' => ∃ os : List U, os.map U.srt = lfsSrts (shsLfs pout) ∧ e = .returned (resV os pout) ∧ s.post us os ∧ (∀ u : World, (∀ b, w.heap.size ≤ b → b < w'.heap.size → u.heap[b]? = w'.heap[b]?) → s.pre us u → s.fact us os u) ∧ Below w.heap.size w w') a3.defers .returning w3 := by
   intro hk; obtain ⟨os, Bs, o1, o2, o3, _, oR, _, _, o4, o5⟩ := final_den c1 (M := []) (R := []) (lls := []) (bs := []) (As := []) (vals := []) (us0 := []) (k0 := 0) (k1 := 0) List.nodup_nil List.nodup_nil trivial (fun i q A h => by simp at h) (N := [6, 7]) (fun m hm => by show ([(6, B6), (7, B7)] : List (Nat × Nat)).lookup m = none; simp only [List.contains_cons, List.contains_nil, Bool.or_false, Bool.or_eq_false_iff] at hm; simp [List.lookup, hm.1, hm.2]) (fun q hq => by cases hq) trivial (fun i p b h => by simp at h) d3 hk; rw [d3.df]; show Leaves P fn a3.tmps _ [dd] .returning w3; refine leaves_cons (by simp) (invoke_clo hfc hbody hname cap w3) ?_; refine (catch_ret hfc hbc hnc hrc hu hzS _ _ w3).mono ?_; rintro en u' w4 ⟨rfl, rfl, rfl⟩; exact ⟨_, o2, os, by rw [o1]; exact List.append_nil _, rfl, o3, fun u hu hpu => o4 u hpu fun b hb1 hb2 _ => hu b (Nat.le_trans hbel.size hb1) hb2, low o5⟩
  cases ex with
  | normal => exact fin hk
  | ret => exact fin hk
  | exit id => exact hk.elim
end
end Go.Proofs.YtjhaafbbdgjagaaGreat.Vc
