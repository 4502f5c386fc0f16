/- Of the texts VcT, VcH, VcI, VcJ, VcK, VcL. -/
import Derived.Test.YtlfonmpgenoooaaG12
import Derived.Lib.ConvBytes
set_option linter.unusedSimpArgs false
set_option linter.unusedVariables false
namespace Go.Proofs.Ytlfonmpgenoooaa.Vc
open Go Go.RowKit
section
variable {P : Program} {Γ : Cfg} {σ : Sm} {S : St} {k : St → VC} {β : Beta} {ρ : Nat → U} {a : Act} {w w0 : World} {dst : Option Nat} {type : Nat} {pos : String} {after : Array Edge} {guard : Option (Nat × Bool)} {K : Act → World → Prop} {Q : Exit → Act → World → Prop} {o : Oper}
theorem Den.world (d : Den σ S β ρ w0 a w) {w' : World} (hsz : w.heap.size ≤ w'.heap.size) (hold : ∀ k, k < w.heap.size → w'.heap[k]? = w.heap[k]?) (hb : Kept σ.lent σ.base w0 w') : Den σ S β ρ w0 a w' := by
 refine ⟨d.df, d.nt, d.fr, fun q hq => ?_, fun r hr => ?_, d.nd, d.rn, d.ex, ?_, d.kn, hb⟩
 ·have := d.bk q hq; rw [hold _ (lt_of_some this.1)]; exact this
 ·refine owns_same (d.rw r hr) fun g hg => ?_
  obtain ⟨p, hp, rfl⟩ := ownBlock_slice hg; exact hold _ (d.foot_lt _ (List.mem_append_right _ (List.mem_filterMap.2 ⟨r, hr, by rw [hp]; rfl⟩))).1
 ·exact fx_step d.fx hsz (fun b _ hb _ => hold b hb) fun b _ hm => hm
theorem freeze_same (w : World) (x : Addr) (n : Nat) : (w.freeze x n).os = w.os ∧ (w.freeze x n).tape = w.tape ∧ (w.freeze x n).output = w.output := by
 unfold World.freeze; split <;> exact ⟨rfl, rfl, rfl⟩
theorem bytes_kept {L : Nat → Prop} {B : Nat} {e : Nat} {s : ByteArray} (h : Kept L B w0 w) (hB : B ≤ w.heap.size) : Kept L B w0 (Lib.bytesWorld w e s) := by
 have h1 := (h.drew.alloc (by exact hB) (.cells (Lib.bytesCells w e s) e))
 obtain ⟨f1, f2, f3⟩ := freeze_same (w.drew.alloc (.cells (Lib.bytesCells w e s) e)) ⟨w.heap.size, (Lib.bytesCells w e s).size, none⟩ 1; refine ⟨f1.trans h1.os, f2.trans h1.tape, f3.trans h1.output, ?_, fun j hj hn => ?_⟩
 ·rw [Lib.bytesWorld_size]; exact Nat.le_trans h.size (Nat.le_succ _)
 ·rw [Lib.bytesWorld_at_old w e s j (by omega)]; exact h.block j hj hn
theorem a_assign {x : Operand} (d : Den σ S β ρ w0 a w) (hact : isAct P Γ ⟨dst, .assign x, type, pos, after, guard⟩ S = true) (h : (act P Γ ⟨dst, .assign x, type, pos, after, guard⟩ S k).den σ ρ) (hb : σ.base ≤ w.heap.size) (hK : ∀ a' w', AOut σ S k β ρ w0 (touch ⟨dst, .assign x, type, pos, after, guard⟩ S) a' w' → K a' w') : Oper.wp P ⟨dst, .assign x, type, pos, after, guard⟩ a w K Q := by
 unfold act at h; split at h
 all_goals first | (next e => simp only [reduceCtorEq] at e) | skip
 ·next e =>
  simp only [Op.assign.injEq] at e; subst e; split at h
  ·next dd e hd he =>
   split at h
   ·next i S1 hi hS1 =>
    split at h
    ·exact h.elim
    ·next hz =>
     have hd : dst = some dd := hd; subst hd; refine wp_value (v := .slice none 0 0) (w' := w) rfl (hK _ _ ?_); obtain ⟨β', hn, hm, hd'⟩ := d.addRow (r := ⟨dd, e, i.size, i.bytes, .nat 0, .lnil⟩) (A := none) (c := 0) (w' := w) hS1 (World.ownsRow_nil _ _ _ _) (Nat.le_refl _) (fun _ _ => rfl) (fun _ h => by cases h) d.bl; refine ⟨_, β', ρ, h, ?_, Alike.refl _ _, hn.wide (fun _ h => h.elim) (fun m h => ?_), by rw [put_nv]; exact Nat.le_of_eq (dropRow_nv hS1).symm⟩
     ·have := hd'.put (some dd) (.s (.one (.row dd (.nat 0)))); have e : (SV.s (.one (.row dd (.nat 0)))).den β' ρ = .slice none 0 0 := by
       show Value.slice (β'.row dd).1 0 (β'.row dd).2 = _; have hm : β'.row dd = (none, 0) := hm; rw [hm]
      rw [e] at this; exact this
     ·have h : m = dd := h; subst h; simp [touch]
   ·exact h.elim
  ·exact h.elim
 ·next e =>
  simp only [Op.assign.injEq] at e; subst e; split at h
  ·next m n hx =>
   obtain ⟨S1, ρ1, h, d1, a1, n1, f1, _⟩ := expose_den _ S ρ _ d h; split at h
   ·next e he =>
    have hv : a.eval x = (SV.s (.one (.row m n))).den β ρ := opd_den d.fr hx; have hx1 : S1.opd x = some (.s (.one (.row m n))) := by
     cases x <;> simp only [St.opd, St.get, f1] at hx ⊢ <;> exact hx
    have hv1 : a.eval x = (SV.s (.one (.row m n))).den β ρ1 := opd_den d1.fr hx1; have he1 := d1.ex _ (lookup_mem he); refine wp_value (v := a.eval x) (w' := w) rfl (hK _ _ ⟨_, β, ρ1, h, ?_, a1, Near.refl _ _ _, by rw [put_nv]; exact n1⟩); have := d1.put dst (.s (.one (.slc e.1 n e.2))); have e2 : (SV.s (.one (.slc e.1 n e.2))).den β ρ1 = a.eval x := by
     rw [hv1]; show Value.slice _ _ _ = Value.slice (β.row m).1 _ (β.row m).2; have he1 : β.row m = ((e.1.den ρ1).P, (e.2.den ρ1).N) := he1; rw [he1]
    rw [e2] at this; exact this
   ·exact h.elim
  ·exact h.elim
 ·exact h.elim
theorem a_convert {s t : Nat} {x : Operand} (d : Den σ S β ρ w0 a w) (h : (act P Γ ⟨dst, .convert s t x, type, pos, after, guard⟩ S k).den σ ρ) (hb : σ.base ≤ w.heap.size) (hK : ∀ a' w', AOut σ S k β ρ w0 (touch ⟨dst, .convert s t x, type, pos, after, guard⟩ S) a' w' → K a' w') : Oper.wp P ⟨dst, .convert s t x, type, pos, after, guard⟩ a w K Q := by
 unfold act at h; simp only at h; split at h
 ·next e q hs ht hx =>
  split at h
  ·next he =>
   split at h
   ·next hc =>
    simp only [Bool.and_eq_true] at hc; obtain ⟨hok, hq⟩ := hc
    let p : U := .p (some ⟨w.heap.size, 0, none⟩)
    let c : U := .n (grownCap w (q.den ρ).S.size 0 e)
    have h := h (some ⟨w.heap.size, 0, none⟩) (grownCap w (q.den ρ).S.size 0 e); have a1 : Alike S.nv ρ (upd ρ S.nv p) := Alike.upd _ _ _; have a2 : Alike (S.nv + 1) (upd ρ S.nv p) (upd (upd ρ S.nv p) (S.nv + 1) c) := Alike.upd _ _ _; have a3 := a1.trans a2 (Nat.le_succ _); generalize hρ : upd (upd ρ S.nv p) (S.nv + 1) c = ρ2 at *; have v1 : ρ2 S.nv = p := by rw [a2 S.nv (Nat.lt_succ_self _), upd_self]
    have v2 : ρ2 (S.nv + 1) = c := by rw [← hρ, upd_self]
    have hqs : q.den ρ2 = q.den ρ := X.den_alike a3 q hq; have d1 := ((d.alike a3 hok).world (w' := Lib.bytesWorld w e (q.den ρ).S) (by rw [Lib.bytesWorld_size]; exact Nat.le_succ _) (fun j hj => Lib.bytesWorld_at_old w e _ j hj) (bytes_kept d.bl hb)).nv (S.nv + 2); have hnew : (Lib.bytesWorld w e (q.den ρ).S).heap.size = w.heap.size + 1 := Lib.bytesWorld_size ..; have hnf : w.heap.size ∉ foot β S := fun hm => by have := (d.foot_lt _ hm).1; omega
    have d2 := d1.addFact (F := .bytes (.var S.nv) q) fun u _ hsm => by
     show ∃ g, (ρ2 S.nv).P = some ⟨g, 0, none⟩ ∧ ∀ j, j < (q.den ρ2).S.size → u.cell? ⟨g, j, none⟩ = some (.int .u8 ((q.den ρ2).S.data.toList.getD j 0).toNat); rw [v1, hqs]; refine ⟨w.heap.size, rfl, fun j hj => ?_⟩; have hsame := hsm w.heap.size hb (by rw [hnew]; exact Nat.lt_succ_self _) hnf; rw [World.cell?_of_block (a := ⟨w.heap.size, j, none⟩) hsame]; exact Lib.bytesWorld_cell w e _ j hj
    have d3 : Den σ { S with nv := S.nv + 2, facts := S.facts ++ [FX.bytes (.var S.nv) q], known := X.un .not (.un .isnil (.var S.nv)) :: S.known } β ρ2 w0 a (Lib.bytesWorld w e (q.den ρ).S) := by
     refine ⟨d2.df, d2.nt, d2.fr, d2.bk, d2.rw, d2.nd, d2.rn, d2.ex, d2.fx, fun z hz => ?_, d2.bl⟩
     rcases List.mem_cons.1 hz with rfl | hz
     ·refine (X.holds_iff ρ2 _).2 ?_; show (!(ρ2 S.nv).P.isNone) = true; rw [v1]; rfl
     ·exact d2.kn z hz
    have hr : (execOp a.eval ⟨dst, .convert s t x, type, pos, after, guard⟩).run P w = .ok (.value (.slice (some ⟨w.heap.size, 0, none⟩) (q.den ρ).S.size (grownCap w (q.den ρ).S.size 0 e))) (Lib.bytesWorld w e (q.den ρ).S) := by
     show (do pure (.value (← convert s t (a.eval x))) : Sem Next).run P w = _; rw [opd_den d.fr hx]; exact run_v (Lib.run_convert_string_bytes w s t e (q.den ρ).S hs ht he)
    refine wp_value hr (hK _ _ ⟨_, β, ρ2, h, ?_, a3, Near.refl _ _ _, by rw [put_nv]; show S.nv ≤ S.nv + 2; omega⟩); have := d3.put dst (.s (.one (.slc (.var S.nv) (.un .size q) (.var (S.nv + 1))))); have e : (SV.s (.one (.slc (.var S.nv) (.un .size q) (.var (S.nv + 1))))).den β ρ2 = .slice (some ⟨w.heap.size, 0, none⟩) (q.den ρ).S.size (grownCap w (q.den ρ).S.size 0 e) := by
     show Value.slice (ρ2 S.nv).P (q.den ρ2).S.size (ρ2 (S.nv + 1)).N = _; rw [v1, v2, hqs]; rfl
    rw [e] at this; exact this
   ·exact h.elim
  ·exact h.elim
 ·exact h.elim
theorem a_panic {x : Operand} (d : Den σ S β ρ w0 a w) (h : (act P Γ ⟨dst, .panic x, type, pos, after, guard⟩ S k).den σ ρ) (hlk : ∀ q ∈ Γ.keepB, ∃ b, σ.lnames.lookup q.1 = some b) (hQ : Γ.np = false → ∀ ch w', σ.pan0 ch → Kept σ.lent σ.base w0 w' → KeepB Γ σ a w' → Q (.panic ch) a w') : Oper.wp P ⟨dst, .panic x, type, pos, after, guard⟩ a w K Q := by
  unfold act at h
  simp only at h
  split at h
  · exact h.elim
  · next hn =>
   split at h
   · exact h.elim
   · next hko =>
    have hko : keepOk Γ S = true := by simpa using hko
    split at h
    · next t y hx =>
      have hr : (execOp a.eval ⟨dst, .panic x, type, pos, after, guard⟩).run P w = .halt (.panic (.iface t (y.den ρ).V)) w := by
        show (do pure (.value (← Instr.panic (a.eval x))) : Sem Next).run P w = _
        rw [opd_den d.fr hx]
        rfl
      unfold Oper.wp
      rw [hr]
      exact hQ (by simpa using hn) _ w h d.bl (keepOk_den (ms := []) hlk d hko (by simp) (fun _ _ _ _ => rfl) fun m hm => by cases hm)
    · exact h.elim
theorem Den.recell (d : Den σ S β ρ w0 a w) {m t : Nat} {cs new : List C1} (hm : S.block m = some (t, cs)) (he : new.map (C1.den β ρ) = cs.map (C1.den β ρ)) : Den σ (S.setBlk m new) β ρ w0 a w := by
 have hmem : (m, t, cs) ∈ S.blk := lookup_mem hm; have hfoot : foot β (S.setBlk m new) = foot β S := by
  unfold foot St.setBlk; simp only [List.map_map]
  congr 1
  refine List.map_congr_left fun q _ => ?_
  simp only [Function.comp_apply]; split
  ·next e => rw [e]
  ·rfl
 refine ⟨d.df, d.nt, d.fr, ?_, d.rw, by rw [hfoot]; exact d.nd, d.rn, d.ex, by rw [hfoot]; exact d.fx, d.kn, d.bl⟩; intro q hq; obtain ⟨q0, hq0, rfl⟩ := List.mem_map.1 hq; split
 ·next e =>
  have e2 : q0 = (m, t, cs) := nodup_map_inj (f := fun q : Nat × Nat × List C1 => β.blk q.1) (List.nodup_append.1 d.nd).1 hq0 hmem (by rw [e]); subst e2; show w.heap[β.blk m]? = some (.cells (new.map (C1.den β ρ)).toArray t (0, 0)) ∧ _; rw [he]; exact d.bk _ hmem
 ·exact d.bk q0 hq0
theorem adopt1_den (q : Nat × Nat × Nat) (d : Den σ S β ρ w0 a w) : ∃ β', Near (fun _ => False) (· = cname q.1 q.2.1) β β' ∧ Den σ (adopt1 P q S) β' ρ w0 a w ∧ (adopt1 P q S).nv = S.nv := by
 unfold adopt1; split
 ·next t cs i S1 hb hi hS1 =>
  split
  ·next hc =>
   obtain ⟨hj, hz, hz2⟩ := hc; obtain ⟨β', hn, hm, hd⟩ := d.addRow (r := ⟨cname q.1 q.2.1, q.2.2, i.size, i.bytes, .nat 0, .lnil⟩) (A := none) (c := 0) (w' := w) hS1 (World.ownsRow_nil _ _ _ _) (Nat.le_refl _) (fun _ _ => rfl) (fun _ h => by cases h) d.bl; refine ⟨β', hn, ?_, (show S1.nv = S.nv from dropRow_nv hS1)⟩; have hblk : S1.blk = S.blk := by
    unfold St.dropRow at hS1; rw [Option.map_eq_some_iff] at hS1; obtain ⟨S2, h2, rfl⟩ := hS1; unfold St.unrow at h2; split at h2
    ·cases h2
    ·injection h2 with h2
     subst h2; rfl
   refine hd.recell (t := t) (cs := cs) (by show S1.blk.lookup q.1 = _; rw [hblk]; exact hb) ?_; rw [List.map_set]; have : (C1.row (cname q.1 q.2.1) (.nat 0)).den β' ρ = (C1.slc .pnil (.nat 0) (.nat 0)).den β' ρ := by
    show Value.slice (β'.row _).1 0 (β'.row _).2 = Value.slice none 0 0; have hm : β'.row (cname q.1 q.2.1) = (none, 0) := hm; rw [hm]
   rw [this]; refine set_same ?_; rw [List.getElem?_map, hj]; rfl
  ·exact ⟨β, Near.refl _ _ _, d, rfl⟩
 ·exact ⟨β, Near.refl _ _ _, d, rfl⟩
theorem Near.trans {p q p' q' : Nat → Prop} {β β' β'' : Beta} (h : Near p q β β') (g : Near p' q' β' β'') : Near (fun m => p m ∨ p' m) (fun m => q m ∨ q' m) β β'' :=
 ⟨fun m hm => (g.blk m fun h' => hm (.inr h')).trans (h.blk m fun h' => hm (.inl h')), fun m hm => (g.row m fun h' => hm (.inr h')).trans (h.row m fun h' => hm (.inl h')), g.junk.trans h.junk⟩
theorem adopts_den : ∀ (l : List (Nat × Nat × Nat)) (S : St) (β : Beta), Den σ S β ρ w0 a w → ∃ β', Near (fun _ => False) (· ∈ l.map fun q => cname q.1 q.2.1) β β' ∧ Den σ (adopts P l S) β' ρ w0 a w ∧ (adopts P l S).nv = S.nv
 | [], S, β, d => ⟨β, Near.refl _ _ _, d, rfl⟩
 | q :: l, S, β, d => by
  obtain ⟨β1, n1, d1, e1⟩ := adopt1_den (P := P) q d; obtain ⟨β2, n2, d2, e2⟩ := adopts_den l _ β1 d1; refine ⟨β2, (n1.trans n2).wide (fun m h => h.elim id id) (fun m h => ?_), d2, e2.trans e1⟩
  rcases h with rfl | h
  ·exact List.mem_cons_self ..
  ·exact List.mem_cons_of_mem _ h
theorem unrowB_den {m : Nat} (d : Den σ S β ρ w0 a w) : Den σ (unrowB m S) β ρ w0 a w ∧ (unrowB m S).nv = S.nv ∧ (unrowB m S).fr = S.fr := by
 unfold unrowB; split
 ·next e he =>
  have hx := d.ex _ (lookup_mem he); have hfoot : foot β { S with blk := S.blk.map fun q => (q.1, q.2.1, q.2.2.map (C1.unrow m e.1 e.2)) } = foot β S := by
   unfold foot; simp only [List.map_map]; rfl
  refine ⟨⟨d.df, d.nt, d.fr, ?_, d.rw, by rw [hfoot]; exact d.nd, d.rn, d.ex, by rw [hfoot]; exact d.fx, d.kn, d.bl⟩, rfl, rfl⟩; intro q hq; obtain ⟨q0, hq0, rfl⟩ := List.mem_map.1 hq; show w.heap[β.blk q0.1]? = some (.cells ((q0.2.2.map (C1.unrow m e.1 e.2)).map (C1.den β ρ)).toArray q0.2.1 (0, 0)) ∧ _; rw [List.map_map, show (C1.den β ρ ∘ C1.unrow m e.1 e.2) = C1.den β ρ from funext fun v => unrowC_den hx v]; exact d.bk q0 hq0
 ·exact ⟨d, rfl, rfl⟩
theorem prep_den (d : Den σ S β ρ w0 a w) (h : (prep o S k).den σ ρ) : ∃ S' ρ', (k S').den σ ρ' ∧ Den σ S' β ρ' w0 a w ∧ Alike S.nv ρ ρ' ∧ S.nv ≤ S'.nv ∧ S'.fr = S.fr := by
 unfold prep at h; split at h
 ·next m _ =>
  obtain ⟨S', ρ', g1, g2, g3, g4, g5, _⟩ := expose_den _ S ρ _ d h; obtain ⟨u1, u2, u3⟩ := unrowB_den (m := m) g2; exact ⟨_, ρ', g1, u1, g3, by rw [u2]; exact g4, u3.trans g5⟩
 ·exact ⟨S, ρ, h, d, Alike.refl _ _, Nat.le_refl _, rfl⟩
theorem opd_fr {S S' : St} (h : S'.fr = S.fr) (x : Operand) : S'.opd x = S.opd x := by
 cases x <;> simp only [St.opd, St.get, h]
theorem isAct_fr {S S' : St} (h : S'.fr = S.fr) : isAct P Γ o S' = isAct P Γ o S := by
 unfold isAct; simp only [opd_fr h]
theorem touch_fr {S S' : St} (h : S'.fr = S.fr) : touch o S' = touch o S := by
 unfold touch; simp only [opd_fr h]
end
structure Ctx (P : Program) (Γ : Cfg) (σ : Sm) (w0 : World) : Prop where
 con : ∀ f gh, Γ.con.lookup f = some gh → CallOk P Γ σ f gh
 base : σ.base = w0.heap.size
 pre : ∀ u, Kept σ.lent σ.base w0 u → σ.pre0 u
 lnm : ∀ m, Γ.lnm.contains m = false → σ.lnames.lookup m = none
 mixed : P.follows .mixedOrders = true
 keepB : ∀ q ∈ Γ.keepB, ∃ b, σ.lnames.lookup q.1 = some b
 news : NewsOk P Γ.news
section
variable {P : Program} {Γ : Cfg} {σ : Sm} {S : St} {k : St → VC} {β : Beta} {ρ : Nat → U} {a : Act} {w w0 : World} {K : Act → World → Prop} {Q : Exit → Act → World → Prop} {ops : Array Oper} {o : Oper}
theorem Den.base_le (c : Ctx P Γ σ w0) (d : Den σ S β ρ w0 a w) : σ.base ≤ w.heap.size := by rw [c.base]; exact d.bl.size
theorem Den.pre (c : Ctx P Γ σ w0) (d : Den σ S β ρ w0 a w) : σ.pre0 w := c.pre w d.bl
theorem lookup_blk {m t : Nat} {cs : List C1} (h : S.block m = some (t, cs)) : (m, t, cs) ∈ S.blk := lookup_mem h
theorem Den.memOk (c : Ctx P Γ σ w0) (d : Den σ S β ρ w0 a w) : MemOk σ S.facts (fun _ => true) S β ρ w :=
 ⟨fun F hF => d.fx F hF w (d.pre c) fun _ _ _ _ => rfl, fun _ _ _ h _ => (d.bk _ (lookup_blk h)).1, fun _ r h _ => (d.rw r (rowOf_mem h)).1⟩
theorem act_den (c : Ctx P Γ σ w0) (hQ : Γ.np = false → ∀ ch w', σ.pan0 ch → Kept σ.lent σ.base w0 w' → KeepB Γ σ a w' → Q (.panic ch) a w') (d : Den σ S β ρ w0 a w) (ha : isAct P Γ o S = true) (h : (act P Γ o S k).den σ ρ) (hKG : ∀ a' w', AOut σ S k β ρ w0 (touchG Γ o S) a' w' → K a' w') : o.wp P a w K Q := by
 have hb := d.base_le c; have hK : ∀ a' w', AOut σ S k β ρ w0 (touch o S) a' w' → K a' w' := fun a' w' ⟨S', β', ρ', x1, x2, x3, x4, x5⟩ => hKG a' w' ⟨S', β', ρ', x1, x2, x3, x4.wide (fun m h => List.mem_append_left _ h) (fun m h => List.mem_append_left _ h), x5⟩
 obtain ⟨dst, op, type, pos, after, guard⟩ := o; cases op with
 | assign x => exact a_assign d ha h hb hK
 | alloc t => exact a_alloc d h hb c.lnm hK
 | box t x => exact a_box d h hb c.lnm hK
 | store t x y => exact a_store d h hK
 | build t ps => exact a_build d h hK
 | buildSlice t n ps => exact a_buildSlice d h hb c.lnm hK
 | slice t x lo hi mx => exact a_slice d h hK
 | convert s t x => exact a_convert d h hb hK
 | panic x => exact a_panic d h c.keepB hQ
 | call cl =>
  obtain ⟨callee, args, ts⟩ := cl; cases callee with
  | builtin b => cases b <;> first | exact a_append d h hb (d.pre c) hK | exact h.elim
  | value x =>
   cases x with
   | func f =>
    unfold act at h; simp only at h; split at h
    ·next t ht =>
     refine a_new (c.news f t ht) d ?_ h hb c.lnm hK; intro fn hfn hbody hname; unfold execOp; simp only [resolve, Act.eval, Deferred.ofValue, invoke, Sem.run_bind, Sem.run_pure, Result.andThen_ok]; unfold callFunc program; simp only [Sem.run_bind, Sem.run, Result.andThen_ok, hfn, hbody, hname]; simp
    split at h
    ·next vs hvs =>
     split at h
     ·next hL =>
      refine callS_den (av := args.map a.eval) (fun gh hg => by have := c.con f gh hg; unfold CallOk at this; rw [hL] at this; exact this) c.lnm hb (d.pre c) d ?_ ?_ h hK
      ·intro fn hfn hbody hname; unfold execOp; simp only [resolve, Act.eval, Deferred.ofValue, invoke, Sem.run_bind, Sem.run_pure, Result.andThen_ok]; unfold callFunc program; simp only [Sem.run_bind, Sem.run, Result.andThen_ok, hfn, hbody, hname]; simp
      ·intro ρ' hfr; rw [Array.toList_map]; exact mapM_eval hfr args.toList vs hvs
     ·next L hL =>
      refine callL_den (av := args.map a.eval) (fun gh hg => by have := c.con f gh hg; unfold CallOk at this; rw [hL] at this; exact this) c.keepB hQ hb (d.pre c) d ?_ ?_ h (fun q hq => List.mem_append_right _ (List.mem_map.2 ⟨q, hq, rfl⟩)) hKG
      ·intro fn hfn hbody hname; unfold execOp; simp only [resolve, Act.eval, Deferred.ofValue, invoke, Sem.run_bind, Sem.run_pure, Result.andThen_ok]; unfold callFunc program; simp only [Sem.run_bind, Sem.run, Result.andThen_ok, hfn, hbody, hname]; simp
      ·intro ρ' hfr; rw [Array.toList_map]; exact mapM_eval hfr args.toList vs hvs
    ·exact h.elim
   | tmp t =>
    unfold act at h; simp only at h; split at h
    ·next vs v f hvs hv _ =>
     obtain ⟨hf, h⟩ := h; have hev : a.eval (.tmp t) = .func (.func f) #[] #[] := (opd_den (x := .tmp t) d.fr hv).trans hf; split at h
     ·next hL =>
      refine callS_den (av := args.map a.eval) (fun gh hg => by have := c.con f gh hg; unfold CallOk at this; rw [hL] at this; exact this) c.lnm hb (d.pre c) d ?_ ?_ h hK
      ·intro fn hfn hbody hname; unfold execOp; simp only [resolve, hev, Deferred.ofValue, invoke, Sem.run_bind, Sem.run_pure, Result.andThen_ok]; unfold callFunc program; simp only [Sem.run_bind, Sem.run, Result.andThen_ok, hfn, hbody, hname]; simp
      ·intro ρ' hfr; rw [Array.toList_map]; exact mapM_eval hfr args.toList vs hvs
     ·next L hL =>
      refine callL_den (av := args.map a.eval) (fun gh hg => by have := c.con f gh hg; unfold CallOk at this; rw [hL] at this; exact this) c.keepB hQ hb (d.pre c) d ?_ ?_ h (fun q hq => List.mem_append_right _ (List.mem_map.2 ⟨q, hq, rfl⟩)) hKG
      ·intro fn hfn hbody hname; unfold execOp; simp only [resolve, hev, Deferred.ofValue, invoke, Sem.run_bind, Sem.run_pure, Result.andThen_ok]; unfold callFunc program; simp only [Sem.run_bind, Sem.run, Result.andThen_ok, hfn, hbody, hname]; simp
      ·intro ρ' hfr; rw [Array.toList_map]; exact mapM_eval hfr args.toList vs hvs
    ·exact h.elim
   | _ => exact h.elim
  | _ => exact h.elim
 | _ => exact h.elim
theorem actX_den (c : Ctx P Γ σ w0) (hQ : Γ.np = false → ∀ ch w', σ.pan0 ch → Kept σ.lent σ.base w0 w' → KeepB Γ σ a w' → Q (.panic ch) a w') (d : Den σ S β ρ w0 a w) (ha : isAct P Γ o S = true) (h : (actX P Γ o S k).den σ ρ) (hK : ∀ a' w', AOut σ S k β ρ w0 (touchG Γ o S) a' w' → K a' w') : o.wp P a w K Q := by
 unfold actX at h; obtain ⟨S1, ρ1, h, d1, a1, n1, f1⟩ := prep_den d h; refine act_den c hQ d1 (by rw [isAct_fr f1]; exact ha) h fun a' w' ⟨S', β', ρ', x1, x2, x3, x4, x5⟩ => hK a' w' ?_
 rw [show touchG Γ o S1 = touchG Γ o S by unfold touchG; rw [touch_fr f1]] at x4; split at x1
 ·exact ⟨S', β', ρ', x1, x2, a1.trans x3 n1, x4, Nat.le_trans n1 x5⟩
 ·obtain ⟨β'', y1, y2, y3⟩ := adopts_den (P := P) Γ.rcells S' β' x2; refine ⟨_, β'', ρ', x1, y2, a1.trans x3 n1, (x4.trans y1).wide (fun m h => ?_) (fun m h => ?_), by rw [y3]; exact Nat.le_trans n1 x5⟩
  ·rcases h with h | h
   ·exact h
   ·exact h.elim
  ·rcases h with h | h
   ·exact h
   ·exact List.mem_append_right _ h
theorem step_den (c : Ctx P Γ σ w0) (hQ : Γ.np = false → ∀ ch w', σ.pan0 ch → Kept σ.lent σ.base w0 w' → KeepB Γ σ a w' → Q (.panic ch) a w') (d : Den σ S β ρ w0 a w) (h : (step P Γ o S k).den σ ρ) (hK : ∀ a' w', AOut σ S k β ρ w0 (touchG Γ o S) a' w' → K a' w') : o.wp P a w K Q := by
 unfold step at h; split at h
 ·next ha => exact actX_den c hQ d ha h hK
 ·obtain ⟨v, ρ', S', hal, hsm, hor, hkn, hk, hrun⟩ := quiet_den (okm := fun _ => true) ⟨w, (d.memOk c).1⟩ d.kn d.fr d.ex o h; have d' : Den σ S β ρ' w0 a w := by
   rcases hor with rfl | hok
   ·exact d
   ·exact d.alike hal hok
  refine wp_value (hrun w (d'.memOk c)) (hK _ _ ⟨_, β, ρ', hk, (d'.sim hsm hkn).put o.dst v, hal, Near.refl _ _ _, by rw [put_nv]; exact hsm.nv⟩)
theorem get_bool (hfr : ∀ t v, S.fr.lookup t = some v → a.tmps[t]? = some (v.den β ρ)) {j dd : Nat} {q : X} (hd : (ops[j]?).bind (·.dst) = some dd) (hg : S.get dd = some (.s (.one (.bool q)))) : yielded ops a.tmps j = some (q.den ρ).B := by
 unfold yielded; rw [hd]; show (match a.tmps[dd]? with | some (.bool b) => some b | _ => none) = _; rw [hfr dd _ hg]; rfl
theorem put_bool (hfr : ∀ t v, S.fr.lookup t = some v → a.tmps[t]? = some (v.den β ρ)) (d : Den σ S β ρ w0 a w) {dd : Nat} {q : X} {b : Bool} (hg : S.get dd = some (.s (.one (.bool q)))) (hb : (q.den ρ).B = b) : Den σ (S.put (some dd) (.s (.one (.bool (.bool b))))) β ρ w0 a w := by
 have := d.put (some dd) (.s (.one (.bool (.bool b)))); have e : a.put (some dd) ((SV.s (.one (.bool (.bool b)))).den β ρ) = a := by
  have h0 := hfr dd _ hg; have h1 : (SV.s (.one (.bool (.bool b)))).den β ρ = (SV.s (.one (.bool q))).den β ρ := by
   show Value.bool b = Value.bool (q.den ρ).B; rw [hb]
  rw [h1]; show (⟨a.tmps.setIfInBounds dd _, a.defers⟩ : Act) = a; have : a.tmps.setIfInBounds dd ((SV.s (.one (.bool q))).den β ρ) = a.tmps := by
   apply Array.ext_getElem?; intro i
   by_cases hi : i = dd
   ·subst hi; have hl : i < a.tmps.size := by
     rcases Nat.lt_or_ge i a.tmps.size with h | h
     ·exact h
     ·rw [Array.getElem?_eq_none h] at h0; cases h0
    rw [Array.getElem?_setIfInBounds_self_of_lt hl, h0]
   ·rw [Array.getElem?_setIfInBounds_ne (Ne.symm hi)]
  rw [this]
 rw [e] at this; exact this
theorem Den.know (d : Den σ S β ρ w0 a w) {q : X} (hq : q.holds ρ) : Den σ (S.know q) β ρ w0 a w :=
 d.sim ⟨rfl, rfl, rfl, rfl, rfl, rfl, Nat.le_refl _⟩ fun c hc => by
  rcases List.mem_cons.1 hc with rfl | hc
  ·exact hq
  ·exact d.kn c hc
theorem put_get (S : St) (d : Nat) (v : SV) (t : Nat) : (S.put (some d) v).get t = some v ∨ (S.put (some d) v).get t = S.get t := by
 unfold St.put St.get; simp only; split
 ·by_cases h : t = d
  ·subst h; left; rw [List.lookup_cons]; simp
  ·right; rw [List.lookup_cons]; have : (t == d) = false := by simpa using h
   rw [this]; simp only
   induction S.fr with
   | nil => rfl
   | cons p l ih =>
    rw [List.filter_cons]; split
    ·rw [List.lookup_cons, List.lookup_cons]; split
     ·rfl
     ·exact ih
    ·next hp =>
     rw [List.lookup_cons]; have hp : p.1 = d := by simpa using hp
     have : (t == p.1) = false := by rw [hp]; simpa using h
     rw [this]; exact ih
 ·exact .inr rfl
theorem touch_put {dd : Nat} {q : X} : ∀ m ∈ touch o (S.put (some dd) (.s (.one (.bool q)))), m ∈ touch o S := by
 intro m hm; unfold touch at hm ⊢
 rcases List.mem_append.1 hm with hm | hm
 ·exact List.mem_append_left _ hm
 ·refine List.mem_append_right _ ?_; split at hm
  ·split at hm
   ·next x l hx =>
    have : (S.put (some dd) (.s (.one (.bool q)))).opd x = some (.s (.one (.bool q))) ∨ (S.put (some dd) (.s (.one (.bool q)))).opd x = S.opd x := by
     cases x with
     | tmp t => exact put_get S dd _ t
     | const v => exact .inr rfl
     | global g => exact .inr rfl
     | func f => exact .inr rfl
    rcases this with e | e
    ·rw [e] at hm; cases hm
    ·rw [e] at hm; exact hm
   ·cases hm
  ·cases hm
theorem touchG_put {dd : Nat} {q : X} : ∀ m ∈ touchG Γ o (S.put (some dd) (.s (.one (.bool q)))), m ∈ touchG Γ o S := fun m hm => by
 rcases List.mem_append.1 hm with h | h
 ·exact List.mem_append_left _ (touch_put m h)
 ·exact List.mem_append_right _ h
theorem stepG_den (c : Ctx P Γ σ w0) (hQ : Γ.np = false → ∀ ch w', σ.pan0 ch → Kept σ.lent σ.base w0 w' → KeepB Γ σ a w' → Q (.panic ch) a w') (d : Den σ S β ρ w0 a w) {i : Nat} (hi : ops[i]? = some o) (h : (stepG P Γ ops o S k).den σ ρ) (hK : ∀ a' w', AOut σ S k β ρ w0 (touchG Γ o S) a' w' → K a' w') : wpOp P ops Q i K a w := by
 unfold wpOp; simp only [hi]; unfold stepG at h; have kill : ∀ {S1 : St}, Den σ S1 β ρ w0 a w → S1.nv = S.nv → (k (S1.kill o.dst)).den σ ρ → K (a.put o.dst undef) w := fun d1 e h1 => hK _ _ ⟨_, β, ρ, h1, d1.kill o.dst undef, Alike.refl _ _, Near.refl _ _ _, by rw [kill_nv, e]; exact Nat.le_refl _⟩
 split at h
 ·next hg =>
  have : Region.wanted o (yielded ops a.tmps) = true := by unfold Region.wanted; rw [hg]
  rw [if_pos this]; exact .inl (step_den c hQ d h hK)
 ·next j want hg =>
  split at h
  ·exact h.elim
  ·next dd hd =>
   have hw : ∀ b, yielded ops a.tmps j = some b → Region.wanted o (yielded ops a.tmps) = (b == want) := by
    intro b hb; unfold Region.wanted; rw [hg]; simp only [hb]; rfl
   split at h
   ·next t ht =>
    have hy := get_bool d.fr hd ht; have hy := hw _ hy; have hy : Region.wanted o (yielded ops a.tmps) = (t == want) := hy; split at h
    ·next e =>
     rw [hy, e, if_pos (by simp)]; exact .inl (step_den c hQ d h hK)
    ·next e =>
     rw [hy, if_neg (by simpa using e)]; exact kill d rfl h
   ·next q _ ht =>
    have hy := hw _ (get_bool d.fr hd ht); rw [hy]; obtain ⟨h1, h2⟩ := h; have step1 : ∀ b r, r.holds ρ → (q.den ρ).B = b → (step P Γ o ((S.know r).put (some dd) (.s (.one (.bool (.bool b))))) k).den σ ρ → o.wp P a w K Q := fun b r hr hb h' =>
     step_den c hQ (put_bool (S := S.know r) d.fr (d.know hr) ht hb) h' fun a' w' ⟨S', β', ρ', x1, x2, x3, x4, x5⟩ => hK a' w' ⟨S', β', ρ', x1, x2, by rw [put_nv] at x3; exact x3, x4.wide (fun m hm => touchG_put (S := S.know r) m hm) (fun m hm => touchG_put (S := S.know r) m hm), by rw [put_nv] at x5; exact x5⟩
    cases hq : (q.den ρ).B with
    | true =>
     have hqh := (X.holds_iff ρ q).2 hq; have g1 := h1 hqh; dsimp only at g1; split at g1
     ·next hw' => 
      subst hw'; rw [if_pos (by rfl)]; exact .inl (step1 true q hqh hq g1)
     ·next hw' =>
      rw [if_neg (by simpa using hw')]; exact kill (put_bool (S := S.know q) d.fr (d.know hqh) ht hq) (put_nv ..) g1
    | false =>
     have hqh : (X.not q).holds ρ := (X.holds_iff ρ _).2 (by rw [not_den, hq]; rfl); have g2 := h2 hqh; dsimp only at g2; split at g2
     ·next hw' =>
      subst hw'; rw [if_neg (by simp)]; exact kill (put_bool (S := S.know (X.not q)) d.fr (d.know hqh) ht hq) (put_nv ..) g2
     ·next hw' =>
      have : want = false := by simpa using hw'
      subst this; rw [if_pos (by rfl)]; exact .inl (step1 false (X.not q) hqh hq g2)
   ·exact h.elim
theorem runOps_den (c : Ctx P Γ σ w0) (hQ : ∀ ch a w', σ.pan0 ch → a.defers = σ.df → Kept σ.lent σ.base w0 w' → KeepB Γ σ a w' → Q (.panic ch) a w') : ∀ (l : List Nat) (S : St) (β : Beta) (ρ : Nat → U) (a : Act) (w : World), Den σ S β ρ w0 a w → (runOps P Γ ops l S k).den σ ρ → (∀ S' β' ρ' a' w', (k S').den σ ρ' → Den σ S' β' ρ' w0 a' w' → Alike S.nv ρ ρ' → S.nv ≤ S'.nv → Q .normal a' w') → wpOps P ops Q l a w
 | [], S, β, ρ, a, w, d, h, hK => hK S β ρ a w h d (Alike.refl _ _) (Nat.le_refl _)
 | i :: l, S, β, ρ, a, w, d, h, hK => by
  rw [wpOps_cons]; unfold runOps at h; split at h
  ·exact h.elim
  ·next o hi =>
   exact stepG_den c (fun _ ch w' h1 h2 h3 => hQ ch a w' h1 d.df h2 h3) d hi h fun a' w' ⟨S', β', ρ', h1, h2, h3, _, h5⟩ => runOps_den c hQ l S' β' ρ' a' w' h2 h1 fun S'' β'' ρ'' a'' w'' g1 g2 g3 g4 => hK S'' β'' ρ'' a'' w'' g1 g2 (h3.trans g3 h5) (Nat.le_trans h5 g4)
end
section
variable {P : Program} {Γ : Cfg} {σ : Sm} {k : St → VC} {w0 : World} {Q : Exit → Act → World → Prop} {ops : Array Oper}
structure Tie (S0 : St) (names : List Nat) (β0 : Beta) (ρ0 : Nat → U) (S : St) (β : Beta) (ρ : Nat → U) : Prop where
 al : Alike S0.nv ρ0 ρ
 nv : S0.nv ≤ S.nv
 st : static names S0 S = true
 fs : ∀ F ∈ S0.facts, F ∈ S.facts
 bl : ∀ m ∈ names, β.blk m = β0.blk m ∧ β.row m = β0.row m
 jk : β.junk = β0.junk
theorem static_blk {names : List Nat} {S T : St} (h : static names S T = true) {m : Nat} (hm : m ∈ names) : S.blk.lookup m = T.blk.lookup m ∧ S.rowOf m = T.rowOf m := by
 unfold static at h; rw [List.all_eq_true] at h; have := h m hm; simp only [Bool.and_eq_true, beq_iff_eq] at this; exact this
theorem shut_cells {l : List Nat} {S : St} (h : shutB l S = true) {q : Nat × Nat × List C1} (hq : q ∈ S.blk) (hm : q.1 ∈ l) : ∀ c ∈ q.2.2, ∀ m ∈ c.mentions, m ∈ l := by
 unfold shutB at h; rw [List.all_eq_true] at h; have := h q hq; have hc : l.contains q.1 = true := by simpa using hm
 rw [hc] at this; simp only [Bool.not_true, Bool.false_or, List.all_eq_true] at this; intro c hc m hm; simpa using this c hc m hm
theorem static_mem {S0 S : St} {names : List Nat} {β0 β : Beta} {ρ0 ρ : Nat → U} {fs : List FX} {w : World} (hok : S0.ok = true) (hsh : shutB names S0 = true) (t : Tie S0 names β0 ρ0 S β ρ) (hfs : fs = S0.facts) : MemOk σ fs (names.contains ·) S0 β0 ρ0 w ↔ MemOk σ fs (names.contains ·) S β ρ w := by
 subst hfs; have hu := hok; unfold St.ok St.upto at hu; simp only [Bool.and_eq_true, List.all_eq_true] at hu; obtain ⟨⟨⟨⟨⟨_, h2⟩, h3⟩, h4⟩, _⟩, _⟩ := hu; have hcells : ∀ m t' cs, S0.block m = some (t', cs) → m ∈ names → cs.map (C1.den β ρ) = cs.map (C1.den β0 ρ0) := by
  intro m t' cs hb hm; have hmem := lookup_blk hb; have hcs := List.all_eq_true.2 (h2 _ hmem); rw [cells_alike t.al β cs hcs]; refine List.map_congr_left fun c hc => ?_
  have hme := shut_cells hsh hmem hm c hc; cases c <;> simp only [C1.den]
  case own j off => rw [(t.bl j (hme j (by simp [C1.mentions]))).1]
  case row j n => rw [(t.bl j (hme j (by simp [C1.mentions]))).2]
  case rowp j n => rw [(t.bl j (hme j (by simp [C1.mentions]))).2]
  case junk j => rw [t.jk]
  case bslc j n => rw [(t.bl j (hme j (by simp [C1.mentions]))).1]
 have hrow : ∀ m r, S0.rowOf m = some r → m ∈ names → (r.n.den ρ = r.n.den ρ0 ∧ r.xs.den ρ = r.xs.den ρ0 ∧ β.row r.m = β0.row r.m) := by
  intro m r hr hm; have := h3 r (rowOf_mem hr); exact ⟨X.den_alike t.al _ this.1, X.den_alike t.al _ this.2, by rw [rowOf_m hr]; exact (t.bl m hm).2⟩
 constructor
 ·rintro ⟨m1, m2, m3⟩; refine ⟨fun F hF => (FX.den_alike t.al σ w F (h4 F hF)).2 (m1 F hF), ?_, ?_⟩
  ·intro m t' cs hb hm; have hm' : m ∈ names := by simpa using hm
   have hb0 : S0.block m = some (t', cs) := (static_blk t.st hm').1.trans hb; rw [(t.bl m hm').1, hcells m t' cs hb0 hm']; exact m2 m t' cs hb0 hm
  ·intro m r hr hm; have hm' : m ∈ names := by simpa using hm
   have hr0 : S0.rowOf m = some r := (static_blk t.st hm').2.trans hr; obtain ⟨e1, e2, e3⟩ := hrow m r hr0 hm'; rw [e1, e2, e3]; exact m3 m r hr0 hm
 ·rintro ⟨m1, m2, m3⟩; refine ⟨fun F hF => (FX.den_alike t.al σ w F (h4 F hF)).1 (m1 F hF), ?_, ?_⟩
  ·intro m t' cs hb hm; have hm' : m ∈ names := by simpa using hm
   have hb1 : S.block m = some (t', cs) := (static_blk t.st hm').1.symm.trans hb; have := m2 m t' cs hb1 hm; rw [(t.bl m hm').1, hcells m t' cs hb hm'] at this; exact this
  ·intro m r hr hm; have hm' : m ∈ names := by simpa using hm
   have hr1 : S.rowOf m = some r := (static_blk t.st hm').2.symm.trans hr; obtain ⟨e1, e2, e3⟩ := hrow m r hr hm'; have := m3 m r hr1 hm; rw [e1, e2, e3] at this; exact this
theorem fold_den {σ : Sm} {ρ : Nat → U} (g : Nat → VC) : ∀ (l : List Nat) (x : VC), (l.foldl (fun acc i => VC.both acc (g i)) x).den σ ρ → x.den σ ρ ∧ ∀ i ∈ l, (g i).den σ ρ
 | [], x, h => ⟨h, fun _ h => by cases h⟩
 | i :: l, x, h => by
  rw [List.foldl_cons] at h; obtain ⟨h1, h2⟩ := fold_den g l _ h; rw [VC.both_iff] at h1; exact ⟨h1.1, fun j hj => by rcases List.mem_cons.1 hj with rfl | hj; exact h1.2; exact h2 j hj⟩
theorem put_same (S : St) (d : Option Nat) (v : SV) : (S.put d v).blk = S.blk ∧ (S.put d v).row = S.row ∧ (S.put d v).facts = S.facts := by
 unfold St.put; split
 ·exact ⟨rfl, rfl, rfl⟩
 ·split <;> exact ⟨rfl, rfl, rfl⟩
theorem wantedS_den {S : St} {β : Beta} {ρ : Nat → U} {a : Act} {o : Oper} (hfr : ∀ t v, S.fr.lookup t = some v → a.tmps[t]? = some (v.den β ρ)) (h : wantedS ops o S = true) : Region.wanted o (yielded ops a.tmps) = true := by
 unfold wantedS at h; unfold Region.wanted; split at h
 ·next hg => rw [hg]
 ·next j want hg =>
  rw [hg]; split at h
  ·next t ht =>
   rw [Option.bind_eq_some_iff] at ht; obtain ⟨dd, hd, ht⟩ := ht; have := get_bool hfr hd ht; simp only; rw [this]; simpa [X.den, U.B] using h
  ·cases h
theorem runAny_den (c : Ctx P Γ σ w0) (hnp : Γ.np = true) (hQ : ∀ ch a w, ¬ Q (.panic ch) a w) {S0 : St} {names : List Nat} {β0 : Beta} {ρ0 : Nat → U} (hns : Region.noSelect ops = true) (hok : S0.ok = true) (hsh : shutB names S0 = true) (hK : ∀ S' β' ρ' a' w', (k S').den σ ρ' → Den σ S' β' ρ' w0 a' w' → Alike S0.nv ρ0 ρ' → S0.nv ≤ S'.nv → Q .normal a' w') :
    ∀ (g n : Nat) (listed : Array Bool) (S : St) (β : Beta) (ρ : Nat → U) (a : Act) (w : World), Den σ S β ρ w0 a w → Tie S0 names β0 ρ0 S β ρ → (runAny P Γ ops names S0 g n listed S k).den σ ρ →
      wpAnyH P .any ops Q (MemOk σ S0.facts (names.contains ·) S0 β0 ρ0) n listed a w := by
  intro g
  have hold : ∀ {S : St} {β : Beta} {ρ : Nat → U} {a : Act} {w : World}, Den σ S β ρ w0 a w → Tie S0 names β0 ρ0 S β ρ → MemOk σ S0.facts (names.contains ·) S0 β0 ρ0 w := by
    intro S β ρ a w d t
    refine (static_mem hok hsh t rfl).2 ?_
    have := d.memOk c
    exact ⟨fun F hF => this.1 F (t.fs F hF), fun m t' cs hb _ => this.2.1 m t' cs hb rfl, fun m r hr _ => this.2.2 m r hr rfl⟩
  have know : ∀ {S : St} {β : Beta} {ρ : Nat → U} {dd : Nat} {q : X} {b : Bool}, Tie S0 names β0 ρ0 S β ρ → Tie S0 names β0 ρ0 ((S.know q).put (some dd) (.s (.one (.bool (.bool b))))) β ρ := by
    intro S β ρ dd q b t
    have hps := put_same (S.know q) (some dd) (.s (.one (.bool (.bool b))))
    refine ⟨t.al, by rw [put_nv]; exact t.nv, ?_, ?_, t.bl, t.jk⟩
    · have := t.st
      unfold static at this ⊢
      rw [hps.1, hps.2.1]
      exact this
    · rw [hps.2.2]
      exact t.fs
  induction g with
  | zero =>
    intro n listed S β ρ a w d t h
    exact h.elim
  | succ g ih =>
    intro n listed S β ρ a w d t h
    unfold runAny at h
    split at h
    · next hr => exact wpAnyH_done hr (hK S β ρ a w h d t.al t.nv) _
    · exact h.elim
    · next i0 rs n hr =>
      split at h
      · next dd q hp =>
        obtain ⟨i, hi, hpi⟩ := List.exists_of_findSome?_eq_some hp
        have hg : S.get dd = some (.s (.one (.bool q))) := by
          unfold pend at hpi
          split at hpi
          · cases hpi
          · split at hpi
            · cases hpi
            · split at hpi
              · cases hpi
              · next q' _ hq =>
                injection hpi with hpi
                injection hpi with e1 e2
                subst e1; subst e2
                exact hq
              · cases hpi
        obtain ⟨h1, h2⟩ := h
        cases hq : (q.den ρ).B with
        | true =>
          have hqh := (X.holds_iff ρ q).2 hq
          exact ih (n + 1) listed _ β ρ a w (put_bool (S := S.know q) d.fr (d.know hqh) hg hq) (know t) (h1 hqh)
        | false =>
          have hqh : (X.not q).holds ρ := (X.holds_iff ρ _).2 (by rw [not_den, hq]; rfl)
          exact ih (n + 1) listed _ β ρ a w (put_bool (S := S.know (X.not q)) d.fr (d.know hqh) hg hq) (know t) (h2 hqh)
      · split at h
        · next i hi =>
          have htk := List.find?_some hi
          have hmem := List.mem_of_find?_eq_some hi
          split at h
          · next o ho =>
            rw [ho] at htk
            simp only [Bool.and_eq_true] at htk
            obtain ⟨hsk, hfree⟩ := htk
            have hnw : Region.wanted o (yielded ops a.tmps) = false := by
              unfold skipS at hsk
              unfold Region.wanted
              split at hsk
              · cases hsk
              · next j want hg =>
                rw [hg]
                split at hsk
                · next tt ht =>
                  rw [Option.bind_eq_some_iff] at ht
                  obtain ⟨dd, hd, ht⟩ := ht
                  have := get_bool d.fr hd ht
                  simp only
                  rw [this]
                  simpa [X.den, U.B] using hsk
                · cases hsk
            refine wpAnyH_take ho hns hfree (by rw [hr]; simpa using hmem) (fun ch a w hq => absurd hq (hQ _ _ _)) (.inr ⟨hnw, rfl⟩) (hold d t) ?_
            refine ih n _ _ β ρ _ w (d.kill o.dst undef) ⟨t.al, by rw [kill_nv]; exact t.nv, ?_, ?_, t.bl, t.jk⟩ h
            · have := t.st
              cases o.dst <;> exact this
            · have := t.fs
              cases o.dst <;> exact this
          · exact h.elim
        · split at h
          · next i hi =>
            have htk := List.find?_some hi
            have hmem := List.mem_of_find?_eq_some hi
            split at h
            · next o ho =>
              unfold takes at htk
              rw [ho] at htk
              simp only [Bool.and_eq_true] at htk
              obtain ⟨⟨⟨⟨_, _⟩, hw⟩, hfree⟩, _⟩ := htk
              obtain ⟨v, ρ', S', hal, hsm, hor, hkn, hk, hrun⟩ := quiet_den (okm := (names.contains ·)) ⟨w, ((static_mem hok hsh t rfl).1 (hold d t)).1⟩ d.kn d.fr d.ex o h
              have d' : Den σ S β ρ' w0 a w := by
                rcases hor with rfl | hS
                · exact d
                · exact d.alike hal hS
              dsimp only at hk
              split at hk
              · next hle =>
                have hle : S0.nv ≤ S'.nv := Nat.le_of_ble_eq_true hle
                have t' : Tie S0 names β0 ρ0 S β ρ' := ⟨t.al.trans hal t.nv, t.nv, t.st, t.fs, t.bl, t.jk⟩
                have hy : YieldsIf P ops (MemOk σ S0.facts (names.contains ·) S0 β0 ρ0) o (v.den β ρ') a := by
                  refine .inl ⟨wantedS_den d.fr hw, fun u hu => hrun u ?_⟩
                  exact (static_mem hok hsh t' rfl).1 hu
                refine wpAnyH_take ho hns hfree (by rw [hr]; simpa using hmem) (fun ch a w hq => absurd hq (hQ _ _ _)) hy (hold d t) ?_
                have hps := put_same S' o.dst v
                refine ih n _ _ β ρ' _ w ((d'.sim hsm hkn).put o.dst v) ⟨t'.al, by rw [put_nv]; exact hle, ?_, ?_, t.bl, t.jk⟩ hk
                · have := t.st
                  unfold static at this ⊢
                  rw [hps.1, hps.2.1, hsm.blk, hsm.row]
                  exact this
                · rw [hps.2.2, hsm.facts]
                  exact t.fs
              · exact hk.elim
            · exact h.elim
          · obtain ⟨h1, h2⟩ := fold_den _ rs _ h
            refine wpAnyH_all hr (by simp) fun i hi => ?_
            have hall : ∀ i, (match ops[i]? with
               | some o => stepG P Γ ops o S fun S' => if okAfter Γ ops names S0 S S' o then runAny P Γ ops names S0 g n (listed.setIfInBounds i true) S' k else .no 52
               | none => VC.no 53).den σ ρ → wpOp P ops Q i (fun a' w' => MemOk σ S0.facts (names.contains ·) S0 β0 ρ0 w' ∧ wpAnyH P .any ops Q (MemOk σ S0.facts (names.contains ·) S0 β0 ρ0) n (listed.setIfInBounds i true) a' w') a w := by
              intro i hi
              split at hi
              · next o ho =>
                refine stepG_den c (fun h => by rw [hnp] at h; cases h) d ho hi fun a' w' ⟨S', β', ρ', x1, x2, x3, x4, _⟩ => ?_
                dsimp only at x1
                split at x1
                · next hc =>
                  unfold okAfter at hc
                  simp only [Bool.and_eq_true, List.all_eq_true] at hc
                  obtain ⟨⟨⟨c1, c2⟩, c3⟩, c4⟩ := hc
                  have hnt : ∀ m ∈ names, m ∉ touchG Γ o S := by
                    intro m hm ht
                    have := c3 m ht
                    have hm' : names.contains m = true := by simpa using hm
                    rw [hm'] at this
                    cases this
                  have t' : Tie S0 names β0 ρ0 S' β' ρ' := ⟨t.al.trans x3 t.nv, Nat.le_of_ble_eq_true c4, c1, fun F hF => by simpa using c2 F hF, fun m hm => ⟨(x4.blk m (hnt m hm)).trans (t.bl m hm).1, (x4.row m (hnt m hm)).trans (t.bl m hm).2⟩, x4.junk.trans t.jk⟩
                  exact ⟨hold x2 t', ih n _ S' β' ρ' a' w' x2 t' x1⟩
                · exact x1.elim
              · exact hi.elim
            rcases List.mem_cons.1 hi with rfl | hi
            · exact hall _ h1
            · exact hall _ (h2 i hi)
theorem Den.drawn {S : St} {β : Beta} {ρ : Nat → U} {a : Act} {w : World} (d : Den σ S β ρ w0 a w) (n : Nat) : Den σ S β ρ w0 a { w with drawn := n } :=
 ⟨d.df, d.nt, d.fr, d.bk, d.rw, d.nd, d.rn, d.ex, d.fx, d.kn, ⟨d.bl.os, d.bl.tape, d.bl.output, d.bl.size, d.bl.block⟩⟩
theorem region_den (c : Ctx P Γ σ w0) (hQ : ∀ ch a w', σ.pan0 ch → a.defers = σ.df → Kept σ.lent σ.base w0 w' → KeepB Γ σ a w' → Q (.panic ch) a w') {S : St} {β : Beta} {ρ : Nat → U} {a : Act} {w : World} {id : Nat} {draw : Bool} {kx : Ex → St → VC} (d : Den σ S β ρ w0 a w) (h : (exec P Γ (.region id ops draw) S kx).den σ ρ) (hK : ∀ S' β' ρ' a' w', (kx .normal S').den σ ρ' → Den σ S' β' ρ' w0 a' w' → Alike S.nv ρ ρ' → S.nv ≤ S'.nv → Q .normal a' w') : (Code.region id ops draw).wp P Q a w := by
 unfold exec at h; split at h
 ·next hd =>
  have hd : draw = true := hd; subst hd; split at h
  ·next hc =>
   simp only [Bool.and_eq_true] at hc; obtain ⟨⟨c1, c2⟩, c3⟩ := hc; refine wp_mono (Q := fun e a w => match e with | .panic _ => False | e => Q e a w) ?_ (fun e a w h => by cases e <;> first | exact h.elim | exact h); refine wp_region_held (S := MemOk σ S.facts ((staticG Γ ops S).contains ·) S β ρ) c.mixed ?_; have c' : Ctx P { Γ with np := true } σ w0 := ⟨c.con, c.base, c.pre, c.lnm, c.mixed, c.keepB, c.news⟩
   refine runAny_den (Q := fun e a w => match e with | .panic _ => False | e => Q e a w) c' rfl (fun _ _ _ h => h) c1 c2 c3 hK _ _ _ S β ρ a _ (d.drawn _) ⟨Alike.refl _ _, Nat.le_refl _, ?_, fun _ h => h, fun _ _ => ⟨rfl, rfl⟩, rfl⟩ h; unfold static; simp
  ·exact h.elim
 ·next hd =>
  have hd : draw = false := by simpa using hd
  subst hd; exact wp_region (runOps_den c hQ _ S β ρ a w d h hK)
end
theorem least_ex (p : Nat → Prop) : ∃ n, (∃ k, p k) → p n ∧ ∀ m, p m → n ≤ m := by
 by_cases h : ∃ k, p k
 ·obtain ⟨k, hk⟩ := h
  induction k using Nat.strongRecOn with
  | _ k ih =>
   by_cases h' : ∃ j, j < k ∧ p j
   ·obtain ⟨j, hj, hp⟩ := h'; exact ih j hj hp
   ·exact ⟨k, fun _ => ⟨hk, fun m hm => Nat.le_of_not_lt fun hl => h' ⟨m, hl, hm⟩⟩⟩
 ·exact ⟨0, fun h' => absurd h' h⟩
theorem wp_loop_rel {P : Program} {c : Code} {Q : Exit → Act → World → Prop} {a : Act} {w : World} (R : Nat → Act → World → Prop) (h0 : ∃ n, R n a w)
  (round : ∀ n a w, R n a w → c.wp P (Exit.then (fun a' w' => ∃ m, m < n ∧ R m a' w') Q) a w) : (Code.loop c).wp P Q a w := by
 refine wp_loop (fun a w => ∃ n, R n a w) (fun a w => Classical.choose (least_ex fun n => R n a w)) h0 ?_; intro a w hI; obtain ⟨hR, hmin⟩ := Classical.choose_spec (least_ex fun n => R n a w) hI; refine wp_mono (round _ a w hR) ?_; intro e a' w' h; cases e with
 | normal =>
  obtain ⟨m, hm, hRm⟩ := h; have h' : ∃ n, R n a' w' := ⟨m, hRm⟩
  obtain ⟨_, hmin'⟩ := Classical.choose_spec (least_ex fun n => R n a' w') h'; exact ⟨h', Nat.lt_of_le_of_lt (hmin' m hRm) hm⟩
 | _ => exact h
def Ex.x : Ex → Exit
 | .normal => .normal
 | .exit id => .exit id
 | .ret => .ret
theorem havoc_terms {rs : List RowS} {n : Nat} {c c' d : C1} {T : St} {s : List Srt} (h : c.havoc rs n = some (c', s)) (hl : c'.like T d = true) (ρ : Nat → U) : (dens ρ d.terms).map U.srt = s := by
 unfold C1.havoc at h; split at h
 all_goals first
  | (injection h with h; injection h with h1 h2; subst h1; subst h2; cases d <;> first | (simp [C1.like] at hl; done) | rfl)
  | skip
 ·rw [Option.map_eq_some_iff] at h; obtain ⟨r, _, h⟩ := h; injection h with h1 h2
  subst h1; subst h2; cases d <;> first | (simp [C1.like] at hl; done) | rfl
 ·cases h
theorem havocL_terms {rs : List RowS} {T : St} (ρ : Nat → U) : ∀ {l : List C1} {n : Nat} {l' : List C1} {s : List Srt}, havocL rs n l = some (l', s) → ∀ {m : List C1}, likes T l' m = true → (dens ρ (m.flatMap C1.terms)).map U.srt = s
 | [], n, l', s, h, m, hl => by
  injection h with h; injection h with h1 h2; subst h1; subst h2
  cases m with
  | nil => rfl
  | cons _ _ => cases hl
 | c :: l, n, l', s, h, m, hl => by
  unfold havocL at h; split at h
  ·next c' s1 hc =>
   split at h
   ·next l1 s2 hl1 =>
    injection h with h; injection h with h1 h2; subst h1; subst h2
    cases m with
    | nil => cases hl
    | cons d m =>
     simp only [likes, Bool.and_eq_true] at hl; rw [List.flatMap_cons, dens_append, List.map_append, havoc_terms hc hl.1 ρ, havocL_terms ρ hl1 hl.2]
   ·cases h
  ·cases h
theorem havoc_den {rs : List RowS} {n : Nat} {c c' d : C1} {T : St} {s : List Srt} {β β' : Beta} {ρ ρ' : Nat → U} (h : c.havoc rs n = some (c', s)) (hl : c'.like T d = true) (hv : dens ρ' (vars n s.length) = dens ρ d.terms) (hβ : β' = β) (hrs : ∀ r ∈ rs, ∀ r', T.rowOf r.m = some r' → (r.n.den ρ').N = (r'.n.den ρ).N) : c'.den β' ρ' = d.den β ρ := by
  subst hβ
  unfold C1.havoc at h
  split at h
  all_goals first
    | (injection h with h; injection h with h1 h2; subst h1; subst h2
       cases d <;> first
         | (simp [C1.like] at hl; done)
         | (simp only [C1.like, beq_iff_eq] at hl
            simp only [C1.terms, List.length_cons, List.length_nil, vars, dens, List.map_cons, List.map_nil, X.den, UOp.den, List.cons.injEq] at hv
            simp [C1.den, X.den, hv, hl, UI, UB, US, UP, UN, UV]; done))
    | skip
  · next m x =>
    rw [Option.map_eq_some_iff] at h
    obtain ⟨r, hr, h⟩ := h
    injection h with h1 h2
    subst h1; subst h2
    have hrm : r.m = m := by have := List.find?_some hr; simpa using this
    have hri := List.mem_of_find?_eq_some hr
    cases d <;> first
      | (simp [C1.like] at hl; done)
      | skip
    next j y =>
      simp only [C1.like, Bool.and_eq_true, beq_iff_eq] at hl
      obtain ⟨rfl, hl⟩ := hl
      split at hl
      · next r' hr' =>
        have e : r'.n = y := by simpa using hl
        have := hrs r hri r' (by rw [hrm]; exact hr')
        simp only [C1.den]
        rw [this, e]
      · cases hl
  · cases h
theorem vars_app (n : Nat) : ∀ j k : Nat, vars n (j + k) = vars n j ++ vars (n + j) k
 | 0, k => by simp [vars]
 | j + 1, k => by
  rw [show j + 1 + k = (j + k) + 1 by omega]; show X.var n :: vars (n + 1) (j + k) = X.var n :: vars (n + 1) j ++ _; rw [vars_app (n + 1) j k, show n + 1 + j = n + (j + 1) by omega]; rfl
theorem split_app {a b c d : List U} (h : a ++ b = c ++ d) (hl : a.length = c.length) : a = c ∧ b = d := by
 have := List.append_inj h hl; exact this
theorem havocL_den {rs : List RowS} {T : St} {β : Beta} {ρ ρ' : Nat → U} (hrs : ∀ r ∈ rs, ∀ r', T.rowOf r.m = some r' → (r.n.den ρ').N = (r'.n.den ρ).N) : ∀ {l : List C1} {n : Nat} {l' : List C1} {s : List Srt}, havocL rs n l = some (l', s) → ∀ {m : List C1}, likes T l' m = true → dens ρ' (vars n s.length) = dens ρ (m.flatMap C1.terms) → l'.map (C1.den β ρ') = m.map (C1.den β ρ)
 | [], n, l', s, h, m, hl, hv => by
  injection h with h; injection h with h1 h2; subst h1; subst h2
  cases m with
  | nil => rfl
  | cons _ _ => cases hl
 | c :: l, n, l', s, h, m, hl, hv => by
  unfold havocL at h; split at h
  ·next c' s1 hc =>
   split at h
   ·next l1 s2 hl1 =>
    injection h with h; injection h with h1 h2; subst h1; subst h2
    cases m with
    | nil => cases hl
    | cons d m =>
     simp only [likes, Bool.and_eq_true] at hl; rw [List.flatMap_cons, dens_append, List.length_append, vars_app, dens_append] at hv; have ht := havoc_terms hc hl.1 ρ; have hlen : (dens ρ' (vars n s1.length)).length = (dens ρ d.terms).length := by
      have h1 : (dens ρ' (vars n s1.length)).length = s1.length := by
       unfold dens; rw [List.length_map]; have : ∀ k n : Nat, (vars n k).length = k := by
        intro k
        induction k with
        | zero => intro _; rfl
        | succ k ih => intro n; show (vars (n + 1) k).length + 1 = _; rw [ih]
       exact this _ _
      rw [h1, ← ht, List.length_map]
     obtain ⟨v1, v2⟩ := split_app hv hlen; rw [List.map_cons, List.map_cons, havoc_den hc hl.1 v1 rfl hrs, havocL_den hrs hl1 hl.2 v2]
   ·cases h
  ·cases h
theorem vars_len : ∀ k n : Nat, (vars n k).length = k
 | 0, _ => rfl
 | k + 1, n => congrArg (· + 1) (vars_len k (n + 1))
theorem dens_len (ρ : Nat → U) (l : List X) : (dens ρ l).length = l.length := List.length_map ..
theorem mapM_cons {α β : Type} {f : α → Option β} {x : α} {l : List α} {vs : List β} (h : (x :: l).mapM f = some vs) : ∃ v vs', f x = some v ∧ l.mapM f = some vs' ∧ vs = v :: vs' := by
 rw [List.mapM_cons] at h; simp only [Option.bind_eq_bind, Option.bind_eq_some_iff, Option.pure_def, Option.some.injEq] at h; obtain ⟨v, hv, vs', hl, rfl⟩ := h; exact ⟨v, vs', hv, hl, rfl⟩
theorem split_vars {ρ ρ' : Nat → U} {n : Nat} {s1 s2 : List Srt} {a b : List X} (h : dens ρ' (vars n (s1 ++ s2).length) = dens ρ (a ++ b)) (hl : a.length = s1.length) : dens ρ' (vars n s1.length) = dens ρ a ∧ dens ρ' (vars (n + s1.length) s2.length) = dens ρ b := by
 rw [List.length_append, vars_app, dens_append, dens_append] at h; exact split_app h (by rw [dens_len, dens_len, vars_len, hl])
theorem havocR_spec {S T : St} {ρ ρ' : Nat → U} : ∀ {l : List Nat} {n : Nat} {rs : List RowS} {s : List Srt} {vs : List (List X)}, havocR S n l = some (rs, s) → rs.mapM (fitR T) = some vs →
  (dens ρ vs.flatten).map U.srt = s ∧ (dens ρ' (vars n s.length) = dens ρ vs.flatten → ∀ r ∈ rs, ∃ q, T.rowOf r.m = some q ∧ q.e = r.e ∧ q.size = r.size ∧ q.bytes = r.bytes ∧ (r.n.den ρ').N = (q.n.den ρ).N ∧ (r.xs.den ρ').L = (q.xs.den ρ).L)
 | [], n, rs, s, vs, h, hv => by
  injection h with h; injection h with h1 h2; subst h1; subst h2
  simp at hv; subst hv; exact ⟨rfl, fun _ r hr => by cases hr⟩
 | m :: l, n, rs, s, vs, h, hv => by
  unfold havocR at h; split at h
  ·next r hr =>
   rw [Option.map_eq_some_iff] at h; obtain ⟨p, hp, h⟩ := h; injection h with h1 h2
   subst h1; subst h2; obtain ⟨v, vs', hf, hl, rfl⟩ := mapM_cons hv; unfold fitR at hf; split at hf
   ·next q hq =>
    split at hf
    ·next hc =>
     injection hf with hf
     subst hf; obtain ⟨i1, i2⟩ := havocR_spec (ρ := ρ) (ρ' := ρ') (rs := p.1) (s := p.2) (by rw [hp]) hl; refine ⟨by rw [List.flatten_cons, dens_append, List.map_append, i1]; rfl, fun hd => ?_⟩; have hsp := split_vars (s1 := [.n, .l]) (s2 := p.2) (a := [X.un (.co .n) q.n, X.un (.co .l) q.xs]) (b := vs'.flatten) hd rfl; obtain ⟨g1, g2⟩ := hsp; simp only [List.length_cons, List.length_nil, vars, dens, List.map_cons, List.map_nil, X.den, UOp.den, List.cons.injEq] at g1; intro r' hr'
     rcases List.mem_cons.1 hr' with rfl | hr'
     ·exact ⟨q, hq, hc.1, hc.2.1, hc.2.2, by simp only [X.den, g1.1, UN], by simp only [X.den, g1.2.1, UL]⟩
     ·exact i2 g2 r' hr'
    ·cases hf
   ·cases hf
  ·cases h
theorem shavoc_terms {rs : List RowS} {T : St} {ρ : Nat → U} {v v' b : SV1} {n : Nat} {s : List Srt} (h : v.havoc rs n = some (v', s)) (hl : v'.like T b = true) : (dens ρ b.terms).map U.srt = s := by
 cases v with
 | one c =>
  simp only [SV1.havoc, Option.map_eq_some_iff] at h; obtain ⟨p, hp, h⟩ := h; injection h with h1 h2
  subst h1; subst h2; cases b with
  | one d => exact havoc_terms (c' := p.1) (by rw [hp]) hl ρ
  | agg _ => cases hl
 | agg l =>
  simp only [SV1.havoc, Option.map_eq_some_iff] at h; obtain ⟨p, hp, h⟩ := h; injection h with h1 h2
  subst h1; subst h2; cases b with
  | one d => cases hl
  | agg m => exact havocL_terms ρ (l' := p.1) (by rw [hp]) hl
theorem shavoc_den {rs : List RowS} {T : St} {β : Beta} {ρ ρ' : Nat → U} (hrs : ∀ r ∈ rs, ∀ r', T.rowOf r.m = some r' → (r.n.den ρ').N = (r'.n.den ρ).N) {v v' b : SV1} {n : Nat} {s : List Srt} (h : v.havoc rs n = some (v', s)) (hl : v'.like T b = true) (hv : dens ρ' (vars n s.length) = dens ρ b.terms) : v'.den β ρ' = b.den β ρ := by
 cases v with
 | one c =>
  simp only [SV1.havoc, Option.map_eq_some_iff] at h; obtain ⟨p, hp, h⟩ := h; injection h with h1 h2
  subst h1; subst h2; cases b with
  | one d => exact havoc_den (c' := p.1) (by rw [hp]) hl hv rfl hrs
  | agg _ => cases hl
 | agg l =>
  simp only [SV1.havoc, Option.map_eq_some_iff] at h; obtain ⟨p, hp, h⟩ := h; injection h with h1 h2
  subst h1; subst h2; cases b with
  | one d => cases hl
  | agg m => simp only [SV1.den, havocL_den hrs (l' := p.1) (s := p.2) (by rw [hp]) hl hv]
theorem terms_len {ρ : Nat → U} {l : List X} {s : List Srt} (h : (dens ρ l).map U.srt = s) : l.length = s.length := by
 rw [← h, List.length_map, dens_len]
theorem havocS_spec {rs : List RowS} {S T : St} {β : Beta} {ρ ρ' : Nat → U} : ∀ {l : List Nat} {n : Nat} {fs : List (Nat × SV)} {s : List Srt} {vs : List (List X)}, havocS rs S n l = some (fs, s) → fs.mapM (fitF T) = some vs →
  (dens ρ vs.flatten).map U.srt = s ∧ ((∀ r ∈ rs, ∀ r', T.rowOf r.m = some r' → (r.n.den ρ').N = (r'.n.den ρ).N) → dens ρ' (vars n s.length) = dens ρ vs.flatten → ∀ p ∈ fs, ∃ b, T.get p.1 = some b ∧ p.2.den β ρ' = b.den β ρ)
 | [], n, fs, s, vs, h, hv => by
  injection h with h; injection h with h1 h2; subst h1; subst h2
  simp at hv; subst hv; exact ⟨rfl, fun _ _ p hp => by cases hp⟩
 | t :: l, n, fs, s, vs, h, hv => by
  unfold havocS at h; split at h
  ·next v hvv =>
   split at h
   ·next v' s1 hs1 =>
    rw [Option.map_eq_some_iff] at h; obtain ⟨p, hp, h⟩ := h; injection h with h1 h2
    subst h1; subst h2; obtain ⟨u, vs', hf, hl, rfl⟩ := mapM_cons hv; unfold fitF at hf; simp only at hf; split at hf
    ·next a b he hb =>
     have he : SV.s v' = SV.s a := he; injection he with he
     subst he; split at hf
     ·next hlk =>
      injection hf with hf
      subst hf; obtain ⟨i1, i2⟩ := havocS_spec (β := β) (ρ := ρ) (ρ' := ρ') (fs := p.1) (s := p.2) (by rw [hp]) hl; have ht := shavoc_terms (ρ := ρ) hs1 hlk; refine ⟨by rw [List.flatten_cons, dens_append, List.map_append, i1, ht], fun hrs hd => ?_⟩; obtain ⟨g1, g2⟩ := split_vars (s1 := s1) (s2 := p.2) (a := b.terms) (b := vs'.flatten) hd (by rw [← ht, List.length_map, dens_len]); intro x hx
      rcases List.mem_cons.1 hx with rfl | hx
      ·exact ⟨_, hb, shavoc_den hrs hs1 hlk g1⟩
      ·exact i2 hrs g2 x hx
     ·cases hf
    ·cases hf
   ·cases h
  ·cases h
theorem havocB_spec {rs : List RowS} {S T : St} {β : Beta} {ρ ρ' : Nat → U} : ∀ {l : List Nat} {n : Nat} {bs : List (Nat × Nat × List C1)} {s : List Srt} {vs : List (List X)}, havocB rs S n l = some (bs, s) → bs.mapM (fitB T) = some vs →
  (dens ρ vs.flatten).map U.srt = s ∧ ((∀ r ∈ rs, ∀ r', T.rowOf r.m = some r' → (r.n.den ρ').N = (r'.n.den ρ).N) → dens ρ' (vars n s.length) = dens ρ vs.flatten → ∀ q ∈ bs, ∃ cs, T.block q.1 = some (q.2.1, cs) ∧ q.2.2.map (C1.den β ρ') = cs.map (C1.den β ρ))
 | [], n, fs, s, vs, h, hv => by
  injection h with h; injection h with h1 h2; subst h1; subst h2
  simp at hv; subst hv; exact ⟨rfl, fun _ _ p hp => by cases hp⟩
 | m :: l, n, fs, s, vs, h, hv => by
  unfold havocB at h; split at h
  ·next t cs hb0 =>
   split at h
   ·next cs' s1 hs1 =>
    rw [Option.map_eq_some_iff] at h; obtain ⟨p, hp, h⟩ := h; injection h with h1 h2
    subst h1; subst h2; obtain ⟨u, vs', hf, hl, rfl⟩ := mapM_cons hv; unfold fitB at hf; simp only at hf; split at hf
    ·next t' ds hb =>
     split at hf
     ·next hc =>
      obtain ⟨rfl, hlk⟩ := hc; injection hf with hf
      subst hf; obtain ⟨i1, i2⟩ := havocB_spec (β := β) (ρ := ρ) (ρ' := ρ') (bs := p.1) (s := p.2) (by rw [hp]) hl; have ht := havocL_terms ρ hs1 hlk; refine ⟨by rw [List.flatten_cons, dens_append, List.map_append, i1, ht], fun hrs hd => ?_⟩; obtain ⟨g1, g2⟩ := split_vars (s1 := s1) (s2 := p.2) (a := ds.flatMap C1.terms) (b := vs'.flatten) hd (by rw [← ht, List.length_map, dens_len]); intro x hx
      rcases List.mem_cons.1 hx with rfl | hx
      ·exact ⟨ds, hb, havocL_den hrs hs1 hlk g1⟩
      ·exact i2 hrs g2 x hx
     ·cases hf
    ·cases hf
   ·cases h
  ·cases h
theorem headOf_spec {A : LoopA} {body : Code} {S : St} {H : Head} (h : headOf A body S = some H) : ∃ s0 s1 s2, havocR S S.nv A.rows = some (H.row, s0) ∧ havocS (H.row ++ S.row.filter fun r => !A.rows.contains r.m) S (S.nv + s0.length) A.slots = some (H.fr, s1) ∧ havocB (H.row ++ S.row.filter fun r => !A.rows.contains r.m) S (S.nv + s0.length + s1.length) A.blks = some (H.blk, s2) ∧ H.srts = s0 ++ s1 ++ s2 ∧ H.S.nt = S.nt ∧ H.S.nv = S.nv ∧ H.S.fr.Sublist S.fr ∧ H.S.blk.Sublist S.blk ∧ H.S.row = (S.row.filter fun r => !A.rows.contains r.m) ∧ H.S.facts = S.facts ∧ H.S.exp.Sublist S.exp ∧ H.S.known = S.known := by
 unfold headOf at h; split at h
 ·cases h
 ·next rs s0 h0 =>
  dsimp only at h; split at h
  ·cases h
  ·next fs s1 h1 =>
   split at h
   ·cases h
   ·next bs s2 h2 =>
    injection h with h
    subst h; exact ⟨s0, s1, s2, h0, h1, h2, rfl, rfl, rfl, List.filter_sublist, List.filter_sublist, rfl, rfl, List.filter_sublist, rfl⟩
theorem fits_spec {H : Head} {T : St} {vs : List X} (h : fits H T = some vs) : T.nt = H.S.nt ∧ (∀ p ∈ H.S.fr, T.get p.1 = some p.2) ∧ (∀ q ∈ H.S.blk, T.blk.lookup q.1 = some q.2) ∧ (∀ r ∈ H.S.row, T.rowOf r.m = some r) ∧ (∀ F ∈ H.S.facts, F ∈ T.facts) ∧ (∀ e ∈ H.S.exp, T.exp.lookup e.1 = some e.2) ∧ ∃ a b c, H.row.mapM (fitR T) = some a ∧ H.fr.mapM (fitF T) = some b ∧ H.blk.mapM (fitB T) = some c ∧ vs = a.flatten ++ b.flatten ++ c.flatten := by
 unfold fits at h; dsimp only at h; split at h
 ·next a b c h0 h1 h2 h3 =>
  injection h with h
  subst h; simp only [Bool.and_eq_true, List.all_eq_true, beq_iff_eq] at h0; obtain ⟨⟨⟨⟨⟨g0, g1⟩, g2⟩, g3⟩, g4⟩, g5⟩ := h0; exact ⟨g0, g1, g2, g3, fun F hF => by simpa using g4 F hF, g5, a, b, c, h1, h2, h3, rfl⟩
 ·cases h
theorem nodup_names {α : Type} {g f : α → Nat} : ∀ {l : List α}, (l.map f).Nodup → (∀ x ∈ l, ∀ y ∈ l, f x ≠ f y → g x ≠ g y) → (l.map g).Nodup
 | [], _, _ => List.nodup_nil
 | x :: l, h, hi => by
  rw [List.map_cons, List.nodup_cons] at h ⊢
  refine ⟨fun hm => ?_, nodup_names h.2 fun y hy z hz => hi y (List.mem_cons_of_mem _ hy) z (List.mem_cons_of_mem _ hz)⟩; obtain ⟨y, hy, e⟩ := List.mem_map.1 hm; exact hi y (List.mem_cons_of_mem _ hy) x (List.mem_cons_self ..) (fun e' => h.1 (List.mem_map.2 ⟨y, hy, e'⟩)) e
theorem nodup_rows {β : Beta} : ∀ {l : List RowS}, (l.map RowS.m).Nodup → (∀ x ∈ l, ∀ y ∈ l, x.m ≠ y.m → ∀ A B, (β.row x.m).1 = some A → (β.row y.m).1 = some B → A.block ≠ B.block) → (l.filterMap fun r => (β.row r.m).1.map Addr.block).Nodup
 | [], _, _ => List.nodup_nil
 | x :: l, h, hi => by
  rw [List.map_cons, List.nodup_cons] at h; have ih := nodup_rows h.2 fun y hy z hz => hi y (List.mem_cons_of_mem _ hy) z (List.mem_cons_of_mem _ hz)
  rw [List.filterMap_cons]; split
  ·exact ih
  ·next b hb =>
   refine List.nodup_cons.2 ⟨fun hm => ?_, ih⟩; obtain ⟨y, hy, e⟩ := List.mem_filterMap.1 hm; rw [Option.map_eq_some_iff] at e hb; obtain ⟨B, hB, e⟩ := e; obtain ⟨A, hA, e'⟩ := hb; exact hi y (List.mem_cons_of_mem _ hy) x (List.mem_cons_self ..) (fun e' => h.1 (List.mem_map.2 ⟨y, hy, e'⟩)) B A hB hA (e.trans e'.symm)
section
variable {σ : Sm} {S T : St} {β : Beta} {ρ ρT ρ' : Nat → U} {w0 : World} {a : Act} {w : World}
theorem head_den {A : LoopA} {body : Code} {H : Head} {vs : List X} {nv r : Nat} {hv : List X} (d : Den σ T β ρT w0 a w) (hH : headOf A body S = some H) (hf : fits H T = some vs) (hS : S.ok = true) (h0 : Alike S.nv ρ ρT) (h1 : Alike S.nv ρ ρ')
  (hvs : dens ρ' (vars S.nv H.srts.length) = dens ρT vs) (hn1 : ((H.at_ nv r hv).blk.map (·.1)).Nodup) (hn2 : ((H.at_ nv r hv).row.map (·.m)).Nodup)
  (hkS : ∀ c ∈ S.known, c.holds ρ) (hI : ∀ u, σ.pre0 u → (∀ F ∈ T.facts, F.den σ ρT u) → (FX.inv r hv).den σ ρ' u) : Den σ (H.at_ nv r hv) β ρ' w0 a w := by
 obtain ⟨s0, s1, s2, hr, hs, hb, hsr, e1, e2, e3, e4, e5, e6, e7, e8⟩ := headOf_spec hH; obtain ⟨f1, f2, f3, f4, f5, f6, va, vb, vc, m1, m2, m3, rfl⟩ := fits_spec hf; have h01 : Alike S.nv ρT ρ' := fun k hk => (h1 k hk).trans (h0 k hk).symm
 have hu := hS; unfold St.ok St.upto at hu; simp only [Bool.and_eq_true, List.all_eq_true] at hu; obtain ⟨⟨⟨⟨⟨u1, u2⟩, u3⟩, u4⟩, u5⟩, u6⟩ := hu; obtain ⟨r1, r2⟩ := havocR_spec (ρ := ρT) (ρ' := ρ') hr m1; rw [hsr] at hvs; have hlab : (va.flatten ++ vb.flatten).length = (s0 ++ s1).length := by
  obtain ⟨q1, _⟩ := havocS_spec (β := β) (ρ := ρT) (ρ' := ρ') hs m2; rw [List.length_append, List.length_append, terms_len r1, terms_len q1]
 obtain ⟨v12, v3⟩ := split_vars hvs hlab; obtain ⟨v1, v2⟩ := split_vars v12 (terms_len r1); have r2 := r2 v1; have hall : ∀ x ∈ H.row ++ S.row.filter (fun r => !A.rows.contains r.m), ∀ r', T.rowOf x.m = some r' → (x.n.den ρ').N = (r'.n.den ρT).N := by
  intro x hx r' hr'
  rcases List.mem_append.1 hx with hx | hx
  ·obtain ⟨q, hq, _, _, _, hn, _⟩ := r2 x hx; rw [hq] at hr'; injection hr' with hr'
   subst hr'; exact hn
  ·have hx' : x ∈ H.S.row := by rw [e5]; exact hx
   have := f4 x hx'; rw [this] at hr'; injection hr' with hr'
   subst hr'; rw [X.den_alike h01 _ (u3 x (List.mem_filter.1 hx).1).1]
 obtain ⟨q1, q2⟩ := havocS_spec (β := β) (ρ := ρT) (ρ' := ρ') hs m2; have q2 := q2 hall v2; obtain ⟨p1, p2⟩ := havocB_spec (β := β) (ρ := ρT) (ρ' := ρ') hb m3; rw [List.length_append, ← Nat.add_assoc] at v3; have p2 := p2 hall v3
 -- every block, every row of the head is one of the state's
 have inB : ∀ q ∈ (H.at_ nv r hv).blk, ∃ cs, (q.1, q.2.1, cs) ∈ T.blk ∧ q.2.2.map (C1.den β ρ') = cs.map (C1.den β ρT) := by
  intro q hq
  rcases List.mem_append.1 hq with hq | hq
  ·obtain ⟨cs, hc, he⟩ := p2 q hq; exact ⟨cs, lookup_blk hc, he⟩
  ·have := f3 q hq; exact ⟨q.2.2, lookup_mem this, cells_alike h01 β _ (List.all_eq_true.2 (u2 q (e4.subset hq)))⟩
 have inR : ∀ x ∈ (H.at_ nv r hv).row, ∃ q ∈ T.row, q.m = x.m ∧ q.e = x.e ∧ q.size = x.size ∧ (x.n.den ρ').N = (q.n.den ρT).N ∧ (x.xs.den ρ').L = (q.xs.den ρT).L := by
  intro x hx
  rcases List.mem_append.1 hx with hx | hx
  ·obtain ⟨q, hq, g1, g2, _, g3, g4⟩ := r2 x hx; exact ⟨q, rowOf_mem hq, rowOf_m hq, g1, g2, g3, g4⟩
  ·have := f4 x hx; have hxS : x ∈ S.row := by rw [e5] at hx; exact (List.mem_filter.1 hx).1
   have := u3 x hxS; exact ⟨x, rowOf_mem (f4 x hx), rfl, rfl, rfl, by rw [X.den_alike h01 _ this.1], by rw [X.den_alike h01 _ this.2]⟩
 have hft : ∀ b ∈ foot β (H.at_ nv r hv), b ∈ foot β T := by
  intro b hbm
  rcases List.mem_append.1 hbm with hbm | hbm
  ·obtain ⟨q, hq, rfl⟩ := List.mem_map.1 hbm; obtain ⟨cs, hc, _⟩ := inB q hq; exact List.mem_append_left _ (List.mem_map.2 ⟨_, hc, rfl⟩)
  ·obtain ⟨x, hx, he⟩ := List.mem_filterMap.1 hbm; obtain ⟨q, hq, hm, _⟩ := inR x hx; exact List.mem_append_right _ (List.mem_filterMap.2 ⟨q, hq, by rw [hm]; exact he⟩)
 refine ⟨d.df, d.nt.trans f1, ?_, ?_, ?_, ?_, hn2, ?_, ?_, (fun c hc => by
  have hc : c ∈ H.S.known := hc; rw [e8] at hc; exact (X.holds_alike h1 c (u6 c hc)).2 (hkS c hc)), d.bl⟩
 ·intro t v hvv
  rcases List.mem_append.1 (lookup_mem hvv) with hm | hm
  ·obtain ⟨b, hb1, hb2⟩ := q2 _ hm; rw [hb2]; exact d.fr t b hb1
  ·rw [SV.den_alike h01 β v (u1 _ (e3.subset hm))]; exact d.fr t v (f2 _ hm)
 ·intro q hq; obtain ⟨cs, hc, he⟩ := inB q hq; rw [he]; exact d.bk _ hc
 ·intro x hx; obtain ⟨q, hq, g1, g2, g3, g4, g5⟩ := inR x hx; rw [← g1, ← g2, ← g3, g4, g5]; exact d.rw q hq
 ·refine List.nodup_append.2 ⟨?_, ?_, ?_⟩
  ·refine nodup_names (f := fun q : Nat × Nat × List C1 => q.1) hn1 fun x hx y hy hne => ?_
   obtain ⟨cx, hcx, _⟩ := inB x hx; obtain ⟨cy, hcy, _⟩ := inB y hy; exact d.blk_ne (q := (x.1, x.2.1, cx)) (q' := (y.1, y.2.1, cy)) hcx hcy hne
  ·refine nodup_rows hn2 fun x hx y hy hne A B hA hB => ?_
   obtain ⟨qx, hqx, gx, _⟩ := inR x hx; obtain ⟨qy, hqy, gy, _⟩ := inR y hy; exact d.rows_ne hqx hqy (by rw [gx, gy]; exact hne) (by rw [gx]; exact hA) (by rw [gy]; exact hB)
  ·intro x hx y hy e; subst e; obtain ⟨q, hq, rfl⟩ := List.mem_map.1 hx; obtain ⟨z, hz, he⟩ := List.mem_filterMap.1 hy; obtain ⟨cs, hc, _⟩ := inB q hq; obtain ⟨y, hy', gy, _⟩ := inR z hz; rw [Option.map_eq_some_iff] at he; obtain ⟨B, hB, he⟩ := he; exact d.row_ne hc hy' (by rw [gy]; exact hB) he
 ·intro e he; have := f6 e he; have hup := u5 e (e7.subset he); rw [X.den_alike h01 _ hup.1, X.den_alike h01 _ hup.2]; exact d.ex _ (lookup_mem this)
 ·intro F hF u hp hsm; have hTf : ∀ F ∈ T.facts, F.den σ ρT u := fun F hF => d.fx F hF u hp fun b hb hl hn => hsm b hb hl fun hm => hn (hft b hm)
  rcases List.mem_append.1 hF with hF | hF
  ·have hFS : F ∈ S.facts := by rw [e6] at hF; exact hF
   exact (FX.den_alike h01 σ u F (u4 F hFS)).2 (hTf F (f5 F hF))
  ·have := List.mem_singleton.1 hF; subst this; exact hI u hp hTf
theorem head_terms {A : LoopA} {body : Code} {H : Head} {vs : List X} (hH : headOf A body S = some H) (hf : fits H T = some vs) (ρ : Nat → U) : (dens ρ vs).map U.srt = H.srts := by
 obtain ⟨s0, s1, s2, hr, hs, hb, hsr, _⟩ := headOf_spec hH; obtain ⟨_, _, _, _, _, _, va, vb, vc, m1, m2, m3, rfl⟩ := fits_spec hf; rw [hsr, dens_append, dens_append, List.map_append, List.map_append, (havocR_spec (ρ' := ρ) hr m1).1, (havocS_spec (β := ⟨fun _ => 0, fun _ => (none, 0), fun _ => undef⟩) (ρ' := ρ) hs m2).1, (havocB_spec (β := ⟨fun _ => 0, fun _ => (none, 0), fun _ => undef⟩) (ρ' := ρ) hb m3).1]
end
end Go.Proofs.Ytlfonmpgenoooaa.Vc
