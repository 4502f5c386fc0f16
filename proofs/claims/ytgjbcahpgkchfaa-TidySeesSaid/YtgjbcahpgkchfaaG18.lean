/- Of the texts VcT. -/
import Derived.Test.YtgjbcahpgkchfaaG17
import Derived.Lib.ConvBytes
set_option linter.unusedSimpArgs false
set_option linter.unusedVariables false
namespace Go.Proofs.Ytgjbcahpgkchfaa.Vc
open Go Go.RowKit
section
variable {P : Program} {Γ : Cfg} {σ : Sm} {S : St} {k : St → VC} {β : Beta} {ρ : Nat → U} {a : Act} {w w0 : World} {dst : Option Nat} {type : Nat} {pos : String} {after : Array Edge} {guard : Option (Nat × Bool)} {K : Act → World → Prop} {Q : Exit → Act → World → Prop} {o : Oper}
theorem Den.world (d : Den σ S β ρ w0 a w) {w' : World} (hsz : w.heap.size ≤ w'.heap.size) (hold : ∀ k, k < w.heap.size → w'.heap[k]? = w.heap[k]?) (hb : Kept σ.lent σ.base w0 w') : Den σ S β ρ w0 a w' := by
 refine ⟨d.df, d.nt, d.fr, fun q hq => ?_, fun r hr => ?_, d.nd, d.rn, d.ex, ?_, d.kn, hb⟩
 ·have := d.bk q hq; rw [hold _ (lt_of_some this.1)]; exact this
 ·refine owns_same (d.rw r hr) fun g hg => ?_
  obtain ⟨p, hp, rfl⟩ := ownBlock_slice hg; exact hold _ (d.foot_lt _ (List.mem_append_right _ (List.mem_filterMap.2 ⟨r, hr, by rw [hp]; rfl⟩))).1
 ·exact fx_step d.fx hsz (fun b _ hb _ => hold b hb) fun b _ hm => hm
theorem freeze_same (w : World) (x : Addr) (n : Nat) : (w.freeze x n).os = w.os ∧ (w.freeze x n).tape = w.tape ∧ (w.freeze x n).output = w.output := by
 unfold World.freeze; split <;> exact ⟨rfl, rfl, rfl⟩
theorem bytes_kept {L : Nat → Prop} {B : Nat} {e : Nat} {s : ByteArray} (h : Kept L B w0 w) (hB : B ≤ w.heap.size) : Kept L B w0 (Lib.bytesWorld w e s) := by
 have h1 := (h.drew.alloc (by exact hB) (.cells (Lib.bytesCells w e s) e))
 obtain ⟨f1, f2, f3⟩ := freeze_same (w.drew.alloc (.cells (Lib.bytesCells w e s) e)) ⟨w.heap.size, (Lib.bytesCells w e s).size, none⟩ 1; refine ⟨f1.trans h1.os, f2.trans h1.tape, f3.trans h1.output, ?_, fun j hj hn => ?_⟩
 ·rw [Lib.bytesWorld_size]; exact Nat.le_trans h.size (Nat.le_succ _)
 ·rw [Lib.bytesWorld_at_old w e s j (by omega)]; exact h.block j hj hn
theorem a_assign {x : Operand} (d : Den σ S β ρ w0 a w) (hact : isAct P Γ ⟨dst, .assign x, type, pos, after, guard⟩ S = true) (h : (act P Γ ⟨dst, .assign x, type, pos, after, guard⟩ S k).den σ ρ) (hb : σ.base ≤ w.heap.size) (hK : ∀ a' w', AOut σ S k β ρ w0 (touch ⟨dst, .assign x, type, pos, after, guard⟩ S) a' w' → K a' w') : Oper.wp P ⟨dst, .assign x, type, pos, after, guard⟩ a w K Q := by
 unfold act at h; split at h
 all_goals first | (next e => simp only [reduceCtorEq] at e) | skip
 ·next e =>
  simp only [Op.assign.injEq] at e; subst e; split at h
  ·next dd e hd he =>
   split at h
   ·next i S1 hi hS1 =>
    split at h
    ·exact h.elim
    ·next hz =>
     have hd : dst = some dd := hd; subst hd; refine wp_value (v := .slice none 0 0) (w' := w) rfl (hK _ _ ?_); obtain ⟨β', hn, hm, hd'⟩ := d.addRow (r := ⟨dd, e, i.size, i.bytes, .nat 0, .lnil⟩) (A := none) (c := 0) (w' := w) hS1 (World.ownsRow_nil _ _ _ _) (Nat.le_refl _) (fun _ _ => rfl) (fun _ h => by cases h) d.bl; refine ⟨_, β', ρ, h, ?_, Alike.refl _ _, hn.wide (fun _ h => h.elim) (fun m h => ?_), by rw [put_nv]; exact Nat.le_of_eq (dropRow_nv hS1).symm⟩
     ·have := hd'.put (some dd) (.s (.one (.row dd (.nat 0)))); have e : (SV.s (.one (.row dd (.nat 0)))).den β' ρ = .slice none 0 0 := by
       show Value.slice (β'.row dd).1 0 (β'.row dd).2 = _; have hm : β'.row dd = (none, 0) := hm; rw [hm]
      rw [e] at this; exact this
     ·have h : m = dd := h; subst h; simp [touch]
   ·exact h.elim
  ·exact h.elim
 ·next e =>
  simp only [Op.assign.injEq] at e; subst e; split at h
  ·next m n hx =>
   obtain ⟨S1, ρ1, h, d1, a1, n1, f1, _⟩ := expose_den _ S ρ _ d h; split at h
   ·next e he =>
    have hv : a.eval x = (SV.s (.one (.row m n))).den β ρ := opd_den d.fr hx; have hx1 : S1.opd x = some (.s (.one (.row m n))) := by
     cases x <;> simp only [St.opd, St.get, f1] at hx ⊢ <;> exact hx
    have hv1 : a.eval x = (SV.s (.one (.row m n))).den β ρ1 := opd_den d1.fr hx1; have he1 := d1.ex _ (lookup_mem he); refine wp_value (v := a.eval x) (w' := w) rfl (hK _ _ ⟨_, β, ρ1, h, ?_, a1, Near.refl _ _ _, by rw [put_nv]; exact n1⟩); have := d1.put dst (.s (.one (.slc e.1 n e.2))); have e2 : (SV.s (.one (.slc e.1 n e.2))).den β ρ1 = a.eval x := by
     rw [hv1]; show Value.slice _ _ _ = Value.slice (β.row m).1 _ (β.row m).2; have he1 : β.row m = ((e.1.den ρ1).P, (e.2.den ρ1).N) := he1; rw [he1]
    rw [e2] at this; exact this
   ·exact h.elim
  ·exact h.elim
 ·exact h.elim
theorem a_convert {s t : Nat} {x : Operand} (d : Den σ S β ρ w0 a w) (h : (act P Γ ⟨dst, .convert s t x, type, pos, after, guard⟩ S k).den σ ρ) (hb : σ.base ≤ w.heap.size) (hK : ∀ a' w', AOut σ S k β ρ w0 (touch ⟨dst, .convert s t x, type, pos, after, guard⟩ S) a' w' → K a' w') : Oper.wp P ⟨dst, .convert s t x, type, pos, after, guard⟩ a w K Q := by
 unfold act at h; simp only at h; split at h
 ·next e q hs ht hx =>
  split at h
  ·next he =>
   split at h
   ·next hc =>
    simp only [Bool.and_eq_true] at hc; obtain ⟨hok, hq⟩ := hc
    let p : U := .p (some ⟨w.heap.size, 0, none⟩)
    let c : U := .n (grownCap w (q.den ρ).S.size 0 e)
    have h := h (some ⟨w.heap.size, 0, none⟩) (grownCap w (q.den ρ).S.size 0 e); have a1 : Alike S.nv ρ (upd ρ S.nv p) := Alike.upd _ _ _; have a2 : Alike (S.nv + 1) (upd ρ S.nv p) (upd (upd ρ S.nv p) (S.nv + 1) c) := Alike.upd _ _ _; have a3 := a1.trans a2 (Nat.le_succ _); generalize hρ : upd (upd ρ S.nv p) (S.nv + 1) c = ρ2 at *; have v1 : ρ2 S.nv = p := by rw [a2 S.nv (Nat.lt_succ_self _), upd_self]
    have v2 : ρ2 (S.nv + 1) = c := by rw [← hρ, upd_self]
    have hqs : q.den ρ2 = q.den ρ := X.den_alike a3 q hq; have d1 := ((d.alike a3 hok).world (w' := Lib.bytesWorld w e (q.den ρ).S) (by rw [Lib.bytesWorld_size]; exact Nat.le_succ _) (fun j hj => Lib.bytesWorld_at_old w e _ j hj) (bytes_kept d.bl hb)).nv (S.nv + 2); have hnew : (Lib.bytesWorld w e (q.den ρ).S).heap.size = w.heap.size + 1 := Lib.bytesWorld_size ..; have hnf : w.heap.size ∉ foot β S := fun hm => by have := (d.foot_lt _ hm).1; omega
    have d2 := d1.addFact (F := .bytes (.var S.nv) q) fun u _ hsm => by
     show ∃ g, (ρ2 S.nv).P = some ⟨g, 0, none⟩ ∧ ∀ j, j < (q.den ρ2).S.size → u.cell? ⟨g, j, none⟩ = some (.int .u8 ((q.den ρ2).S.data.toList.getD j 0).toNat); rw [v1, hqs]; refine ⟨w.heap.size, rfl, fun j hj => ?_⟩; have hsame := hsm w.heap.size hb (by rw [hnew]; exact Nat.lt_succ_self _) hnf; rw [World.cell?_of_block (a := ⟨w.heap.size, j, none⟩) hsame]; exact Lib.bytesWorld_cell w e _ j hj
    have d3 : Den σ { S with nv := S.nv + 2, facts := S.facts ++ [FX.bytes (.var S.nv) q], known := X.un .not (.un .isnil (.var S.nv)) :: S.known } β ρ2 w0 a (Lib.bytesWorld w e (q.den ρ).S) := by
     refine ⟨d2.df, d2.nt, d2.fr, d2.bk, d2.rw, d2.nd, d2.rn, d2.ex, d2.fx, fun z hz => ?_, d2.bl⟩
     rcases List.mem_cons.1 hz with rfl | hz
     ·refine (X.holds_iff ρ2 _).2 ?_; show (!(ρ2 S.nv).P.isNone) = true; rw [v1]; rfl
     ·exact d2.kn z hz
    have hr : (execOp a.eval ⟨dst, .convert s t x, type, pos, after, guard⟩).run P w = .ok (.value (.slice (some ⟨w.heap.size, 0, none⟩) (q.den ρ).S.size (grownCap w (q.den ρ).S.size 0 e))) (Lib.bytesWorld w e (q.den ρ).S) := by
     show (do pure (.value (← convert s t (a.eval x))) : Sem Next).run P w = _; rw [opd_den d.fr hx]; exact run_v (Lib.run_convert_string_bytes w s t e (q.den ρ).S hs ht he)
    refine wp_value hr (hK _ _ ⟨_, β, ρ2, h, ?_, a3, Near.refl _ _ _, by rw [put_nv]; show S.nv ≤ S.nv + 2; omega⟩); have := d3.put dst (.s (.one (.slc (.var S.nv) (.un .size q) (.var (S.nv + 1))))); have e : (SV.s (.one (.slc (.var S.nv) (.un .size q) (.var (S.nv + 1))))).den β ρ2 = .slice (some ⟨w.heap.size, 0, none⟩) (q.den ρ).S.size (grownCap w (q.den ρ).S.size 0 e) := by
     show Value.slice (ρ2 S.nv).P (q.den ρ2).S.size (ρ2 (S.nv + 1)).N = _; rw [v1, v2, hqs]; rfl
    rw [e] at this; exact this
   ·exact h.elim
  ·exact h.elim
 ·exact h.elim
theorem a_panic {x : Operand} (d : Den σ S β ρ w0 a w) (h : (act P Γ ⟨dst, .panic x, type, pos, after, guard⟩ S k).den σ ρ) (hlk : ∀ q ∈ Γ.keepB, ∃ b, σ.lnames.lookup q.1 = some b) (hQ : Γ.np = false → ∀ ch w', σ.pan0 ch → Kept σ.lent σ.base w0 w' → KeepB Γ σ a w' → Q (.panic ch) a w') : Oper.wp P ⟨dst, .panic x, type, pos, after, guard⟩ a w K Q := by
  unfold act at h
  simp only at h
  split at h
  · exact h.elim
  · next hn =>
   split at h
   · exact h.elim
   · next hko =>
    have hko : keepOk Γ S = true := by simpa using hko
    split at h
    · next t y hx =>
      have hr : (execOp a.eval ⟨dst, .panic x, type, pos, after, guard⟩).run P w = .halt (.panic (.iface t (y.den ρ).V)) w := by
        show (do pure (.value (← Instr.panic (a.eval x))) : Sem Next).run P w = _
        rw [opd_den d.fr hx]
        rfl
      unfold Oper.wp
      rw [hr]
      exact hQ (by simpa using hn) _ w h d.bl (keepOk_den (ms := []) hlk d hko (by simp) (fun _ _ _ _ => rfl) fun m hm => by cases hm)
    · exact h.elim
theorem Den.recell (d : Den σ S β ρ w0 a w) {m t : Nat} {cs new : List C1} (hm : S.block m = some (t, cs)) (he : new.map (C1.den β ρ) = cs.map (C1.den β ρ)) : Den σ (S.setBlk m new) β ρ w0 a w := by
 have hmem : (m, t, cs) ∈ S.blk := lookup_mem hm; have hfoot : foot β (S.setBlk m new) = foot β S := by
  unfold foot St.setBlk; simp only [List.map_map]
  congr 1
  refine List.map_congr_left fun q _ => ?_
  simp only [Function.comp_apply]; split
  ·next e => rw [e]
  ·rfl
 refine ⟨d.df, d.nt, d.fr, ?_, d.rw, by rw [hfoot]; exact d.nd, d.rn, d.ex, by rw [hfoot]; exact d.fx, d.kn, d.bl⟩; intro q hq; obtain ⟨q0, hq0, rfl⟩ := List.mem_map.1 hq; split
 ·next e =>
  have e2 : q0 = (m, t, cs) := nodup_map_inj (f := fun q : Nat × Nat × List C1 => β.blk q.1) (List.nodup_append.1 d.nd).1 hq0 hmem (by rw [e]); subst e2; show w.heap[β.blk m]? = some (.cells (new.map (C1.den β ρ)).toArray t (0, 0)) ∧ _; rw [he]; exact d.bk _ hmem
 ·exact d.bk q0 hq0
theorem adopt1_den (q : Nat × Nat × Nat) (d : Den σ S β ρ w0 a w) : ∃ β', Near (fun _ => False) (· = cname q.1 q.2.1) β β' ∧ Den σ (adopt1 P q S) β' ρ w0 a w ∧ (adopt1 P q S).nv = S.nv := by
 unfold adopt1; split
 ·next t cs i S1 hb hi hS1 =>
  split
  ·next hc =>
   obtain ⟨hj, hz, hz2⟩ := hc; obtain ⟨β', hn, hm, hd⟩ := d.addRow (r := ⟨cname q.1 q.2.1, q.2.2, i.size, i.bytes, .nat 0, .lnil⟩) (A := none) (c := 0) (w' := w) hS1 (World.ownsRow_nil _ _ _ _) (Nat.le_refl _) (fun _ _ => rfl) (fun _ h => by cases h) d.bl; refine ⟨β', hn, ?_, (show S1.nv = S.nv from dropRow_nv hS1)⟩; have hblk : S1.blk = S.blk := by
    unfold St.dropRow at hS1; rw [Option.map_eq_some_iff] at hS1; obtain ⟨S2, h2, rfl⟩ := hS1; unfold St.unrow at h2; split at h2
    ·cases h2
    ·injection h2 with h2
     subst h2; rfl
   refine hd.recell (t := t) (cs := cs) (by show S1.blk.lookup q.1 = _; rw [hblk]; exact hb) ?_; rw [List.map_set]; have : (C1.row (cname q.1 q.2.1) (.nat 0)).den β' ρ = (C1.slc .pnil (.nat 0) (.nat 0)).den β' ρ := by
    show Value.slice (β'.row _).1 0 (β'.row _).2 = Value.slice none 0 0; have hm : β'.row (cname q.1 q.2.1) = (none, 0) := hm; rw [hm]
   rw [this]; refine set_same ?_; rw [List.getElem?_map, hj]; rfl
  ·exact ⟨β, Near.refl _ _ _, d, rfl⟩
 ·exact ⟨β, Near.refl _ _ _, d, rfl⟩
theorem Near.trans {p q p' q' : Nat → Prop} {β β' β'' : Beta} (h : Near p q β β') (g : Near p' q' β' β'') : Near (fun m => p m ∨ p' m) (fun m => q m ∨ q' m) β β'' :=
 ⟨fun m hm => (g.blk m fun h' => hm (.inr h')).trans (h.blk m fun h' => hm (.inl h')), fun m hm => (g.row m fun h' => hm (.inr h')).trans (h.row m fun h' => hm (.inl h')), g.junk.trans h.junk⟩
theorem adopts_den : ∀ (l : List (Nat × Nat × Nat)) (S : St) (β : Beta), Den σ S β ρ w0 a w → ∃ β', Near (fun _ => False) (· ∈ l.map fun q => cname q.1 q.2.1) β β' ∧ Den σ (adopts P l S) β' ρ w0 a w ∧ (adopts P l S).nv = S.nv
 | [], S, β, d => ⟨β, Near.refl _ _ _, d, rfl⟩
 | q :: l, S, β, d => by
  obtain ⟨β1, n1, d1, e1⟩ := adopt1_den (P := P) q d; obtain ⟨β2, n2, d2, e2⟩ := adopts_den l _ β1 d1; refine ⟨β2, (n1.trans n2).wide (fun m h => h.elim id id) (fun m h => ?_), d2, e2.trans e1⟩
  rcases h with rfl | h
  ·exact List.mem_cons_self ..
  ·exact List.mem_cons_of_mem _ h
theorem unrowB_den {m : Nat} (d : Den σ S β ρ w0 a w) : Den σ (unrowB m S) β ρ w0 a w ∧ (unrowB m S).nv = S.nv ∧ (unrowB m S).fr = S.fr := by
 unfold unrowB; split
 ·next e he =>
  have hx := d.ex _ (lookup_mem he); have hfoot : foot β { S with blk := S.blk.map fun q => (q.1, q.2.1, q.2.2.map (C1.unrow m e.1 e.2)) } = foot β S := by
   unfold foot; simp only [List.map_map]; rfl
  refine ⟨⟨d.df, d.nt, d.fr, ?_, d.rw, by rw [hfoot]; exact d.nd, d.rn, d.ex, by rw [hfoot]; exact d.fx, d.kn, d.bl⟩, rfl, rfl⟩; intro q hq; obtain ⟨q0, hq0, rfl⟩ := List.mem_map.1 hq; show w.heap[β.blk q0.1]? = some (.cells ((q0.2.2.map (C1.unrow m e.1 e.2)).map (C1.den β ρ)).toArray q0.2.1 (0, 0)) ∧ _; rw [List.map_map, show (C1.den β ρ ∘ C1.unrow m e.1 e.2) = C1.den β ρ from funext fun v => unrowC_den hx v]; exact d.bk q0 hq0
 ·exact ⟨d, rfl, rfl⟩
theorem prep_den (d : Den σ S β ρ w0 a w) (h : (prep o S k).den σ ρ) : ∃ S' ρ', (k S').den σ ρ' ∧ Den σ S' β ρ' w0 a w ∧ Alike S.nv ρ ρ' ∧ S.nv ≤ S'.nv ∧ S'.fr = S.fr := by
 unfold prep at h; split at h
 ·next m _ =>
  obtain ⟨S', ρ', g1, g2, g3, g4, g5, _⟩ := expose_den _ S ρ _ d h; obtain ⟨u1, u2, u3⟩ := unrowB_den (m := m) g2; exact ⟨_, ρ', g1, u1, g3, by rw [u2]; exact g4, u3.trans g5⟩
 ·exact ⟨S, ρ, h, d, Alike.refl _ _, Nat.le_refl _, rfl⟩
theorem opd_fr {S S' : St} (h : S'.fr = S.fr) (x : Operand) : S'.opd x = S.opd x := by
 cases x <;> simp only [St.opd, St.get, h]
theorem isAct_fr {S S' : St} (h : S'.fr = S.fr) : isAct P Γ o S' = isAct P Γ o S := by
 unfold isAct; simp only [opd_fr h]
theorem touch_fr {S S' : St} (h : S'.fr = S.fr) : touch o S' = touch o S := by
 unfold touch; simp only [opd_fr h]
end
end Go.Proofs.Ytgjbcahpgkchfaa.Vc
