/- Of the texts VcB, VcC, VcD. -/
import Derived.Test.YtgjbcahpgkchfaaG14
import Derived.Great.BuildSlice
set_option linter.unusedSimpArgs false
set_option linter.unusedVariables false
namespace Go.Proofs.Ytgjbcahpgkchfaa.Vc
open Go Go.RowKit
def AOut (σ : Sm) (S : St) (k : St → VC) (β : Beta) (ρ : Nat → U) (w0 : World) (tc : List Nat) (a' : Act) (w' : World) : Prop :=
 ∃ (S' : St) (β' : Beta) (ρ' : Nat → U), (k S').den σ ρ' ∧ Den σ S' β' ρ' w0 a' w' ∧ Alike S.nv ρ ρ' ∧ Near (· ∈ tc) (· ∈ tc) β β' ∧ S.nv ≤ S'.nv
theorem put_nv (S : St) (d : Option Nat) (v : SV) : (S.put d v).nv = S.nv := by
 unfold St.put; split
 ·rfl
 ·split <;> rfl
theorem kill_nv (S : St) (d : Option Nat) : (S.kill d).nv = S.nv := by cases d <;> rfl
theorem dropRow_nv {S S1 : St} {m : Nat} (h : S.dropRow m = some S1) : S1.nv = S.nv := by
 unfold St.dropRow at h; rw [Option.map_eq_some_iff] at h; obtain ⟨S2, h, rfl⟩ := h; unfold St.unrow at h; split at h
 ·cases h
 ·injection h with h
  subst h; rfl
theorem Near.refl (p q : Nat → Prop) (β : Beta) : Near p q β β := ⟨fun _ _ => rfl, fun _ _ => rfl, rfl⟩
theorem Near.wide {p q p' q' : Nat → Prop} {β β' : Beta} (h : Near p q β β') (hp : ∀ m, p m → p' m) (hq : ∀ m, q m → q' m) : Near p' q' β β' :=
 ⟨fun m hm => h.blk m fun h' => hm (hp m h'), fun m hm => h.row m fun h' => hm (hq m h'), h.junk⟩
theorem solid_one {β : Beta} {ρ : Nat → U} {c : C1} (h : c.solid = true) : (c.den β ρ).oneCell' = true := by
 cases c with
 | val x =>
  cases x with
  | vnil k =>
   show (nilV k).oneCell' = true; unfold nilV; split <;> rfl
  | fn f => rfl
  | _ => cases h
 | junk k => cases h
 | _ => rfl
theorem solid_cells {β : Beta} {ρ : Nat → U} {c : C1} (h : c.solid = true) : (c.den β ρ).cells = #[c.den β ρ] := by
 have := solid_one (β := β) (ρ := ρ) h; cases hc : c.den β ρ <;> first | rfl | (rw [hc] at this; cases this)
theorem cells_of {β : Beta} {ρ : Nat → U} {v : SV1} (h : v.cells.all C1.solid = true) : (v.den β ρ).cells = (v.cells.map (C1.den β ρ)).toArray := by
 cases v with
 | one c =>
  simp only [SV1.cells, List.all_cons, List.all_nil, Bool.and_true] at h; exact solid_cells h
 | agg l => rfl
theorem ones_of {β : Beta} {ρ : Nat → U} {l : List C1} (h : l.all C1.solid = true) : ∀ v ∈ l.map (C1.den β ρ), v.oneCell' = true := by
 intro v hv; obtain ⟨c, hc, rfl⟩ := List.mem_map.1 hv; exact solid_one (List.all_eq_true.1 h c hc)
theorem constS_cells {β : Beta} {ρ : Nat → U} {z : Value} {cs : List C1} (h : (match constS z with | some (.s (.agg l)) => some l | some (.s (.one c)) => some [c] | _ => none) = some cs) : z.cells = (cs.map (C1.den β ρ)).toArray := by
 cases hz : constS z with
 | none => rw [hz] at h; cases h
 | some s =>
  rw [hz] at h; have hd := constS_den β ρ z s hz; cases s with
  | tup l => cases h
  | s v =>
   cases v with
   | agg l =>
    injection h with h
    subst h; rw [← hd]; rfl
   | one c =>
    injection h with h
    subst h; have hd : c.den β ρ = z := hd; unfold constS at hz; split at hz
    ·next cs' =>
     rw [Option.map_eq_some_iff] at hz; obtain ⟨l, _, e⟩ := hz; cases e
    ·next hno =>
     show z.cells = #[c.den β ρ]; rw [hd]; cases z <;> first | rfl | (exact absurd rfl (hno _))
section
variable {P : Program} {Γ : Cfg} {σ : Sm} {S : St} {k : St → VC} {β : Beta} {ρ : Nat → U} {a : Act} {w w0 : World} {dst : Option Nat} {type : Nat} {pos : String} {after : Array Edge} {guard : Option (Nat × Bool)} {K : Act → World → Prop} {Q : Exit → Act → World → Prop}
theorem wp_value {o : Oper} {v : Value} {w' : World} (h : (execOp a.eval o).run P w = .ok (.value v) w') (hK : K (a.put o.dst v) w') : o.wp P a w K Q := by
 unfold Oper.wp; rw [h]; exact hK
theorem wp_skip' {o : Oper} {w' : World} (h : (execOp a.eval o).run P w = .ok .skip w') (hK : K (a.put o.dst undef) w') : o.wp P a w K Q := by
 unfold Oper.wp; rw [h]; exact hK
theorem zero_some {i : TypeInfo} (h : zeroOk i = true) : ∃ z, i.zero = some z ∧ z.cells.size = i.size := by
 unfold zeroOk at h; split at h
 ·next z hz => exact ⟨z, hz, by simpa using h⟩
 ·cases h
theorem a_alloc {t : Nat} (d : Den σ S β ρ w0 a w) (h : (act P Γ ⟨dst, .alloc t, type, pos, after, guard⟩ S k).den σ ρ) (hb : σ.base ≤ w.heap.size) (hl : ∀ m, Γ.lnm.contains m = false → σ.lnames.lookup m = none) (hK : ∀ a' w', AOut σ S k β ρ w0 (touch ⟨dst, .alloc t, type, pos, after, guard⟩ S) a' w' → K a' w') : Oper.wp P ⟨dst, .alloc t, type, pos, after, guard⟩ a w K Q := by
 unfold act at h; simp only at h; split at h
 ·next dd z hz =>
  rw [Option.bind_eq_some_iff] at hz; obtain ⟨i, hi, hz⟩ := hz; split at h
  ·next cs S1 hcs hS1 =>
   have hnc : Γ.lnm.contains dd = false := by
    cases e : Γ.lnm.contains dd with
    | false => rfl
    | true => rw [if_pos e] at h; exact h.elim
   rw [if_neg (by rw [hnc]; simp)] at h; obtain ⟨β', hn, hm, hd'⟩ := d.addBlk (t := t) (cs := cs) (vs := cs.map (C1.den β ρ)) hS1 hb (hl dd hnc) (fun β' _ => by
    have h1 := constS_cells (β := β') (ρ := ρ) hcs; have h2 := constS_cells (β := β) (ρ := ρ) hcs; rw [h1] at h2; exact List.toArray_inj h2)
   have hr : (execOp a.eval ⟨some dd, .alloc t, type, pos, after, guard⟩).run P w = .ok (.value (.pointer (some ⟨w.heap.size, 0, none⟩))) (w.alloc (.cells (cs.map (C1.den β ρ)).toArray t)) := by
    show (do pure (.value (← Instr.alloc t true (.tuple #[]))) : Sem Next).run P w = _; refine run_v ?_; unfold Instr.alloc newVar newRow newObj zeroValue; rw [← constS_cells (β := β) (ρ := ρ) hcs]; simp only [Sem.run_bind, run_info hi, Result.andThen_ok, hz, Sem.run_pure]; rfl
   refine wp_value hr (hK _ _ ⟨_, β', ρ, h, ?_, Alike.refl _ _, hn.wide (fun m h => ?_) (fun _ h => h.elim), by rw [put_nv]; exact Nat.le_of_eq (dropBlk_spec hS1).2.1.symm⟩)
   ·have := hd'.put (some dd) (.s (.one (.own dd 0))); have e : (SV.s (.one (.own dd 0))).den β' ρ = .pointer (some ⟨w.heap.size, 0, none⟩) := by
     show Value.pointer (some ⟨β'.blk dd, 0, none⟩) = _; rw [hm]
    rw [e] at this; exact this
   ·have h : m = dd := h; subst h; simp [touch]
  ·exact h.elim
 ·exact h.elim
def NewOk (P : Program) (f t : Nat) : Prop := ∃ i z, P.info? t = some i ∧ i.zero = some z ∧ ∀ w, Calls P f #[] w fun e w' => e = .returned (.pointer (some ⟨w.heap.size, 0, none⟩)) ∧ w' = w.alloc (.cells z.cells t)
def NewsOk (P : Program) (l : List (Nat × Nat)) : Prop := ∀ f t, l.lookup f = some t → NewOk P f t
theorem newsOk_nil {P : Program} : NewsOk P [] := fun _ _ h => by cases h
theorem a_new {f t : Nat} {args : Array Operand} {o : Oper} (hnew : NewOk P f t) (d : Den σ S β ρ w0 a w)
  (hrun : ∀ fn, P.funcs[f]? = some fn → fn.body.isNone = false → (fn.name == "runtime.NumGoroutine") = false → (execOp a.eval o).run P w = .ok (.enter f (args.map a.eval)) w)
  (h : (newS P Γ f t o.dst args S k).den σ ρ) (hb : σ.base ≤ w.heap.size) (hl : ∀ m, Γ.lnm.contains m = false → σ.lnames.lookup m = none) (hK : ∀ a' w', AOut σ S k β ρ w0 (touch o S) a' w' → K a' w') : o.wp P a w K Q := by
 unfold newS at h; split at h
 ·exact h.elim
 ·next fn hfn =>
  split at h
  ·exact h.elim
  ·next hc =>
   simp only [Bool.or_eq_true, not_or, Bool.not_eq_true, decide_eq_true_eq, ne_eq, Decidable.not_not] at hc; obtain ⟨⟨hc1, hc2⟩, hc3⟩ := hc; have ha : args.map a.eval = #[] := by
    apply Array.eq_empty_of_size_eq_zero; rw [Array.size_map]; exact hc3
   split at h
   ·next dd z hdd hz =>
    rw [Option.bind_eq_some_iff] at hz; obtain ⟨i, hi, hz⟩ := hz; split at h
    ·next cs S1 hcs hS1 =>
     have hnc : Γ.lnm.contains dd = false := by
      cases e : Γ.lnm.contains dd with
      | false => rfl
      | true => rw [if_pos e] at h; exact h.elim
     rw [if_neg (by rw [hnc]; simp)] at h; obtain ⟨β', hn, hm, hd'⟩ := d.addBlk (t := t) (cs := cs) (vs := cs.map (C1.den β ρ)) hS1 hb (hl dd hnc) (fun β' _ => by
      have h1 := constS_cells (β := β') (ρ := ρ) hcs; have h2 := constS_cells (β := β) (ρ := ρ) hcs; rw [h1] at h2; exact List.toArray_inj h2)
     obtain ⟨i', z', hi', hz', hcall⟩ := hnew; rw [hi] at hi'; injection hi' with hi'
     subst hi'; rw [hz] at hz'; injection hz' with hz'
     subst hz'; unfold Oper.wp; rw [hrun fn hfn hc1 hc2]; show Calls P f (args.map a.eval) w _; rw [ha]; refine (hcall w).mono ?_; rintro e w1 ⟨rfl, rfl⟩; rw [constS_cells (β := β) (ρ := ρ) hcs]; show K (a.put o.dst (.pointer (some ⟨w.heap.size, 0, none⟩))) _; refine hK _ _ ⟨_, β', ρ, h, ?_, Alike.refl _ _, hn.wide (fun m h => ?_) (fun _ h => h.elim), by rw [put_nv]; exact Nat.le_of_eq (dropBlk_spec hS1).2.1.symm⟩
     ·have := hd'.put (some dd) (.s (.one (.own dd 0))); have e : (SV.s (.one (.own dd 0))).den β' ρ = .pointer (some ⟨w.heap.size, 0, none⟩) := by
       show Value.pointer (some ⟨β'.blk dd, 0, none⟩) = _; rw [hm]
      rw [e] at this; rw [hdd]; exact this
     ·have h : m = dd := h; subst h; simp [touch, hdd]
    ·exact h.elim
   ·exact h.elim
theorem a_box {t : Nat} {x : Operand} (d : Den σ S β ρ w0 a w) (h : (act P Γ ⟨dst, .box t x, type, pos, after, guard⟩ S k).den σ ρ) (hb : σ.base ≤ w.heap.size) (hl : ∀ m, Γ.lnm.contains m = false → σ.lnames.lookup m = none) (hK : ∀ a' w', AOut σ S k β ρ w0 (touch ⟨dst, .box t x, type, pos, after, guard⟩ S) a' w' → K a' w') : Oper.wp P ⟨dst, .box t x, type, pos, after, guard⟩ a w K Q := by
 unfold act at h; simp only at h; split at h
 ·next dd v hx =>
  split at h
  ·next S1 hS1 =>
   have hnc : Γ.lnm.contains dd = false := by
    cases e : Γ.lnm.contains dd with
    | false => rfl
    | true => rw [if_pos e] at h; exact h.elim
   rw [if_neg (by rw [hnc]; simp)] at h; split at h
   ·next hc =>
    simp only [List.all_eq_true, Bool.and_eq_true, Bool.not_eq_true'] at hc; have hsol : v.cells.all C1.solid = true := List.all_eq_true.2 fun c h => (hc c h).1
    obtain ⟨β', hn, hm, hd'⟩ := d.addBlk (t := t) (cs := v.cells) (vs := v.cells.map (C1.den β ρ)) hS1 hb (hl dd hnc) (fun β' hn => cells_near hn ρ v.cells (fun j hj e => by
     subst e; obtain ⟨c, hc1, hc2⟩ := List.any_eq_true.1 hj; have hz := (hc c hc1).2; rw [hz] at hc2; cases hc2) (fun _ _ e => e))
    have hr : (execOp a.eval ⟨some dd, .box t x, type, pos, after, guard⟩).run P w = .ok (.value (.pointer (some ⟨w.heap.size, 0, none⟩))) (w.alloc (.cells (v.cells.map (C1.den β ρ)).toArray t)) := by
     show (do pure (.value (← Instr.box t (a.eval x))) : Sem Next).run P w = _; rw [opd_den d.fr hx]; refine run_v ?_; unfold Instr.box newVar newRow newObj; have e : ((SV.s v).den β ρ).cells = (v.cells.map (C1.den β ρ)).toArray := cells_of hsol; rw [e]; rfl
    refine wp_value hr (hK _ _ ⟨_, β', ρ, h, ?_, Alike.refl _ _, hn.wide (fun m h => ?_) (fun _ h => h.elim), by rw [put_nv]; exact Nat.le_of_eq (dropBlk_spec hS1).2.1.symm⟩)
    ·have := hd'.put (some dd) (.s (.one (.own dd 0))); have e : (SV.s (.one (.own dd 0))).den β' ρ = .pointer (some ⟨w.heap.size, 0, none⟩) := by
      show Value.pointer (some ⟨β'.blk dd, 0, none⟩) = _; rw [hm]
     rw [e] at this; exact this
    ·have h : m = dd := h; subst h; simp [touch]
   ·exact h.elim
  ·exact h.elim
 ·exact h.elim
end
theorem setXs_den (ρ : Nat → U) : ∀ (l : List X) (a off : X) (j : Nat), (off.den ρ).N + j + l.length ≤ (a.den ρ).L.length → ((setXs a off j l).den ρ).L = (a.den ρ).L.take ((off.den ρ).N + j) ++ (l.map fun x => (x.den ρ).V) ++ (a.den ρ).L.drop ((off.den ρ).N + j + l.length)
 | [], a, off, j, _ => by simp [setXs]
 | x :: l, a, off, j, h => by
  unfold setXs; have hs : ((X.tri .set a (mkAddN off (.nat j)) x).den ρ).L = (a.den ρ).L.set ((off.den ρ).N + j) (x.den ρ).V := by
   show (a.den ρ).L.set ((mkAddN off (.nat j)).den ρ).N _ = _; rw [mkAddN_den]; rfl
  rw [setXs_den ρ l _ off (j + 1) (by rw [hs, List.length_set]; simp only [List.length_cons] at h; omega), hs]; have hlt : (off.den ρ).N + j < (a.den ρ).L.length := by simp only [List.length_cons] at h; omega
  simp only [List.map_cons, List.length_cons]; rw [show (off.den ρ).N + (j + 1) = (off.den ρ).N + j + 1 by omega, show (off.den ρ).N + j + 1 + l.length = (off.den ρ).N + j + (l.length + 1) by omega]; rw [List.take_set, List.take_succ_eq_append_getElem hlt, List.drop_set_of_lt (by omega)]; rw [List.set_append_right _ _ (by simp; omega)]; simp [Nat.min_eq_left (Nat.le_of_lt hlt)]
theorem splice_den (β : Beta) (ρ : Nat → U) (l new : List C1) (off : Nat) : (splice l off new).map (C1.den β ρ) = (l.map (C1.den β ρ)).take off ++ new.map (C1.den β ρ) ++ (l.map (C1.den β ρ)).drop (off + new.length) := by
 unfold splice; simp [List.map_take, List.map_drop]
theorem listX_den (ρ : Nat → U) : ∀ l : List X, ((listX l).den ρ).L = l.map fun x => (x.den ρ).V
 | [] => rfl
 | [x] => rfl
 | x :: y :: l => by
  show [(x.den ρ).V] ++ ((listX (y :: l)).den ρ).L = _; rw [listX_den ρ (y :: l)]; rfl
section
variable {P : Program} {Γ : Cfg} {σ : Sm} {S : St} {k : St → VC} {β : Beta} {ρ : Nat → U} {a : Act} {w w0 : World} {dst : Option Nat} {type : Nat} {pos : String} {after : Array Edge} {guard : Option (Nat × Bool)} {K : Act → World → Prop} {Q : Exit → Act → World → Prop}
theorem run_storeVar' {t : Nat} {i : TypeInfo} (hi : P.info? t = some i) {g o ty : Nat} {cur : Array Value} {v : Value} {vs : List Value} (hv : v.cells = vs.toArray) (hl : vs.length = i.size) (hg : w.heap[g]? = some (.cells cur ty (0, 0))) (ho : o + i.size ≤ cur.size) (h1 : ∀ v ∈ vs, v.oneCell' = true) : (storeVar t ⟨g, o, none⟩ v).run P w = .ok () (w.setRow g (cur.toList.take o ++ vs ++ cur.toList.drop (o + vs.length)).toArray) := by
 unfold storeVar; have := run_storeCells_at (P := P) g o ty vs 0 cur w hg (by omega) h1; rw [hv]; simp only [Sem.run_bind, run_size hi, Result.andThen_ok, List.size_toArray]; rw [if_neg (by omega)]; exact this
theorem a_store {t : Nat} {x y : Operand} (d : Den σ S β ρ w0 a w) (h : (act P Γ ⟨dst, .store t x y, type, pos, after, guard⟩ S k).den σ ρ) (hK : ∀ a' w', AOut σ S k β ρ w0 (touch ⟨dst, .store t x y, type, pos, after, guard⟩ S) a' w' → K a' w') : Oper.wp P ⟨dst, .store t x y, type, pos, after, guard⟩ a w K Q := by
 unfold act at h; simp only at h; have u : ∀ {s : Sem Unit} {w' : World}, s.run P w = .ok () w' → (do s; pure .skip : Sem Next).run P w = .ok .skip w' := by
  intro s w' hs; simp only [Sem.run_bind, hs, Result.andThen_ok, Sem.run_pure]
 split at h
 ·next m off v i hx hy hi =>
  split at h
  ·next bt cs hb =>
   split at h
   ·next hc =>
    obtain ⟨hl, ho, hsol⟩ := hc; have hmem : (m, bt, cs) ∈ S.blk := lookup_mem hb; have hg := (d.bk _ hmem).1; have hd' := d.setBlk (new := splice cs off v.cells) hb; refine wp_skip' (w' := w.setRow (β.blk m) ((splice cs off v.cells).map (C1.den β ρ)).toArray) ?_ (hK _ _ ⟨_, β, ρ, h, hd'.kill dst undef, Alike.refl _ _, Near.refl _ _ _, by rw [kill_nv]; exact Nat.le_refl _⟩); show (do Instr.storeAt t (a.eval x) (a.eval y); pure .skip : Sem Next).run P w = _
    rw [opd_den d.fr hx, opd_den d.fr hy]; refine u ?_; unfold Instr.storeAt Instr.sureAddr; simp only [SV.den, SV1.den, C1.den, Sem.run_bind, Sem.run_pure, Result.andThen_ok]; have := run_storeVar' (P := P) (w := w) hi (o := off) (v := v.den β ρ) (vs := v.cells.map (C1.den β ρ)) (cells_of hsol) (by simpa using hl) hg (by simpa using ho) (ones_of hsol); refine this.trans ?_; rw [splice_den]; simp
   ·exact h.elim
  ·exact h.elim
 ·next m off v i hx hy hi =>
  split at h
  ·next r hr =>
   split at h
   ·next xs hxs =>
    split at h
    ·next hc =>
     obtain ⟨hl, hz, hsol⟩ := hc; obtain ⟨hn, h⟩ := h; have hn := lt_den hn; rw [mkCast_den, mkAddN_den] at hn; have hn : (((off.den ρ).N + (i.size - 1) : Nat) : Int) < ((r.xs.den ρ).L.length : Int) := hn; have hrow := (d.rw r (rowOf_mem hr)).1; have hvs := xs_den (β := β) (ρ := ρ) d.ex hxs; have hlx : xs.length = i.size := by
      have := congrArg List.length hvs; simp at this; omega
     have hset := setXs_den ρ xs r.xs off 0 (by omega); rw [hvs] at hset
     rcases hrow.2 with ⟨e, he⟩ | ⟨g, cap, cur, e, hbg, hg, hncap, hcm, hcs, ht⟩
     ·have := hrow.1; rw [he, Nat.zero_mul] at this; omega
     ·injection e with e1 e2 e3
      rw [rowOf_m hr] at e1 e3; have hxl : (r.xs.den ρ).L.length ≤ cur.size := by rw [← ht]; simp; omega
      have hlen := hrow.1; have hvl : (v.cells.map (C1.den β ρ)).length = i.size := by simpa using hl
      have hst := run_storeVar' (P := P) (w := w) hi (o := (off.den ρ).N) (v := v.den β ρ) (vs := v.cells.map (C1.den β ρ)) (cells_of hsol) hvl hg (by omega) (ones_of hsol); generalize hcn : (cur.toList.take (off.den ρ).N ++ v.cells.map (C1.den β ρ) ++ cur.toList.drop ((off.den ρ).N + (v.cells.map (C1.den β ρ)).length)).toArray = cn at hst; obtain ⟨β', hn', hm', hd'⟩ := d.setRow (S1 := S) (n := r.n) (xs := setXs r.xs off 0 xs) (A := (β.row m).1) (c := (β.row m).2) (w' := w.setRow g cn) hr rfl rfl rfl rfl rfl (fun e he => ⟨he, .inl rfl⟩) (fun t v hv => ⟨hv, .inl rfl⟩) (.inl rfl) (by
       rw [e1, e3]; have hxs' : ((setXs r.xs off 0 xs).den ρ).L.length = (r.xs.den ρ).L.length := by
        rw [hset]; simp; omega
       have hcnl : cn.size = cur.size := by
        rw [← hcn]; simp; omega
       refine ⟨by rw [hxs']; exact hlen, .inr ⟨g, cap, cn, rfl, hbg, setRow_heap w g cur cn _ _ hg, hncap, hcm, by rw [hcnl, hcs], ?_⟩⟩; rw [hset, ← hcn, ← ht]; generalize (r.n.den ρ).N * r.size = L at *; rw [← ht] at hn; have hL : L ≤ cur.toList.length := by
        have := hlen; rw [← ht] at this; simp at this; simp; omega
       simp only [List.length_take, Nat.min_eq_left hL] at hn; apply List.ext_getElem?; intro j; simp only [List.getElem?_take, List.getElem?_append, List.length_append, List.length_take, List.getElem?_drop, hvl, hlx, Nat.add_zero]; have e1 : min (off.den ρ).N cur.toList.length = (off.den ρ).N := Nat.min_eq_left (by omega); have e2 : min L cur.toList.length = L := Nat.min_eq_left hL; have e3 : min (off.den ρ).N L = (off.den ρ).N := Nat.min_eq_left (by omega); rw [e1, e2, e3]
       by_cases c1 : j < L
       ·by_cases c2 : j < (off.den ρ).N
        ·have c3 : j < (off.den ρ).N + i.size := by omega
         simp [c1, c2, c3]
        ·by_cases c3 : j < (off.den ρ).N + i.size
         ·simp [c1, c2, c3]
         ·have c4 : (off.den ρ).N + i.size + (j - ((off.den ρ).N + i.size)) < L := by omega
          simp [c1, c2, c3, c4]
       ·have c2 : ¬ j < (off.den ρ).N := by omega
        have c3 : ¬ j < (off.den ρ).N + i.size := by omega
        have c4 : ¬ (off.den ρ).N + i.size + (j - ((off.den ρ).N + i.size)) < L := by omega
        simp [c1, c2, c3, c4]) (by rw [setRow_size]; exact Nat.le_refl _) (fun k' _ hk' => setRow_other w g k' _ (hk' _ e1)) (fun p hp => .inl hp) (kept_setRow d.bl (Sm.row_or ((d.rw r (rowOf_mem hr)).2 g (by rw [rowOf_m hr, e1]; rfl))) _)
      refine wp_skip' (w' := w.setRow g cn) ?_ (hK _ _ ⟨_, β', ρ, h, hd'.kill dst undef, Alike.refl _ _, ⟨fun j _ => hn'.blk j (fun h => h), fun j hj => ?_, hn'.junk⟩, by rw [kill_nv]; exact Nat.le_refl _⟩)
      ·show (do Instr.storeAt t (a.eval x) (a.eval y); pure .skip : Sem Next).run P w = _
       rw [opd_den d.fr hx, opd_den d.fr hy]; refine u ?_; unfold Instr.storeAt Instr.sureAddr; show (Sem.run P (do let __do_lift ← (match Value.pointer ((β.row m).1.map (·.add (off.den ρ).N)) with | .pointer (some a) => pure a | _ => stuck _); storeVar t __do_lift _) w) = _
       rw [e1]; simp only [Option.map_some, Sem.run_bind, Sem.run_pure, Result.andThen_ok]; rw [add_plain, Nat.zero_add]; exact hst
      ·by_cases e : j = m
       ·rw [e, hm']
       ·exact hn'.row j e
    ·exact h.elim
   ·exact h.elim
  ·exact h.elim
 ·exact h.elim
end
theorem lay_cells : ∀ (vs : List Value) (cells : Array Value) (off k : Nat), off + k + vs.length ≤ cells.size → ((vs.zipIdx k).foldl (fun cs (x : Value × Nat) => cs.setIfInBounds (off + x.2) x.1) cells).toList = cells.toList.take (off + k) ++ vs ++ cells.toList.drop (off + k + vs.length)
 | [], cells, off, k, _ => by simp
 | v :: vs, cells, off, k, h => by
  rw [List.zipIdx_cons, List.foldl_cons, lay_cells vs _ off (k + 1) (by simp only [List.length_cons] at h; simp; omega)]; simp only [Array.toList_setIfInBounds, List.length_cons]; simp only [List.length_cons] at h; have hlt' : off + k < cells.size := by omega
  have hlt : off + k < cells.toList.length := by simpa using hlt'
  rw [show off + (k + 1) = off + k + 1 by omega, show off + k + 1 + vs.length = off + k + (vs.length + 1) by omega]; rw [List.take_set, List.take_succ_eq_append_getElem hlt, List.drop_set_of_lt (by omega), List.set_append_right _ _ (by simp; omega)]; simp [Nat.min_eq_left (Nat.le_of_lt hlt')]
theorem fill_parts (sz : Nat) : ∀ (ps : List (Nat × Value)) (vss : List (List Value)) (j : Nat) (cells : Array Value), ps.map (·.1) = (List.range (j + ps.length)).drop j → ps.map (fun p => p.2.cells.toList) = vss → (∀ l ∈ vss, l.length = sz) → cells.size = (j + ps.length) * sz → ∃ c, Instr.fill (fun i => some (i * sz, sz)) cells ps = some c ∧ c.toList = cells.toList.take (j * sz) ++ vss.flatten
 | [], vss, j, cells, _, hv, _, hs => by
  subst hv; refine ⟨cells, rfl, ?_⟩; simp only [List.length_nil, Nat.add_zero] at hs; rw [← hs]; simp only [List.map_nil, List.flatten_nil, List.append_nil]; exact (List.take_of_length_le (by simp)).symm
 | (i, v) :: ps, vss, j, cells, hi, hv, hl, hs => by
  rw [List.drop_eq_getElem_cons (by simp)] at hi; simp only [List.map_cons, List.length_cons, List.getElem_range, List.cons.injEq] at hi; obtain ⟨rfl, hi⟩ := hi; subst hv; have hl1 := hl v.cells.toList (by simp); have hvs : v.cells.size = sz := by simpa using hl1
  unfold Instr.fill; simp only; have hb : i * sz + sz ≤ cells.size := by
   rw [hs]; have : (i + 1) * sz ≤ (i + (ps.length + 1)) * sz := Nat.mul_le_mul_right _ (by omega); rw [Nat.add_mul, Nat.one_mul] at this; exact this
  rw [if_neg (by simp [hvs]; omega)]; have hfold : (v.cells.zipIdx.foldl (fun cs (x : Value × Nat) => cs.setIfInBounds (i * sz + x.2) x.1) cells).toList = cells.toList.take (i * sz) ++ v.cells.toList ++ cells.toList.drop (i * sz + v.cells.toList.length) := by
   rw [← Array.foldl_toList, Array.toList_zipIdx]; have := lay_cells v.cells.toList cells (i * sz) 0 (by simp; omega); simpa using this
  have hsz' : (v.cells.zipIdx.foldl (fun cs (x : Value × Nat) => cs.setIfInBounds (i * sz + x.2) x.1) cells).size = cells.size := by
   have := congrArg List.length hfold; simp only [Array.length_toList, List.length_append, List.length_take, List.length_drop] at this; rw [this]; have : v.cells.toList.length = sz := hl1; omega
  obtain ⟨c, hc1, hc2⟩ := fill_parts sz ps (ps.map fun p => p.2.cells.toList) (i + 1) (v.cells.zipIdx.foldl (fun cs (x : Value × Nat) => cs.setIfInBounds (i * sz + x.2) x.1) cells) (by rw [show i + 1 + ps.length = i + (ps.length + 1) by omega]; exact hi) rfl (fun l h => hl l (by simp at h ⊢; exact .inr h)) (by rw [hsz', hs]; simp; congr 1; omega); refine ⟨c, hc1, ?_⟩; rw [hc2, hfold]; simp only [List.map_cons, List.flatten_cons]; have e : (i + 1) * sz = i * sz + sz := by rw [Nat.add_mul, Nat.one_mul]
  rw [e, hl1]; rw [List.take_append, List.take_append]; simp only [List.length_append, List.length_take, hl1, Array.length_toList]; have e1 : min (i * sz) cells.size = i * sz := Nat.min_eq_left (by omega); rw [e1]; have e2 : i * sz + sz - i * sz = sz := by omega
  have e3 : i * sz + sz - (i * sz + sz) = 0 := by omega
  have t1 : List.take (i * sz + sz) (List.take (i * sz) cells.toList) = List.take (i * sz) cells.toList := List.take_of_length_le (by simp; omega); have t2 : List.take sz v.cells.toList = v.cells.toList := List.take_of_length_le (by rw [hl1]; exact Nat.le_refl _); rw [e2, e3, List.take_zero, List.append_nil, t1, t2, List.append_assoc]
section
variable {P : Program} {Γ : Cfg} {σ : Sm} {S : St} {k : St → VC} {β : Beta} {ρ : Nat → U} {a : Act} {w w0 : World} {dst : Option Nat} {type : Nat} {pos : String} {after : Array Edge} {guard : Option (Nat × Bool)} {K : Act → World → Prop} {Q : Exit → Act → World → Prop}
theorem partsS_den (hfr : ∀ t v, S.fr.lookup t = some v → a.tmps[t]? = some (v.den β ρ)) (hex : Exd S β ρ) : ∀ (l : List (Nat × Operand)) (cs : List (List C1)) (xs : List X), partsS S l = some (cs, xs) → cs.all (fun l => l.all C1.solid) = true → (l.map fun p => (a.eval p.2).cells.toList) = cs.map (fun c => c.map (C1.den β ρ)) ∧ (xs.map fun x => (x.den ρ).V) = (cs.map (fun c => c.map (C1.den β ρ))).flatten
 | [], cs, xs, h, _ => by
  injection h with h; injection h with h1 h2; subst h1; subst h2
  exact ⟨rfl, rfl⟩
 | p :: l, cs, xs, h, hs => by
  unfold partsS at h; split at h
  ·next v cs' xs' hv hl =>
   rw [Option.map_eq_some_iff] at h; obtain ⟨ys, hys, he⟩ := h; injection he with h1 h2
   subst h1; subst h2; simp only [List.all_cons, Bool.and_eq_true] at hs; obtain ⟨i1, i2⟩ := partsS_den hfr hex l cs' xs' hl hs.2; have hc : (a.eval p.2).cells = (v.cells.map (C1.den β ρ)).toArray := by rw [opd_den hfr hv]; exact cells_of hs.1
   constructor
   ·simp only [List.map_cons, i1, hc]
   ·simp only [List.map_append, List.map_cons, List.flatten_cons, i2, xs_den hex hys]
  ·cases h
theorem alloc_heap (w : World) (o : Obj) : (w.alloc o).heap[w.heap.size]? = some o := by
 show (w.heap.push o)[w.heap.size]? = some o; simp
theorem partsC_den (hfr : ∀ t v, S.fr.lookup t = some v → a.tmps[t]? = some (v.den β ρ)) : ∀ (l : List (Nat × Operand)) (cs : List (List C1)), partsC S l = some cs → cs.all (fun l => l.all C1.solid) = true → (l.map fun p => (a.eval p.2).cells.toList) = cs.map (fun c => c.map (C1.den β ρ))
 | [], cs, h, _ => by
  injection h with h; subst h
  rfl
 | p :: l, cs, h, hs => by
  unfold partsC at h; split at h
  ·next v cs' hv hl =>
   injection h with h
   subst h; simp only [List.all_cons, Bool.and_eq_true] at hs; have i1 := partsC_den hfr l cs' hl hs.2; have hc : (a.eval p.2).cells = (v.cells.map (C1.den β ρ)).toArray := by rw [opd_den hfr hv]; exact cells_of hs.1
   simp only [List.map_cons, i1, hc]
  ·cases h
theorem a_buildSlice {t n : Nat} {parts : Array (Nat × Operand)} (d : Den σ S β ρ w0 a w) (h : (act P Γ ⟨dst, .buildSlice t n parts, type, pos, after, guard⟩ S k).den σ ρ) (hb : σ.base ≤ w.heap.size) (hlm : ∀ m, Γ.lnm.contains m = false → σ.lnames.lookup m = none) (hK : ∀ a' w', AOut σ S k β ρ w0 (touch ⟨dst, .buildSlice t n parts, type, pos, after, guard⟩ S) a' w' → K a' w') : Oper.wp P ⟨dst, .buildSlice t n parts, type, pos, after, guard⟩ a w K Q := by
 unfold act at h; simp only at h; split at h
 ·next dd e ht =>
  split at h
  ·next i S1 cs xs hi hS1 hp =>
   split at h
   ·next hc =>
    obtain ⟨h1, h2, h3, h4, h5⟩ := hc; have hsol : cs.all (fun l => l.all C1.solid) = true := by
     simp only [List.all_eq_true, Bool.and_eq_true, beq_iff_eq] at h5 ⊢
     exact fun l hl => (h5 l hl).2
    have hlen : ∀ l ∈ cs, l.length = i.size := by
     simp only [List.all_eq_true, Bool.and_eq_true, beq_iff_eq] at h5; exact fun l hl => (h5 l hl).1
    obtain ⟨z, hz, hzs⟩ := zero_some h3; obtain ⟨p1, p2⟩ := partsS_den d.fr d.ex parts.toList cs xs hp hsol; have hpl : parts.toList.length = n := by
     have := congrArg List.length h4; simpa using this
    obtain ⟨c, hc1, hc2⟩ := fill_parts i.size (parts.toList.map fun p => (p.1, a.eval p.2)) (cs.map fun c => c.map (C1.den β ρ)) 0 ((Array.range (n * i.size)).map (z.cells[· % z.cells.size]!)) (by simp [List.map_map, Function.comp_def, h4, hpl]) (by simpa [List.map_map, Function.comp_def] using p1) (by
     intro l hl; obtain ⟨c, hc, rfl⟩ := List.mem_map.1 hl; simpa using hlen c hc) (by simp [hpl])
    simp only [Nat.zero_mul, List.take_zero, List.nil_append] at hc2; have hr : (execOp a.eval ⟨some dd, .buildSlice t n parts, type, pos, after, guard⟩).run P w = .ok (.value (.slice (some ⟨w.heap.size, 0, none⟩) n n)) (w.alloc (.cells c e)) := by
     show (do pure (.value (← Instr.buildSlice t n (parts.map fun (i, x) => (i, a.eval x)))) : Sem Next).run P w = _; refine run_v (run_buildSlice w t e n _ c i z ht hi hz (by omega) (by omega) ?_); have : (parts.map fun (i, x) => (i, a.eval x)).toList = parts.toList.map fun p => (p.1, a.eval p.2) := by simp
     rw [this]; exact hc1
    have hxl : ((listX xs).den ρ).L = c.toList := by rw [listX_den, p2, hc2]
    have hcl : c.size = n * i.size := by
     have h0 : c.toList.length = n * i.size := by
      rw [hc2]; have : ∀ l : List (List C1), (∀ x ∈ l, x.length = i.size) → (l.map fun c => c.map (C1.den β ρ)).flatten.length = l.length * i.size := by
       intro l
       induction l with
       | nil => intro _; simp
       | cons x l ih =>
        intro hx; simp only [List.map_cons, List.flatten_cons, List.length_append, List.length_map, ih (fun y hy => hx y (List.mem_cons_of_mem _ hy)), List.length_cons, hx x (List.mem_cons_self ..)]; rw [Nat.add_mul, Nat.one_mul, Nat.add_comm]
      rw [this cs hlen]
      congr 1
      have := congrArg List.length p1; simp [hpl] at this; omega
     simpa using h0
    obtain ⟨β', hn, hm, hd'⟩ := d.addRow (r := ⟨dd, e, i.size, i.bytes, .nat n, listX xs⟩) (A := some ⟨w.heap.size, 0, none⟩) (c := n) (w' := w.alloc (.cells c e)) hS1 (by
     show World.ownsRow _ _ _ _ (.slice _ n n) n _; rw [hxl]; refine ⟨by rw [Array.length_toList, hcl], .inr ⟨w.heap.size, n, c, rfl, Nat.zero_le _, alloc_heap w _, Nat.le_refl _, ?_, hcl, List.take_of_length_le (by rw [Array.length_toList, hcl]; exact Nat.le_refl _)⟩⟩; unfold maxLen; have : n ≤ n * i.size := Nat.le_mul_of_pos_right _ (by rcases Nat.eq_zero_or_pos i.size with h | h; rw [h] at h2; omega; exact h); omega) (by show w.heap.size ≤ (w.heap.push _).size; rw [Array.size_push]; omega) (fun k hk => Below.heap_alloc w _ k hk) (fun p hp => by injection hp with hp; subst hp; exact ⟨Nat.le_refl _, hb⟩) (d.bl.alloc hb _)
    refine wp_value hr (hK _ _ ⟨_, β', ρ, h, ?_, Alike.refl _ _, hn.wide (fun _ h => h.elim) (fun m h => ?_), by rw [put_nv]; exact Nat.le_of_eq (dropRow_nv hS1).symm⟩)
    ·have := hd'.put (some dd) (.s (.one (.row dd (.nat n)))); have e : (SV.s (.one (.row dd (.nat n)))).den β' ρ = .slice (some ⟨w.heap.size, 0, none⟩) n n := by
      show Value.slice (β'.row dd).1 n (β'.row dd).2 = _; have hm : β'.row dd = (some ⟨w.heap.size, 0, none⟩, n) := hm; rw [hm]
     rw [e] at this; exact this
    ·have h : m = dd := h; subst h; simp [touch]
   ·exact h.elim
  ·next _ _ _ i hi hp0 =>
   split at h
   ·next S1 cs hS1 hp =>
    split at h
    ·next hc =>
     obtain ⟨h1, h2, h3, h4, h5, h6⟩ := hc; have h5' : ∀ l ∈ cs, l.length = i.size ∧ l.all C1.solid = true ∧ ∀ c ∈ l, c.names dd = false := by
      simp only [List.all_eq_true, Bool.and_eq_true, beq_iff_eq, Bool.not_eq_true'] at h5; exact fun l hl => ⟨(h5 l hl).1.1, List.all_eq_true.2 (h5 l hl).1.2, (h5 l hl).2⟩
     have hsol : cs.all (fun l => l.all C1.solid) = true := List.all_eq_true.2 fun l hl => (h5' l hl).2.1
     have hlen : ∀ l ∈ cs, l.length = i.size := fun l hl => (h5' l hl).1
     obtain ⟨z, hz, hzs⟩ := zero_some h3; have p1 := partsC_den d.fr parts.toList cs hp hsol; have hpl : parts.toList.length = n := by
      have := congrArg List.length h4; simpa using this
     obtain ⟨c, hc1, hc2⟩ := fill_parts i.size (parts.toList.map fun p => (p.1, a.eval p.2)) (cs.map fun c => c.map (C1.den β ρ)) 0 ((Array.range (n * i.size)).map (z.cells[· % z.cells.size]!)) (by simp [List.map_map, Function.comp_def, h4, hpl]) (by simpa [List.map_map, Function.comp_def] using p1) (by
      intro l hl; obtain ⟨c, hc, rfl⟩ := List.mem_map.1 hl; simpa using hlen c hc) (by simp [hpl])
     simp only [Nat.zero_mul, List.take_zero, List.nil_append] at hc2; have hr : (execOp a.eval ⟨some dd, .buildSlice t n parts, type, pos, after, guard⟩).run P w = .ok (.value (.slice (some ⟨w.heap.size, 0, none⟩) n n)) (w.alloc (.cells c e)) := by
      show (do pure (.value (← Instr.buildSlice t n (parts.map fun (i, x) => (i, a.eval x)))) : Sem Next).run P w = _; refine run_v (run_buildSlice w t e n _ c i z ht hi hz (by omega) (by omega) ?_); have : (parts.map fun (i, x) => (i, a.eval x)).toList = parts.toList.map fun p => (p.1, a.eval p.2) := by simp
      rw [this]; exact hc1
     have hcl : c.size = n * i.size := by
      have h0 : c.toList.length = n * i.size := by
       rw [hc2]; have : ∀ l : List (List C1), (∀ x ∈ l, x.length = i.size) → (l.map fun c => c.map (C1.den β ρ)).flatten.length = l.length * i.size := by
        intro l
        induction l with
        | nil => intro _; simp
        | cons x l ih =>
         intro hx; simp only [List.map_cons, List.flatten_cons, List.length_append, List.length_map, ih (fun y hy => hx y (List.mem_cons_of_mem _ hy)), List.length_cons, hx x (List.mem_cons_self ..)]; rw [Nat.add_mul, Nat.one_mul, Nat.add_comm]
       rw [this cs hlen]
       congr 1
       have := congrArg List.length p1; simp [hpl] at this; omega
      simpa using h0
     have hce : cs.flatten.map (C1.den β ρ) = c.toList := by
      rw [hc2, List.map_flatten]
     obtain ⟨β', hn, hm, hd'⟩ := d.addBlk (t := e) (cs := cs.flatten) (vs := c.toList) hS1 hb (hlm dd h6) (fun β' hn => by
      rw [← hce]; refine cells_near hn ρ cs.flatten (fun j hj e => ?_) (fun _ _ e => e); subst e; obtain ⟨x, hx1, hx2⟩ := List.any_eq_true.1 hj; obtain ⟨l, hl, hxl⟩ := List.mem_flatten.1 hx1; have := (h5' l hl).2.2 x hxl; rw [this] at hx2; cases hx2)
     have hcc : c.toList.toArray = c := by simp
     rw [hcc] at hd'; refine wp_value hr (hK _ _ ⟨_, β', ρ, h, ?_, Alike.refl _ _, hn.wide (fun m h => ?_) (fun _ h => h.elim), by rw [put_nv]; exact Nat.le_of_eq (dropBlk_spec hS1).2.1.symm⟩)
     ·have := hd'.put (some dd) (.s (.one (.bslc dd n))); have e : (SV.s (.one (.bslc dd n))).den β' ρ = .slice (some ⟨w.heap.size, 0, none⟩) n n := by
       show Value.slice (some ⟨β'.blk dd, 0, none⟩) n n = _; rw [hm]
      rw [e] at this; exact this
     ·have h : m = dd := h; subst h; simp [touch]
    ·exact h.elim
   ·exact h.elim
  ·exact h.elim
 ·exact h.elim
theorem ownsRow_take {w : World} {base e size n c q : Nat} {A : Option Addr} {xs : List Value} (h : w.ownsRow base e size (.slice A n c) n xs) (hq : q ≤ n) : w.ownsRow base e size (.slice A q c) q (xs.take (q * size)) := by
 refine ⟨by rw [List.length_take, h.1]; exact Nat.min_eq_left (Nat.mul_le_mul_right _ hq), ?_⟩
 rcases h.2 with ⟨e', h0⟩ | ⟨g, cap, cur, e', hb, hg, h1, h2, h3, h4⟩
 ·injection e' with e1 _ e3
  subst e1; subst e3; have : q = 0 := by omega
  subst this; exact .inl ⟨rfl, rfl⟩
 ·injection e' with e1 _ e3
  subst e1; subst e3; exact .inr ⟨g, c, cur, rfl, hb, hg, by omega, h2, h3, by rw [← h4, List.take_take, Nat.min_eq_left (Nat.mul_le_mul_right _ hq)]⟩
theorem Den.sim (d : Den σ S β ρ w0 a w) {S' : St} (h : Sim S S') (hk : ∀ c ∈ S'.known, c.holds ρ) : Den σ S' β ρ w0 a w := by
 have hf : foot β S' = foot β S := by unfold foot; rw [h.blk, h.row]
 refine ⟨d.df, d.nt.trans h.nt.symm, ?_, ?_, ?_, by rw [hf]; exact d.nd, by rw [h.row]; exact d.rn, ?_, ?_, hk, d.bl⟩
 ·rw [h.fr]; exact d.fr
 ·rw [h.blk]; exact d.bk
 ·rw [h.row]; exact d.rw
 ·rw [h.exp]; exact d.ex
 ·rw [h.facts, hf]; exact d.fx
theorem a_slice {t : Nat} {x : Operand} {lo hi mx : Option Operand} (d : Den σ S β ρ w0 a w) (h : (act P Γ ⟨dst, .slice t x lo hi mx, type, pos, after, guard⟩ S k).den σ ρ) (hK : ∀ a' w', AOut σ S k β ρ w0 (touch ⟨dst, .slice t x lo hi mx, type, pos, after, guard⟩ S) a' w' → K a' w') : Oper.wp P ⟨dst, .slice t x lo hi mx, type, pos, after, guard⟩ a w K Q := by
 cases mx with
 | some _ => unfold act at h; exact h.elim
 | none =>
  unfold act at h; simp only at h; split at h
  ·next e m n j q ht hx hh =>
   split at h
   ·next r hr =>
    split at h
    ·next hrn =>
     obtain ⟨hrn, hie⟩ := hrn; obtain ⟨hn, S', hsm, hnv, hkn, h⟩ := needs_den d.kn h; have hfr0 := d.fr; have d := d.sim hsm hkn; have hr : S'.rowOf m = some r := by unfold St.rowOf; rw [hsm.row]; exact hr
     have h0 := le_den (hn _ (List.mem_cons_self ..)); have h1 := le_den (hn _ (List.mem_cons_of_mem _ (List.mem_cons_self ..))); rw [mkCast_den] at h1; have h0 : 0 ≤ (q.den ρ).I := h0; rw [Option.bind_eq_some_iff] at hh; obtain ⟨y, rfl, hy⟩ := hh; have hrow := (d.rw r (rowOf_mem hr)).1; rw [rowOf_m hr, hrn] at hrow; have htk := ownsRow_take (q := (q.den ρ).I.toNat) hrow (by omega); obtain ⟨β', hn', hm', hd'⟩ := d.setRow (S1 := S') (n := mkNat q) (xs := .bin .take r.xs (mkMulN r.size (mkNat q))) (A := (β.row m).1) (c := (β.row m).2) (w' := w) hr rfl rfl rfl rfl rfl (fun e he => ⟨he, .inl rfl⟩) (fun t v hv => ⟨hv, .inl rfl⟩) (.inl rfl) (by
      show World.ownsRow _ _ _ _ _ _ ((r.xs.den ρ).L.take ((mkMulN r.size (mkNat q)).den ρ).N); rw [mkMulN_den, mkNat_den]; exact htk) (Nat.le_refl _) (fun _ _ _ => rfl) (fun p hp => .inl hp) d.bl
     have hle : ((q.den ρ).I) ≤ (((β.row m).2 : Nat) : Int) := by
      rcases hrow.2 with ⟨e', he⟩ | ⟨g, cap, cur, e', _, _, h1', _⟩
      ·injection e' with _ e2 e3
       rw [e3]; omega
      ·injection e' with _ e2 e3
       rw [e3]; omega
     have hr' : (execOp a.eval ⟨dst, .slice t x none (some y) none, type, pos, after, guard⟩).run P w = .ok (.value (.slice (β.row m).1 (q.den ρ).I.toNat (β.row m).2)) w := by
      show (do pure (.value (← Instr.sliceAt t (a.eval x) none (some (a.eval y)) none)) : Sem Next).run P w = _; rw [opd_den hfr0 hx, opd_den hfr0 hy]; refine run_v ?_; have hq' := run_sliceBound (P := P) j (q.den ρ).I (β.row m).2 .sliceAcap h0 hle w; unfold Instr.sliceAt Instr.slice Instr.sliceBounds; simp only [SV.den, SV1.den, C1.den, Sem.run_bind, run_und w ht, Result.andThen_ok, Sem.run_pure, if_true, hq']; cases hi' : P.info? e with
      | none => rw [hi'] at hie; cases hie
      | some ie =>
       simp only [run_size hi', Result.andThen_ok, Nat.zero_mul, Nat.sub_zero]
       congr 2
       split
       ·rfl
       ·cases (β.row m).1 <;> simp [Addr.add]
     refine wp_value hr' (hK _ _ ⟨_, β', ρ, h, ?_, Alike.refl _ _, ⟨fun j _ => hn'.blk j (fun h => h), fun j hj => ?_, hn'.junk⟩, by rw [put_nv]; exact hsm.nv⟩)
     ·have := hd'.put dst (.s (.one (.row m (mkNat q)))); have e' : (SV.s (.one (.row m (mkNat q)))).den β' ρ = .slice (β.row m).1 (q.den ρ).I.toNat (β.row m).2 := by
       show Value.slice (β'.row m).1 ((mkNat q).den ρ).N (β'.row m).2 = _; rw [hm', mkNat_den]
      rw [e'] at this; exact this
     ·by_cases e : j = m
      ·rw [e, hm']
      ·exact hn'.row j e
    ·exact h.elim
   ·exact h.elim
  ·exact h.elim
end
end Go.Proofs.Ytgjbcahpgkchfaa.Vc
