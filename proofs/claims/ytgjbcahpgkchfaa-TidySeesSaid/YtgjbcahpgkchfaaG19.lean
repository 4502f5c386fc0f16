/- Of the texts VcW, VcH, VcI, VcJ, VcK. -/
import Derived.Test.YtgjbcahpgkchfaaG18
import Derived.Deep.OwnRows
set_option linter.unusedSimpArgs false
set_option linter.unusedVariables false
namespace Go.Proofs.Ytgjbcahpgkchfaa.Vc
open Go Go.RowKit
section
variable {P : Program} {Γ : Cfg} {σ : Sm} {S : St} {k : St → VC} {β : Beta} {ρ : Nat → U} {a : Act} {w w0 : World} {dst : Option Nat} {type : Nat} {pos : String} {after : Array Edge} {guard : Option (Nat × Bool)} {K : Act → World → Prop} {Q : Exit → Act → World → Prop}
theorem dropRow_more {S S1 : St} {m : Nat} (h : S.dropRow m = some S1) : S1.known = S.known ∧ S1.facts = S.facts ∧ S1.nv = S.nv := by
 unfold St.dropRow at h; rw [Option.map_eq_some_iff] at h; obtain ⟨S2, h, rfl⟩ := h; unfold St.unrow at h; split at h
 ·cases h
 ·injection h with h
  subst h; exact ⟨rfl, rfl, rfl⟩
theorem zeroX_den (ρ : Nat → U) {i : TypeInfo} {z : X} (h : zeroX i = some z) : ∃ v, i.zero = some v ∧ v.cells = #[v] ∧ (z.den ρ).V = v := by
 unfold zeroX at h; split at h
 ·next j n hz => injection h with h; subst h; exact ⟨_, hz, rfl, rfl⟩
 ·next b hz => injection h with h; subst h; exact ⟨_, hz, rfl, rfl⟩
 ·cases h
theorem madeCells_list (z : Value) (n : Nat) : (madeCells #[z] n).toList = List.replicate n z := by
 apply List.ext_getElem
 ·simp [madeCells]
 ·intro i h1 h2; simp [madeCells, Nat.mod_one]
theorem a_makeSlice {t : Nat} {x y : Operand} (d : Den σ S β ρ w0 a w) (h : (act P Γ ⟨dst, .makeSlice t x y, type, pos, after, guard⟩ S k).den σ ρ) (hb : σ.base ≤ w.heap.size) (hK : ∀ a' w', AOut σ S k β ρ w0 (touch ⟨dst, .makeSlice t x y, type, pos, after, guard⟩ S) a' w' → K a' w') : Oper.wp P ⟨dst, .makeSlice t x y, type, pos, after, guard⟩ a w K Q := by
 unfold act at h; simp only at h; split at h
 ·next dd e q ht hx =>
  split at h
  ·next i S1 hi hS1 =>
   split at h
   ·next z hz =>
    split at h
    ·next hc =>
     obtain ⟨hy, hsz⟩ := hc; obtain ⟨hn, S', hsm, hnv, hkn, h⟩ := needs_den (S := S1) (fun c hc => d.kn c (by rw [(dropRow_more hS1).1] at hc; exact hc)) h; have h0 : 0 ≤ (q.den ρ).I := le_den (hn _ (List.mem_cons_self ..)); have h1 : (q.den ρ).I ≤ 9223372036854775807 := le_den (hn _ (List.mem_cons_of_mem _ (List.mem_cons_self ..))); have h2 := le_den (hn _ (List.mem_cons_of_mem _ (List.mem_cons_of_mem _ (List.mem_cons_self ..)))); rw [mkCast_den, mkMulN_den, mkNat_den] at h2; have h2 : (((q.den ρ).I.toNat * i.bytes : Nat) : Int) ≤ 140737488355328 := h2; obtain ⟨N, hN⟩ : ∃ N : Nat, (q.den ρ).I = (N : Int) := ⟨(q.den ρ).I.toNat, by omega⟩
     rw [hN] at h0 h1 h2; rw [Int.toNat_natCast] at h2; obtain ⟨v, hv, hv1, hvd⟩ := zeroX_den ρ hz; have hmk := run_make_row (P := P) t e i v ht hi hv hsz hv1 .i64 .i64 N (by rw [Nat.mul_comm]; omega) (by omega) w; have hr : (execOp a.eval ⟨some dd, .makeSlice t x y, type, pos, after, guard⟩).run P w = .ok (.value (.slice (some ⟨w.heap.size, 0, none⟩) N N)) (w.alloc (.cells (madeCells #[v] N) e)) := by
      show (do pure (.value (← Instr.makeSlice t (a.eval x) (a.eval y))) : Sem Next).run P w = _; rw [opd_den d.fr hx, opd_den d.fr (hy.trans hx)]; refine run_v ?_; show (Instr.makeSlice t (.int .i64 (q.den ρ).I) (.int .i64 (q.den ρ).I)).run P w = _; rw [hN]; exact hmk
     have hnn : ((mkNat q).den ρ).N = N := by rw [mkNat_den, hN, Int.toNat_natCast]
     obtain ⟨β', hn', hm, hd'⟩ := d.addRow (r := ⟨dd, e, i.size, i.bytes, mkNat q, .bin .rep (mkNat q) z⟩) (A := some ⟨w.heap.size, 0, none⟩) (c := N) (w' := w.alloc (.cells (madeCells #[v] N) e)) hS1 (by
      show World.ownsRow _ _ _ _ (.slice _ ((mkNat q).den ρ).N N) ((mkNat q).den ρ).N (List.replicate ((mkNat q).den ρ).N (z.den ρ).V); rw [hnn, hvd, hsz]; refine ⟨by simp, .inr ⟨w.heap.size, N, _, rfl, Nat.zero_le _, alloc_heap w _, Nat.le_refl _, by unfold maxLen; omega, by rw [size_madeCells]; simp, ?_⟩⟩; rw [madeCells_list]; exact List.take_of_length_le (by simp)) (by show w.heap.size ≤ (w.heap.push _).size; rw [Array.size_push]; omega) (fun k hk => Below.heap_alloc w _ k hk) (fun p hp => by injection hp with hp; subst hp; exact ⟨Nat.le_refl _, hb⟩) (d.bl.alloc hb _)
     have hd2 : Den σ (S'.addRow ⟨dd, e, i.size, i.bytes, mkNat q, .bin .rep (mkNat q) z⟩) β' ρ w0 a (w.alloc (.cells (madeCells #[v] N) e)) := by
      refine hd'.sim ⟨hsm.nt, hsm.fr, hsm.blk, ?_, hsm.facts, hsm.exp, hsm.nv⟩ hkn; show _ :: S'.row = _ :: S1.row; rw [hsm.row]
     refine wp_value hr (hK _ _ ⟨_, β', ρ, h, ?_, Alike.refl _ _, hn'.wide (fun _ h => h.elim) (fun m h => ?_), by rw [put_nv]; show S.nv ≤ S'.nv; rw [hnv, (dropRow_more hS1).2.2]; exact Nat.le_refl _⟩)
     ·have := hd2.put (some dd) (.s (.one (.row dd (mkNat q)))); have e : (SV.s (.one (.row dd (mkNat q)))).den β' ρ = .slice (some ⟨w.heap.size, 0, none⟩) N N := by
       show Value.slice (β'.row dd).1 ((mkNat q).den ρ).N (β'.row dd).2 = _; have hm : β'.row dd = (some ⟨w.heap.size, 0, none⟩, N) := hm; rw [hm, hnn]
      rw [e] at this; exact this
     ·have h : m = dd := h; subst h; simp [touch]
    ·exact h.elim
   ·exact h.elim
  ·exact h.elim
 ·exact h.elim
theorem callF_den {f e : Nat} {o : Oper} {args : List SV1} {av : Array Value} (hcon : ∀ gh, Γ.con.lookup f = some gh → KeepsF P f ⟨gh, σ.pre f, σ.post f, σ.fact f, σ.pan f⟩ e) (hb : σ.base ≤ w.heap.size) (hpre : σ.pre0 w) (d : Den σ S β ρ w0 a w)
  (hrun : ∀ fn, P.funcs[f]? = some fn → fn.body.isNone = false → (fn.name == "runtime.NumGoroutine") = false → (execOp a.eval o).run P w = .ok (.enter f av) w) (hav : ∀ ρ' : Nat → U, (∀ t v, S.fr.lookup t = some v → a.tmps[t]? = some (v.den β ρ')) → av.toList = args.map (SV1.den β ρ'))
  (h : (callF P Γ f e o.dst args S k).den σ ρ) (hK : ∀ a' w', AOut σ S k β ρ w0 (touch o S) a' w' → K a' w') : o.wp P a w K Q := by
 unfold callF at h; split at h
 ·next fn dd hfn hdd =>
  split at h
  ·next pin i S1 shs us gh hpin hi hS1 hfl hgh =>
   split at h
   ·exact h.elim
   ·next hc =>
    simp only [Bool.or_eq_true, not_or, Bool.not_eq_true] at hc; obtain ⟨hc2, hc3⟩ := hc; split at h
    ·next hok =>
     obtain ⟨rfl, hokS, hus⟩ := hok; obtain ⟨hkn, hfa, hnv⟩ := dropRow_more hS1; obtain ⟨ρg, ag, tg, hx⟩ := exs_typed _ S1 ρ _ h; rw [List.length_replicate] at tg hx; clear h; rw [hnv] at ag; have dg := d.alike ag hokS; obtain ⟨hp, h⟩ := hx; obtain ⟨f1, f2⟩ := flats_den (β := β) (ρ := ρg) dg.ex args _ us hfl; have hvs := hav ρg dg.fr; have hpre_f : σ.pre f (dens ρg (us ++ vars S1.nv gh)) w := given_out (hp w) fun F hF => by
      rw [hfa] at hF; exact dg.fx F hF w hpre fun _ _ _ _ => rfl
     have hty : (dens ρg (us ++ vars S1.nv gh)).map U.srt = lfsSrts (shsLfs shs) ++ List.replicate gh .g := by
      rw [dens_append, List.map_append, flats_typed ρg args _ us hfl, tg]
     unfold Oper.wp; rw [hrun fn hfn hc2 (by simpa using hc3)]; show Calls P f av w _; have hcall := hcon gh hgh fn _ i hfn hpin hi (dens ρg (us ++ vars S1.nv gh)) w hty hpre_f; have hava : (shsV (dens ρg (us ++ vars S1.nv gh)) 0 shs).toArray = av := by
      apply Array.toList_inj.1; rw [hvs, ← f1, dens_append]; exact shsV_pre (dens ρg us) (dens ρg (vars S1.nv gh)) shs 0 (by rw [dens_len', f2]; omega)
     rw [hava] at hcall; refine hcall.mono ?_; rintro r w1 ⟨A, c, n, xs, rfl, hpost, hown, hbel⟩; have h := h n xs; generalize hM : S1.nv + gh = M at h ag tg; have hM' : S.nv ≤ M := by rw [← hM, hnv]; omega
     have a2 : Alike M ρg (upd (upd ρg M (.n n)) (M + 1) (.l xs)) := (Alike.upd M ρg _).trans (Alike.upd (M + 1) _ _) (Nat.le_succ _); have v1 : upd (upd ρg M (.n n)) (M + 1) (.l xs) M = .n n := by
      rw [(Alike.upd (M + 1) (upd ρg M (.n n)) (.l xs)) M (Nat.lt_succ_self _), upd_self]
     have v2 : upd (upd ρg M (.n n)) (M + 1) (.l xs) (M + 1) = .l xs := upd_self _ _ _; obtain ⟨ρ2, hρ2⟩ : ∃ ρ2, ρ2 = upd (upd ρg M (.n n)) (M + 1) (.l xs) := ⟨_, rfl⟩
     rw [← hρ2] at a2 v1 v2; have h : (VC.post f (us ++ vars S1.nv gh) [.var M, .var (M + 1)] (k (({ S1 with nv := M + 2 }.addRow ⟨dd, e, i.size, i.bytes, .var M, .var (M + 1)⟩).put (some dd) (.s (.one (.row dd (.var M))))))).den σ ρ2 := by rw [hρ2]; exact h
     have hus2 : dens ρ2 (us ++ vars S1.nv gh) = dens ρg (us ++ vars S1.nv gh) := by
      refine dens_alike a2 _ ?_; rw [List.all_append, Bool.and_eq_true]; refine ⟨List.all_eq_true.2 fun x hx => upto_mono (List.all_eq_true.1 hus x hx) (by omega), ?_⟩; have := vars_upto gh S1.nv; rw [hM] at this; exact this
     have h := h (by
      show σ.post f (dens ρ2 (us ++ vars S1.nv gh)) [ρ2 M, ρ2 (M + 1)]; rw [hus2, v1, v2]; exact hpost)
     have d2 := dg.alike (n := S.nv) (fun k hk => a2 k (by omega)) hokS; obtain ⟨β', hn', hm, hd'⟩ := d2.addRow (r := ⟨dd, e, i.size, i.bytes, .var M, .var (M + 1)⟩) (A := A) (c := c) (w' := w1) hS1 (by
      show World.ownsRow _ _ _ _ (.slice A (ρ2 M).N c) (ρ2 M).N (ρ2 (M + 1)).L; rw [v1, v2]; refine ⟨hown.1, hown.2.imp_right ?_⟩; rintro ⟨g, cap, cur, e1, _, e3⟩; exact ⟨g, cap, cur, e1, Nat.zero_le _, e3⟩) hbel.size (fun k hk => hbel.block k hk) (fun p hp => by
      subst hp
      rcases hown.2 with ⟨e1, _⟩ | ⟨g, cap, cur, e1, e2, _⟩
      ·injection e1 with e1; cases e1
      ·injection e1 with e1; injection e1 with e1; subst e1; exact ⟨e2, Nat.le_trans hb e2⟩) (d.bl.trans (hbel.mono hb).kept)
     show K (a.put o.dst (.slice A n c)) w1; refine hK _ _ ⟨_, β', ρ2, h, ?_, ?_, hn'.wide (fun _ h => h.elim) (fun m h => ?_), by rw [put_nv]; show S.nv ≤ M + 2; omega⟩
     ·have := (hd'.nv (M + 2)).put (some dd) (.s (.one (.row dd (.var M)))); have e : (SV.s (.one (.row dd (.var M)))).den β' ρ2 = .slice A n c := by
       show Value.slice (β'.row dd).1 (ρ2 M).N (β'.row dd).2 = _; have hm : β'.row dd = (A, c) := hm; rw [hm, v1]; rfl
      rw [e] at this; rw [hdd]; exact this
     ·intro k hk; rw [a2 k (by omega)]; exact ag k hk
     ·have h : m = dd := h; subst h; simp [touch, hdd]
    ·exact h.elim
  ·exact h.elim
 ·exact h.elim
theorem callA_den {f dn : Nat} {o : Oper} {args : List SV1} {av : Array Value} (hcon : ∀ f gh, Γ.con.lookup f = some gh → CallOk P Γ σ f gh) (hlm : ∀ m, Γ.lnm.contains m = false → σ.lnames.lookup m = none) (hlk : ∀ q ∈ Γ.keepB, ∃ b, σ.lnames.lookup q.1 = some b) (hQ : Γ.np = false → ∀ ch w', σ.pan0 ch → Kept σ.lent σ.base w0 w' → KeepB Γ σ a w' → Q (.panic ch) a w') (hb : σ.base ≤ w.heap.size) (hpre : σ.pre0 w) (d : Den σ S β ρ w0 a w)
  (hrun : ∀ fn, P.funcs[f]? = some fn → fn.body.isNone = false → (fn.name == "runtime.NumGoroutine") = false → (execOp a.eval o).run P w = .ok (.enter f av) w) (hav : ∀ ρ' : Nat → U, (∀ t v, S.fr.lookup t = some v → a.tmps[t]? = some (v.den β ρ')) → av.toList = args.map (SV1.den β ρ'))
  (h : (callA P Γ f dn o.dst args S k).den σ ρ) (hK : ∀ a' w', AOut σ S k β ρ w0 (touch o S) a' w' → K a' w') {tc : List Nat} (htc : ∀ q ∈ Γ.rcells, cname q.1 q.2.1 ∈ tc) (hKG : ∀ a' w', AOut σ S k β ρ w0 tc a' w' → K a' w') : o.wp P a w K Q := by
 unfold callA at h; split at h
 ·next hL => exact callS_den (av := av) (fun gh hg => by have := hcon f gh hg; unfold CallOk at this; rw [hL] at this; exact this) hlm hb hpre d hrun hav h hK
 ·next L hL =>
  split at h
  ·next e he => exact callF_den (av := av) (fun gh hg => by have := hcon f gh hg; unfold CallOk at this; rw [hL] at this; simp only [he] at this; exact this) hb hpre d hrun hav h hK
  ·next he => exact callL_den (av := av) (fun gh hg => by have := hcon f gh hg; unfold CallOk at this; rw [hL] at this; simp only [he] at this; exact this) hlk hQ hb hpre d hrun hav h htc hKG
end
structure Ctx (P : Program) (Γ : Cfg) (σ : Sm) (w0 : World) : Prop where
 con : ∀ f gh, Γ.con.lookup f = some gh → CallOk P Γ σ f gh
 base : σ.base = w0.heap.size
 pre : ∀ u, Kept σ.lent σ.base w0 u → σ.pre0 u
 lnm : ∀ m, Γ.lnm.contains m = false → σ.lnames.lookup m = none
 mixed : P.follows .mixedOrders = true
 keepB : ∀ q ∈ Γ.keepB, ∃ b, σ.lnames.lookup q.1 = some b
 news : NewsOk P Γ.news
section
variable {P : Program} {Γ : Cfg} {σ : Sm} {S : St} {k : St → VC} {β : Beta} {ρ : Nat → U} {a : Act} {w w0 : World} {K : Act → World → Prop} {Q : Exit → Act → World → Prop} {ops : Array Oper} {o : Oper}
theorem Den.base_le (c : Ctx P Γ σ w0) (d : Den σ S β ρ w0 a w) : σ.base ≤ w.heap.size := by rw [c.base]; exact d.bl.size
theorem Den.pre (c : Ctx P Γ σ w0) (d : Den σ S β ρ w0 a w) : σ.pre0 w := c.pre w d.bl
theorem lookup_blk {m t : Nat} {cs : List C1} (h : S.block m = some (t, cs)) : (m, t, cs) ∈ S.blk := lookup_mem h
theorem Den.memOk (c : Ctx P Γ σ w0) (d : Den σ S β ρ w0 a w) : MemOk σ S.facts (fun _ => true) S β ρ w :=
 ⟨fun F hF => d.fx F hF w (d.pre c) fun _ _ _ _ => rfl, fun _ _ _ h _ => (d.bk _ (lookup_blk h)).1, fun _ r h _ => (d.rw r (rowOf_mem h)).1⟩
theorem act_den (c : Ctx P Γ σ w0) (hQ : Γ.np = false → ∀ ch w', σ.pan0 ch → Kept σ.lent σ.base w0 w' → KeepB Γ σ a w' → Q (.panic ch) a w') (d : Den σ S β ρ w0 a w) (ha : isAct P Γ o S = true) (h : (act P Γ o S k).den σ ρ) (hKG : ∀ a' w', AOut σ S k β ρ w0 (touchG Γ o S) a' w' → K a' w') : o.wp P a w K Q := by
 have hb := d.base_le c; have hK : ∀ a' w', AOut σ S k β ρ w0 (touch o S) a' w' → K a' w' := fun a' w' ⟨S', β', ρ', x1, x2, x3, x4, x5⟩ => hKG a' w' ⟨S', β', ρ', x1, x2, x3, x4.wide (fun m h => List.mem_append_left _ h) (fun m h => List.mem_append_left _ h), x5⟩
 obtain ⟨dst, op, type, pos, after, guard⟩ := o; cases op with
 | assign x => exact a_assign d ha h hb hK
 | alloc t => exact a_alloc d h hb c.lnm hK
 | box t x => exact a_box d h hb c.lnm hK
 | store t x y => exact a_store d h hK
 | build t ps => exact a_build d h hK
 | buildSlice t n ps => exact a_buildSlice d h hb c.lnm hK
 | slice t x lo hi mx => exact a_slice d h hK
 | makeSlice t x y => exact a_makeSlice d h hb hK
 | convert s t x => exact a_convert d h hb hK
 | panic x => exact a_panic d h c.keepB hQ
 | call cl =>
  obtain ⟨callee, args, ts⟩ := cl; cases callee with
  | builtin b => cases b <;> first | exact a_append d h hb (d.pre c) hK | exact h.elim
  | value x =>
   cases x with
   | func f =>
    unfold act at h; simp only at h; split at h
    ·next t ht =>
     refine a_new (c.news f t ht) d ?_ h hb c.lnm hK; intro fn hfn hbody hname; unfold execOp; simp only [resolve, Act.eval, Deferred.ofValue, invoke, Sem.run_bind, Sem.run_pure, Result.andThen_ok]; unfold callFunc program; simp only [Sem.run_bind, Sem.run, Result.andThen_ok, hfn, hbody, hname]; simp
    split at h
    ·next vs hvs =>
     refine callA_den (av := args.map a.eval) c.con c.lnm c.keepB hQ hb (d.pre c) d ?_ ?_ h hK (fun q hq => List.mem_append_right _ (List.mem_map.2 ⟨q, hq, rfl⟩)) hKG
     ·intro fn hfn hbody hname; unfold execOp; simp only [resolve, Act.eval, Deferred.ofValue, invoke, Sem.run_bind, Sem.run_pure, Result.andThen_ok]; unfold callFunc program; simp only [Sem.run_bind, Sem.run, Result.andThen_ok, hfn, hbody, hname]; simp
     ·intro ρ' hfr; rw [Array.toList_map]; exact mapM_eval hfr args.toList vs hvs
    ·exact h.elim
   | tmp t =>
    unfold act at h; simp only at h; split at h
    ·next vs v f hvs hv _ =>
     obtain ⟨hf, h⟩ := h; have hev : a.eval (.tmp t) = .func (.func f) #[] #[] := (opd_den (x := .tmp t) d.fr hv).trans hf; refine callA_den (av := args.map a.eval) c.con c.lnm c.keepB hQ hb (d.pre c) d ?_ ?_ h hK (fun q hq => List.mem_append_right _ (List.mem_map.2 ⟨q, hq, rfl⟩)) hKG
     ·intro fn hfn hbody hname; unfold execOp; simp only [resolve, hev, Deferred.ofValue, invoke, Sem.run_bind, Sem.run_pure, Result.andThen_ok]; unfold callFunc program; simp only [Sem.run_bind, Sem.run, Result.andThen_ok, hfn, hbody, hname]; simp
     ·intro ρ' hfr; rw [Array.toList_map]; exact mapM_eval hfr args.toList vs hvs
    ·next vs f hvs hv _ =>
     have hev : a.eval (.tmp t) = .func (.func f) #[] #[] := opd_den (x := .tmp t) d.fr hv; refine callA_den (av := args.map a.eval) c.con c.lnm c.keepB hQ hb (d.pre c) d ?_ ?_ h hK (fun q hq => List.mem_append_right _ (List.mem_map.2 ⟨q, hq, rfl⟩)) hKG
     ·intro fn hfn hbody hname; unfold execOp; simp only [resolve, hev, Deferred.ofValue, invoke, Sem.run_bind, Sem.run_pure, Result.andThen_ok]; unfold callFunc program; simp only [Sem.run_bind, Sem.run, Result.andThen_ok, hfn, hbody, hname]; simp
     ·intro ρ' hfr; rw [Array.toList_map]; exact mapM_eval hfr args.toList vs hvs
    ·exact h.elim
   | _ => exact h.elim
  | _ => exact h.elim
 | _ => exact h.elim
theorem actX_den (c : Ctx P Γ σ w0) (hQ : Γ.np = false → ∀ ch w', σ.pan0 ch → Kept σ.lent σ.base w0 w' → KeepB Γ σ a w' → Q (.panic ch) a w') (d : Den σ S β ρ w0 a w) (ha : isAct P Γ o S = true) (h : (actX P Γ o S k).den σ ρ) (hK : ∀ a' w', AOut σ S k β ρ w0 (touchG Γ o S) a' w' → K a' w') : o.wp P a w K Q := by
 unfold actX at h; obtain ⟨S1, ρ1, h, d1, a1, n1, f1⟩ := prep_den d h; refine act_den c hQ d1 (by rw [isAct_fr f1]; exact ha) h fun a' w' ⟨S', β', ρ', x1, x2, x3, x4, x5⟩ => hK a' w' ?_
 rw [show touchG Γ o S1 = touchG Γ o S by unfold touchG; rw [touch_fr f1]] at x4; split at x1
 ·exact ⟨S', β', ρ', x1, x2, a1.trans x3 n1, x4, Nat.le_trans n1 x5⟩
 ·obtain ⟨β'', y1, y2, y3⟩ := adopts_den (P := P) Γ.rcells S' β' x2; refine ⟨_, β'', ρ', x1, y2, a1.trans x3 n1, (x4.trans y1).wide (fun m h => ?_) (fun m h => ?_), by rw [y3]; exact Nat.le_trans n1 x5⟩
  ·rcases h with h | h
   ·exact h
   ·exact h.elim
  ·rcases h with h | h
   ·exact h
   ·exact List.mem_append_right _ h
theorem step_den (c : Ctx P Γ σ w0) (hQ : Γ.np = false → ∀ ch w', σ.pan0 ch → Kept σ.lent σ.base w0 w' → KeepB Γ σ a w' → Q (.panic ch) a w') (d : Den σ S β ρ w0 a w) (h : (step P Γ o S k).den σ ρ) (hK : ∀ a' w', AOut σ S k β ρ w0 (touchG Γ o S) a' w' → K a' w') : o.wp P a w K Q := by
 unfold step at h; split at h
 ·next ha => exact actX_den c hQ d ha h hK
 ·obtain ⟨v, ρ', S', hal, hsm, hor, hkn, hk, hrun⟩ := quiet_den (okm := fun _ => true) ⟨w, (d.memOk c).1⟩ d.kn d.fr d.ex o h; have d' : Den σ S β ρ' w0 a w := by
   rcases hor with rfl | hok
   ·exact d
   ·exact d.alike hal hok
  refine wp_value (hrun w (d'.memOk c)) (hK _ _ ⟨_, β, ρ', hk, (d'.sim hsm hkn).put o.dst v, hal, Near.refl _ _ _, by rw [put_nv]; exact hsm.nv⟩)
theorem get_bool (hfr : ∀ t v, S.fr.lookup t = some v → a.tmps[t]? = some (v.den β ρ)) {j dd : Nat} {q : X} (hd : (ops[j]?).bind (·.dst) = some dd) (hg : S.get dd = some (.s (.one (.bool q)))) : yielded ops a.tmps j = some (q.den ρ).B := by
 unfold yielded; rw [hd]; show (match a.tmps[dd]? with | some (.bool b) => some b | _ => none) = _; rw [hfr dd _ hg]; rfl
theorem put_bool (hfr : ∀ t v, S.fr.lookup t = some v → a.tmps[t]? = some (v.den β ρ)) (d : Den σ S β ρ w0 a w) {dd : Nat} {q : X} {b : Bool} (hg : S.get dd = some (.s (.one (.bool q)))) (hb : (q.den ρ).B = b) : Den σ (S.put (some dd) (.s (.one (.bool (.bool b))))) β ρ w0 a w := by
 have := d.put (some dd) (.s (.one (.bool (.bool b)))); have e : a.put (some dd) ((SV.s (.one (.bool (.bool b)))).den β ρ) = a := by
  have h0 := hfr dd _ hg; have h1 : (SV.s (.one (.bool (.bool b)))).den β ρ = (SV.s (.one (.bool q))).den β ρ := by
   show Value.bool b = Value.bool (q.den ρ).B; rw [hb]
  rw [h1]; show (⟨a.tmps.setIfInBounds dd _, a.defers⟩ : Act) = a; have : a.tmps.setIfInBounds dd ((SV.s (.one (.bool q))).den β ρ) = a.tmps := by
   apply Array.ext_getElem?; intro i
   by_cases hi : i = dd
   ·subst hi; have hl : i < a.tmps.size := by
     rcases Nat.lt_or_ge i a.tmps.size with h | h
     ·exact h
     ·rw [Array.getElem?_eq_none h] at h0; cases h0
    rw [Array.getElem?_setIfInBounds_self_of_lt hl, h0]
   ·rw [Array.getElem?_setIfInBounds_ne (Ne.symm hi)]
  rw [this]
 rw [e] at this; exact this
theorem Den.know (d : Den σ S β ρ w0 a w) {q : X} (hq : q.holds ρ) : Den σ (S.know q) β ρ w0 a w :=
 d.sim ⟨rfl, rfl, rfl, rfl, rfl, rfl, Nat.le_refl _⟩ fun c hc => by
  rcases List.mem_cons.1 hc with rfl | hc
  ·exact hq
  ·exact d.kn c hc
theorem put_get (S : St) (d : Nat) (v : SV) (t : Nat) : (S.put (some d) v).get t = some v ∨ (S.put (some d) v).get t = S.get t := by
 unfold St.put St.get; simp only; split
 ·by_cases h : t = d
  ·subst h; left; rw [List.lookup_cons]; simp
  ·right; rw [List.lookup_cons]; have : (t == d) = false := by simpa using h
   rw [this]; simp only
   induction S.fr with
   | nil => rfl
   | cons p l ih =>
    rw [List.filter_cons]; split
    ·rw [List.lookup_cons, List.lookup_cons]; split
     ·rfl
     ·exact ih
    ·next hp =>
     rw [List.lookup_cons]; have hp : p.1 = d := by simpa using hp
     have : (t == p.1) = false := by rw [hp]; simpa using h
     rw [this]; exact ih
 ·exact .inr rfl
theorem touch_put {dd : Nat} {q : X} : ∀ m ∈ touch o (S.put (some dd) (.s (.one (.bool q)))), m ∈ touch o S := by
 intro m hm; unfold touch at hm ⊢
 rcases List.mem_append.1 hm with hm | hm
 ·exact List.mem_append_left _ hm
 ·refine List.mem_append_right _ ?_; split at hm
  ·split at hm
   ·next x l hx =>
    have : (S.put (some dd) (.s (.one (.bool q)))).opd x = some (.s (.one (.bool q))) ∨ (S.put (some dd) (.s (.one (.bool q)))).opd x = S.opd x := by
     cases x with
     | tmp t => exact put_get S dd _ t
     | const v => exact .inr rfl
     | global g => exact .inr rfl
     | func f => exact .inr rfl
    rcases this with e | e
    ·rw [e] at hm; cases hm
    ·rw [e] at hm; exact hm
   ·cases hm
  ·cases hm
theorem touchG_put {dd : Nat} {q : X} : ∀ m ∈ touchG Γ o (S.put (some dd) (.s (.one (.bool q)))), m ∈ touchG Γ o S := fun m hm => by
 rcases List.mem_append.1 hm with h | h
 ·exact List.mem_append_left _ (touch_put m h)
 ·exact List.mem_append_right _ h
theorem stepG_den (c : Ctx P Γ σ w0) (hQ : Γ.np = false → ∀ ch w', σ.pan0 ch → Kept σ.lent σ.base w0 w' → KeepB Γ σ a w' → Q (.panic ch) a w') (d : Den σ S β ρ w0 a w) {i : Nat} (hi : ops[i]? = some o) (h : (stepG P Γ ops o S k).den σ ρ) (hK : ∀ a' w', AOut σ S k β ρ w0 (touchG Γ o S) a' w' → K a' w') : wpOp P ops Q i K a w := by
 unfold wpOp; simp only [hi]; unfold stepG at h; have kill : ∀ {S1 : St}, Den σ S1 β ρ w0 a w → S1.nv = S.nv → (k (S1.put o.dst undefS)).den σ ρ → K (a.put o.dst undef) w := fun d1 e h1 => hK _ _ ⟨_, β, ρ, h1, d1.put o.dst undefS, Alike.refl _ _, Near.refl _ _ _, by rw [put_nv, e]; exact Nat.le_refl _⟩
 split at h
 ·next hg =>
  have : Region.wanted o (yielded ops a.tmps) = true := by unfold Region.wanted; rw [hg]
  rw [if_pos this]; exact .inl (step_den c hQ d h hK)
 ·next j want hg =>
  split at h
  ·exact h.elim
  ·next dd hd =>
   have hw : ∀ b, yielded ops a.tmps j = some b → Region.wanted o (yielded ops a.tmps) = (b == want) := by
    intro b hb; unfold Region.wanted; rw [hg]; simp only [hb]; rfl
   split at h
   ·next t ht =>
    have hy := get_bool d.fr hd ht; have hy := hw _ hy; have hy : Region.wanted o (yielded ops a.tmps) = (t == want) := hy; split at h
    ·next e =>
     rw [hy, e, if_pos (by simp)]; exact .inl (step_den c hQ d h hK)
    ·next e =>
     rw [hy, if_neg (by simpa using e)]; exact kill d rfl h
   ·next q _ ht =>
    have hy := hw _ (get_bool d.fr hd ht); rw [hy]; obtain ⟨h1, h2⟩ := h; have step1 : ∀ b r, r.holds ρ → (q.den ρ).B = b → (step P Γ o ((S.know r).put (some dd) (.s (.one (.bool (.bool b))))) k).den σ ρ → o.wp P a w K Q := fun b r hr hb h' =>
     step_den c hQ (put_bool (S := S.know r) d.fr (d.know hr) ht hb) h' fun a' w' ⟨S', β', ρ', x1, x2, x3, x4, x5⟩ => hK a' w' ⟨S', β', ρ', x1, x2, by rw [put_nv] at x3; exact x3, x4.wide (fun m hm => touchG_put (S := S.know r) m hm) (fun m hm => touchG_put (S := S.know r) m hm), by rw [put_nv] at x5; exact x5⟩
    cases hq : (q.den ρ).B with
    | true =>
     have hqh := (X.holds_iff ρ q).2 hq; have g1 := h1 hqh; dsimp only at g1; split at g1
     ·next hw' => 
      subst hw'; rw [if_pos (by rfl)]; exact .inl (step1 true q hqh hq g1)
     ·next hw' =>
      rw [if_neg (by simpa using hw')]; exact kill (put_bool (S := S.know q) d.fr (d.know hqh) ht hq) (put_nv ..) g1
    | false =>
     have hqh : (X.not q).holds ρ := (X.holds_iff ρ _).2 (by rw [not_den, hq]; rfl); have g2 := h2 hqh; dsimp only at g2; split at g2
     ·next hw' =>
      subst hw'; rw [if_neg (by simp)]; exact kill (put_bool (S := S.know (X.not q)) d.fr (d.know hqh) ht hq) (put_nv ..) g2
     ·next hw' =>
      have : want = false := by simpa using hw'
      subst this; rw [if_pos (by rfl)]; exact .inl (step1 false (X.not q) hqh hq g2)
   ·next ht =>
    have hy : yielded ops a.tmps j = none := by
     unfold yielded; rw [hd]; show (match a.tmps[dd]? with | some (.bool b) => some b | _ => none) = _; rw [d.fr dd _ ht]; rfl
    have hy : Region.wanted o (yielded ops a.tmps) = false := by
     unfold Region.wanted; rw [hg]; simp only [hy]; rfl
    rw [hy, if_neg (by simp)]; exact kill d rfl h
   ·exact h.elim
def wpOpsK (P : Program) (ops : Array Oper) (Q : Exit → Act → World → Prop) (K : Act → World → Prop) : List Nat → Act → World → Prop
 | [], a, w => K a w
 | i :: l, a, w => wpOp P ops Q i (wpOpsK P ops Q K l) a w
theorem wpOpsK_eq : ∀ l : List Nat, wpOps P ops Q l = wpOpsK P ops Q (Q .normal) l
 | [] => rfl
 | i :: l => by
  funext a w; rw [wpOps_cons, wpOpsK_eq l]; rfl
theorem wpOpsK_app (K : Act → World → Prop) (m : List Nat) : ∀ l : List Nat, wpOpsK P ops Q K (l ++ m) = wpOpsK P ops Q (wpOpsK P ops Q K m) l
 | [] => rfl
 | i :: l => by
  funext a w; show wpOp P ops Q i (wpOpsK P ops Q K (l ++ m)) a w = wpOp P ops Q i _ a w; rw [wpOpsK_app K m l]
theorem runOps_denK (c : Ctx P Γ σ w0) (hQ : ∀ ch a w', σ.pan0 ch → a.defers = σ.df → Kept σ.lent σ.base w0 w' → KeepB Γ σ a w' → Q (.panic ch) a w') : ∀ (l : List Nat) (k : St → VC) (K : Act → World → Prop) (S : St) (β : Beta) (ρ : Nat → U) (a : Act) (w : World), Den σ S β ρ w0 a w → (runOps P Γ ops l S k).den σ ρ → (∀ S' β' ρ' a' w', (k S').den σ ρ' → Den σ S' β' ρ' w0 a' w' → Alike S.nv ρ ρ' → S.nv ≤ S'.nv → K a' w') → wpOpsK P ops Q K l a w
 | [], k, K, S, β, ρ, a, w, d, h, hK => hK S β ρ a w h d (Alike.refl _ _) (Nat.le_refl _)
 | i :: l, k, K, S, β, ρ, a, w, d, h, hK => by
  show wpOp P ops Q i (wpOpsK P ops Q K l) a w; unfold runOps at h; split at h
  ·exact h.elim
  ·next o hi =>
   exact stepG_den c (fun _ ch w' h1 h2 h3 => hQ ch a w' h1 d.df h2 h3) d hi h fun a' w' ⟨S', β', ρ', h1, h2, h3, _, h5⟩ => runOps_denK c hQ l k K S' β' ρ' a' w' h2 h1 fun S'' β'' ρ'' a'' w'' g1 g2 g3 g4 => hK S'' β'' ρ'' a'' w'' g1 g2 (h3.trans g3 h5) (Nat.le_trans h5 g4)
theorem pickAt_app {g : Nat} : ∀ {l l0 l' : List Nat} {p : Nat}, pickAt ops g l = some (l0, p, l') → l = l0 ++ l'
 | [], _, _, _, h => by cases h
 | i :: l, l0, l', p, h => by
  have more : (pickAt ops g l).map (fun r => (i :: r.1, r.2)) = some (l0, p, l') → i :: l = l0 ++ l' := fun h => by
   rw [Option.map_eq_some_iff] at h; obtain ⟨⟨m0, q, m'⟩, hm, he⟩ := h; injection he with h1 h2
   injection h2 with h2 h3
   subst h1; subst h2; subst h3; rw [pickAt_app hm]; rfl
  unfold pickAt at h; split at h
  ·split at h
   ·split at h
    ·injection h with h
     injection h with h1 h2
     injection h2 with h2 h3
     subst h1; subst h3; rfl
    ·exact more h
   ·exact more h
  ·cases h
theorem iteX_den (ρ : Nat → U) (q x y : X) : ((iteX q x y).den ρ).B = bif (q.den ρ).B then (x.den ρ).B else (y.den ρ).B := by
 unfold iteX; cases hq : (q.den ρ).B <;> split <;> simp [X.den, BOp.den, TOp.den, UB, not_den, hq]
theorem like_spec {T : St} {q : X} (h : S.like T q = true) : T.nt = S.nt ∧ T.blk = S.blk ∧ T.row = S.row ∧ T.facts = S.facts ∧ T.exp = S.exp ∧ T.nv = S.nv ∧ (∀ c ∈ S.known, c ∈ T.known) ∧ q ∈ T.known ∧ T.ok = true := by
 unfold St.like at h; simp only [Bool.and_eq_true, beq_iff_eq, List.all_eq_true] at h; obtain ⟨⟨⟨⟨⟨⟨⟨⟨h1, h2⟩, h3⟩, h4⟩, h5⟩, h6⟩, h7⟩, h8⟩, h9⟩ := h; exact ⟨h1, h2, h3, h4, h5, h6, fun c hc => by simpa using h7 c hc, by simpa using h8, h9⟩
theorem merge_weak {T : St} {q : X} (hl : S.like T q = true) (d : Den σ T β ρ w0 a w) {fr : List (Nat × SV)} (hfr : ∀ t v, fr.lookup t = some v → a.tmps[t]? = some (v.den β ρ)) : Den σ { S with fr := fr } β ρ w0 a w := by
 obtain ⟨h1, h2, h3, h4, h5, h6, h7, h8, h9⟩ := like_spec hl; have hf : foot β { S with fr := fr } = foot β T := by unfold foot; rw [h2, h3]
 refine ⟨d.df, d.nt.trans h1, hfr, ?_, ?_, by rw [hf]; exact d.nd, ?_, ?_, ?_, fun c hc => d.kn c (h7 c hc), d.bl⟩
 ·show ∀ q ∈ S.blk, _; rw [← h2]; exact d.bk
 ·show ∀ r ∈ S.row, _; rw [← h3]; exact d.rw
 ·show (S.row.map RowS.m).Nodup; rw [← h3]; exact d.rn
 ·show ∀ e ∈ S.exp, _; rw [← h5]; exact d.ex
 ·rw [hf]; show ∀ F ∈ S.facts, _; rw [← h4]; exact d.fx
theorem lookup_kept {f : Nat × SV → Bool} {L : List (Nat × SV)} {t : Nat} {v : SV} (h : (L.filter f).lookup t = some v) : f (t, v) = true := (List.mem_filter.1 (lookup_mem h)).2
theorem merge_den {T1 T2 M : St} {p : Nat} {q : X} (hM : mergeS S T1 T2 p q = some M) : S.nv = M.nv ∧ T1.ok = true ∧ T2.ok = true ∧ T1.nv = S.nv ∧ T2.nv = S.nv ∧ (Den σ T1 β ρ w0 a w → Den σ M β ρ w0 a w) ∧ (Den σ T2 β ρ w0 a w → Den σ M β ρ w0 a w) := by
 unfold mergeS at hM; split at hM
 ·next x y hx hy =>
  split at hM
  ·next hl =>
   rw [Bool.and_eq_true] at hl; obtain ⟨l1, l2⟩ := hl; injection hM with hM
   subst hM; obtain ⟨_, _, _, _, _, n1, _, k1, o1⟩ := like_spec l1; obtain ⟨_, _, _, _, _, n2, _, k2, o2⟩ := like_spec l2; refine ⟨rfl, o1, o2, n1, n2, fun d => merge_weak l1 d fun t v hv => ?_, fun d => merge_weak l2 d fun t v hv => ?_⟩
   ·rw [List.lookup_cons] at hv; split at hv
    ·next he =>
     have e : t = p := by simpa using he
     subst e; injection hv with hv
     subst hv; rw [d.fr t _ hx]; have hq := (X.holds_iff ρ q).1 (d.kn q k1); show some (Value.bool (x.den ρ).B) = some (Value.bool ((iteX q x y).den ρ).B); rw [iteX_den, hq]; rfl
    ·have := lookup_kept hv; simp only [Bool.and_eq_true, beq_iff_eq] at this; exact d.fr t v this.1.2
   ·rw [List.lookup_cons] at hv; split at hv
    ·next he =>
     have e : t = p := by simpa using he
     subst e; injection hv with hv
     subst hv; rw [d.fr t _ hy]; have hq := (X.holds_iff ρ _).1 (d.kn _ k2); rw [not_den] at hq; have hq : (q.den ρ).B = false := by simpa using hq
     show some (Value.bool (y.den ρ).B) = some (Value.bool ((iteX q x y).den ρ).B); rw [iteX_den, hq]; rfl
    ·have := lookup_kept hv; simp only [Bool.and_eq_true, beq_iff_eq] at this; exact d.fr t v this.2
  ·cases hM
 ·cases hM
theorem openG_get {i g : Nat} {q : X} (h : openG ops S i = some (g, q)) : S.get g = some (.s (.one (.bool q))) := by
 unfold openG at h; split at h
 ·cases h
 ·split at h
  ·cases h
  ·split at h
   ·cases h
   ·next hq =>
    injection h with h
    injection h with h1 h2
    subst h1; subst h2; exact hq
   ·cases h
theorem choice_spec {run : List Nat → St → (St → VC) → VC} {i : Nat} {l l' : List Nat} {M : St} (h : choice run ops S i l = some (M, l')) : ∃ g q l0 p T1 T2, S.get g = some (.s (.one (.bool q))) ∧ i :: l = l0 ++ l' ∧ mergeS S T1 T2 p q = some M ∧ run l0 ((S.know q).put (some g) (.s (.one (.bool (.bool true))))) (isEnd T1) = .top ∧ run l0 ((S.know (X.not q)).put (some g) (.s (.one (.bool (.bool false))))) (isEnd T2) = .top := by
 unfold choice at h; split at h
 ·cases h
 ·next g q hg =>
  split at h
  ·cases h
  ·next l0 p l1 hp =>
   split at h
   ·next T1 T2 _ _ =>
    split at h
    ·next M' hM =>
     split at h
     ·next hr =>
      injection h with h
      injection h with h1 h2
      subst h1; subst h2; exact ⟨g, q, l0, p, T1, T2, openG_get hg, pickAt_app hp, hM, hr.1, hr.2⟩
     ·cases h
    ·cases h
   ·cases h
theorem Alike.symm {n : Nat} {ρ ρ' : Nat → U} (h : Alike n ρ ρ') : Alike n ρ' ρ := fun k hk => (h k hk).symm
theorem runOpsM_den (c : Ctx P Γ σ w0) (hQ : ∀ ch a w', σ.pan0 ch → a.defers = σ.df → Kept σ.lent σ.base w0 w' → KeepB Γ σ a w' → Q (.panic ch) a w') : ∀ (f : Nat) (l : List Nat) (k : St → VC) (K : Act → World → Prop) (S : St) (β : Beta) (ρ : Nat → U) (a : Act) (w : World), Den σ S β ρ w0 a w → (runOpsM P Γ ops f l S k).den σ ρ → (∀ S' β' ρ' a' w', (k S').den σ ρ' → Den σ S' β' ρ' w0 a' w' → Alike S.nv ρ ρ' → S.nv ≤ S'.nv → K a' w') → wpOpsK P ops Q K l a w
 | 0, l, k, K, S, β, ρ, a, w, d, h, hK => runOps_denK c hQ l k K S β ρ a w d h hK
 | f + 1, [], k, K, S, β, ρ, a, w, d, h, hK => hK S β ρ a w h d (Alike.refl _ _) (Nat.le_refl _)
 | f + 1, i :: l, k, K, S, β, ρ, a, w, d, h, hK => by
  unfold runOpsM at h; split at h
  ·next M l' hc =>
   obtain ⟨g, q, l0, p, T1, T2, hg, hl, hM, r1, r2⟩ := choice_spec hc; rw [hl, wpOpsK_app]; have isend : ∀ {T S' : St} {ρ' : Nat → U}, (isEnd T S').den σ ρ' → S' = T := fun {T S' ρ'} h => by
    unfold isEnd at h; split at h
    ·next e => exact e
    ·exact h.elim
   cases hq : (q.den ρ).B with
   | true =>
    have hqh := (X.holds_iff ρ q).2 hq; refine runOpsM_den c hQ f l0 (isEnd T1) _ _ β ρ a w (put_bool (S := S.know q) d.fr (d.know hqh) hg hq) (by rw [r1]; trivial) fun S' β' ρ' a' w' hk d' hal hnv => ?_
    obtain rfl := isend hk; obtain ⟨m1, m2, m3, m4, m5, m6, m7⟩ := merge_den (σ := σ) (β := β') (ρ := ρ) (w0 := w0) (a := a') (w := w') hM; rw [put_nv] at hal; have hok : S'.upto S.nv = true := by rw [← m4]; exact m2
    have d2 := m6 (d'.alike (Alike.symm hal) hok); refine runOpsM_den c hQ f l' k K M β' ρ a' w' d2 h fun S'' β'' ρ'' a'' w'' g1 g2 g3 g4 => hK S'' β'' ρ'' a'' w'' g1 g2 (by rw [m1]; exact g3) (by rw [m1]; exact g4)
   | false =>
    have hqh : (X.not q).holds ρ := (X.holds_iff ρ _).2 (by rw [not_den, hq]; rfl); refine runOpsM_den c hQ f l0 (isEnd T2) _ _ β ρ a w (put_bool (S := S.know (X.not q)) d.fr (d.know hqh) hg hq) (by rw [r2]; trivial) fun S' β' ρ' a' w' hk d' hal hnv => ?_
    obtain rfl := isend hk; obtain ⟨m1, m2, m3, m4, m5, m6, m7⟩ := merge_den (σ := σ) (β := β') (ρ := ρ) (w0 := w0) (a := a') (w := w') hM; rw [put_nv] at hal; have hok : S'.upto S.nv = true := by rw [← m5]; exact m3
    have d2 := m7 (d'.alike (Alike.symm hal) hok); refine runOpsM_den c hQ f l' k K M β' ρ a' w' d2 h fun S'' β'' ρ'' a'' w'' g1 g2 g3 g4 => hK S'' β'' ρ'' a'' w'' g1 g2 (by rw [m1]; exact g3) (by rw [m1]; exact g4)
  ·show wpOp P ops Q i (wpOpsK P ops Q K l) a w; split at h
   ·exact h.elim
   ·next o hi =>
    exact stepG_den c (fun _ ch w' h1 h2 h3 => hQ ch a w' h1 d.df h2 h3) d hi h fun a' w' ⟨S', β', ρ', h1, h2, h3, _, h5⟩ => runOpsM_den c hQ f l k K S' β' ρ' a' w' h2 h1 fun S'' β'' ρ'' a'' w'' g1 g2 g3 g4 => hK S'' β'' ρ'' a'' w'' g1 g2 (h3.trans g3 h5) (Nat.le_trans h5 g4)
end
section
variable {P : Program} {Γ : Cfg} {σ : Sm} {k : St → VC} {w0 : World} {Q : Exit → Act → World → Prop} {ops : Array Oper}
structure Tie (S0 : St) (names : List Nat) (β0 : Beta) (ρ0 : Nat → U) (S : St) (β : Beta) (ρ : Nat → U) : Prop where
 al : Alike S0.nv ρ0 ρ
 nv : S0.nv ≤ S.nv
 st : static names S0 S = true
 fs : ∀ F ∈ S0.facts, F ∈ S.facts
 bl : ∀ m ∈ names, β.blk m = β0.blk m ∧ β.row m = β0.row m
 jk : β.junk = β0.junk
theorem static_blk {names : List Nat} {S T : St} (h : static names S T = true) {m : Nat} (hm : m ∈ names) : S.blk.lookup m = T.blk.lookup m ∧ S.rowOf m = T.rowOf m := by
 unfold static at h; rw [List.all_eq_true] at h; have := h m hm; simp only [Bool.and_eq_true, beq_iff_eq] at this; exact this
theorem shut_cells {l : List Nat} {S : St} (h : shutB l S = true) {q : Nat × Nat × List C1} (hq : q ∈ S.blk) (hm : q.1 ∈ l) : ∀ c ∈ q.2.2, ∀ m ∈ c.mentions, m ∈ l := by
 unfold shutB at h; rw [List.all_eq_true] at h; have := h q hq; have hc : l.contains q.1 = true := by simpa using hm
 rw [hc] at this; simp only [Bool.not_true, Bool.false_or, List.all_eq_true] at this; intro c hc m hm; simpa using this c hc m hm
theorem static_mem {S0 S : St} {names : List Nat} {β0 β : Beta} {ρ0 ρ : Nat → U} {fs : List FX} {w : World} (hok : S0.ok = true) (hsh : shutB names S0 = true) (t : Tie S0 names β0 ρ0 S β ρ) (hfs : fs = S0.facts) : MemOk σ fs (names.contains ·) S0 β0 ρ0 w ↔ MemOk σ fs (names.contains ·) S β ρ w := by
 subst hfs; have hu := hok; unfold St.ok St.upto at hu; simp only [Bool.and_eq_true, List.all_eq_true] at hu; obtain ⟨⟨⟨⟨⟨_, h2⟩, h3⟩, h4⟩, _⟩, _⟩ := hu; have hcells : ∀ m t' cs, S0.block m = some (t', cs) → m ∈ names → cs.map (C1.den β ρ) = cs.map (C1.den β0 ρ0) := by
  intro m t' cs hb hm; have hmem := lookup_blk hb; have hcs := List.all_eq_true.2 (h2 _ hmem); rw [cells_alike t.al β cs hcs]; refine List.map_congr_left fun c hc => ?_
  have hme := shut_cells hsh hmem hm c hc; cases c <;> simp only [C1.den]
  case own j off => rw [(t.bl j (hme j (by simp [C1.mentions]))).1]
  case row j n => rw [(t.bl j (hme j (by simp [C1.mentions]))).2]
  case rowp j n => rw [(t.bl j (hme j (by simp [C1.mentions]))).2]
  case junk j => rw [t.jk]
  case bslc j n => rw [(t.bl j (hme j (by simp [C1.mentions]))).1]
 have hrow : ∀ m r, S0.rowOf m = some r → m ∈ names → (r.n.den ρ = r.n.den ρ0 ∧ r.xs.den ρ = r.xs.den ρ0 ∧ β.row r.m = β0.row r.m) := by
  intro m r hr hm; have := h3 r (rowOf_mem hr); exact ⟨X.den_alike t.al _ this.1, X.den_alike t.al _ this.2, by rw [rowOf_m hr]; exact (t.bl m hm).2⟩
 constructor
 ·rintro ⟨m1, m2, m3⟩; refine ⟨fun F hF => (FX.den_alike t.al σ w F (h4 F hF)).2 (m1 F hF), ?_, ?_⟩
  ·intro m t' cs hb hm; have hm' : m ∈ names := by simpa using hm
   have hb0 : S0.block m = some (t', cs) := (static_blk t.st hm').1.trans hb; rw [(t.bl m hm').1, hcells m t' cs hb0 hm']; exact m2 m t' cs hb0 hm
  ·intro m r hr hm; have hm' : m ∈ names := by simpa using hm
   have hr0 : S0.rowOf m = some r := (static_blk t.st hm').2.trans hr; obtain ⟨e1, e2, e3⟩ := hrow m r hr0 hm'; rw [e1, e2, e3]; exact m3 m r hr0 hm
 ·rintro ⟨m1, m2, m3⟩; refine ⟨fun F hF => (FX.den_alike t.al σ w F (h4 F hF)).1 (m1 F hF), ?_, ?_⟩
  ·intro m t' cs hb hm; have hm' : m ∈ names := by simpa using hm
   have hb1 : S.block m = some (t', cs) := (static_blk t.st hm').1.symm.trans hb; have := m2 m t' cs hb1 hm; rw [(t.bl m hm').1, hcells m t' cs hb hm'] at this; exact this
  ·intro m r hr hm; have hm' : m ∈ names := by simpa using hm
   have hr1 : S.rowOf m = some r := (static_blk t.st hm').2.symm.trans hr; obtain ⟨e1, e2, e3⟩ := hrow m r hr hm'; have := m3 m r hr1 hm; rw [e1, e2, e3] at this; exact this
theorem fold_den {σ : Sm} {ρ : Nat → U} (g : Nat → VC) : ∀ (l : List Nat) (x : VC), (l.foldl (fun acc i => VC.both acc (g i)) x).den σ ρ → x.den σ ρ ∧ ∀ i ∈ l, (g i).den σ ρ
 | [], x, h => ⟨h, fun _ h => by cases h⟩
 | i :: l, x, h => by
  rw [List.foldl_cons] at h; obtain ⟨h1, h2⟩ := fold_den g l _ h; rw [VC.both_iff] at h1; exact ⟨h1.1, fun j hj => by rcases List.mem_cons.1 hj with rfl | hj; exact h1.2; exact h2 j hj⟩
theorem put_same (S : St) (d : Option Nat) (v : SV) : (S.put d v).blk = S.blk ∧ (S.put d v).row = S.row ∧ (S.put d v).facts = S.facts := by
 unfold St.put; split
 ·exact ⟨rfl, rfl, rfl⟩
 ·split <;> exact ⟨rfl, rfl, rfl⟩
theorem wantedS_den {S : St} {β : Beta} {ρ : Nat → U} {a : Act} {o : Oper} (hfr : ∀ t v, S.fr.lookup t = some v → a.tmps[t]? = some (v.den β ρ)) (h : wantedS ops o S = true) : Region.wanted o (yielded ops a.tmps) = true := by
 unfold wantedS at h; unfold Region.wanted; split at h
 ·next hg => rw [hg]
 ·next j want hg =>
  rw [hg]; split at h
  ·next t ht =>
   rw [Option.bind_eq_some_iff] at ht; obtain ⟨dd, hd, ht⟩ := ht; have := get_bool hfr hd ht; simp only; rw [this]; simpa [X.den, U.B] using h
  ·cases h
theorem runAny_den (c : Ctx P Γ σ w0) (hnp : Γ.np = true) (hQ : ∀ ch a w, ¬ Q (.panic ch) a w) {S0 : St} {names : List Nat} {β0 : Beta} {ρ0 : Nat → U} (hns : Region.noSelect ops = true) (hok : S0.ok = true) (hsh : shutB names S0 = true) (hK : ∀ S' β' ρ' a' w', (k S').den σ ρ' → Den σ S' β' ρ' w0 a' w' → Alike S0.nv ρ0 ρ' → S0.nv ≤ S'.nv → Q .normal a' w') :
    ∀ (g n : Nat) (listed : Array Bool) (S : St) (β : Beta) (ρ : Nat → U) (a : Act) (w : World), Den σ S β ρ w0 a w → Tie S0 names β0 ρ0 S β ρ → (runAny P Γ ops names S0 g n listed S k).den σ ρ →
      wpAnyH P .any ops Q (MemOk σ S0.facts (names.contains ·) S0 β0 ρ0) n listed a w := by
  intro g
  have hold : ∀ {S : St} {β : Beta} {ρ : Nat → U} {a : Act} {w : World}, Den σ S β ρ w0 a w → Tie S0 names β0 ρ0 S β ρ → MemOk σ S0.facts (names.contains ·) S0 β0 ρ0 w := by
    intro S β ρ a w d t
    refine (static_mem hok hsh t rfl).2 ?_
    have := d.memOk c
    exact ⟨fun F hF => this.1 F (t.fs F hF), fun m t' cs hb _ => this.2.1 m t' cs hb rfl, fun m r hr _ => this.2.2 m r hr rfl⟩
  have know : ∀ {S : St} {β : Beta} {ρ : Nat → U} {dd : Nat} {q : X} {b : Bool}, Tie S0 names β0 ρ0 S β ρ → Tie S0 names β0 ρ0 ((S.know q).put (some dd) (.s (.one (.bool (.bool b))))) β ρ := by
    intro S β ρ dd q b t
    have hps := put_same (S.know q) (some dd) (.s (.one (.bool (.bool b))))
    refine ⟨t.al, by rw [put_nv]; exact t.nv, ?_, ?_, t.bl, t.jk⟩
    · have := t.st
      unfold static at this ⊢
      rw [hps.1, hps.2.1]
      exact this
    · rw [hps.2.2]
      exact t.fs
  induction g with
  | zero =>
    intro n listed S β ρ a w d t h
    exact h.elim
  | succ g ih =>
    intro n listed S β ρ a w d t h
    unfold runAny at h
    split at h
    · next hr => exact wpAnyH_done hr (hK S β ρ a w h d t.al t.nv) _
    · exact h.elim
    · next i0 rs n hr =>
      split at h
      · next dd q hp =>
        obtain ⟨i, hi, hpi⟩ := List.exists_of_findSome?_eq_some hp
        have hg : S.get dd = some (.s (.one (.bool q))) := by
          unfold pend at hpi
          split at hpi
          · cases hpi
          · split at hpi
            · cases hpi
            · split at hpi
              · cases hpi
              · next q' _ hq =>
                injection hpi with hpi
                injection hpi with e1 e2
                subst e1; subst e2
                exact hq
              · cases hpi
        obtain ⟨h1, h2⟩ := h
        cases hq : (q.den ρ).B with
        | true =>
          have hqh := (X.holds_iff ρ q).2 hq
          exact ih (n + 1) listed _ β ρ a w (put_bool (S := S.know q) d.fr (d.know hqh) hg hq) (know t) (h1 hqh)
        | false =>
          have hqh : (X.not q).holds ρ := (X.holds_iff ρ _).2 (by rw [not_den, hq]; rfl)
          exact ih (n + 1) listed _ β ρ a w (put_bool (S := S.know (X.not q)) d.fr (d.know hqh) hg hq) (know t) (h2 hqh)
      · split at h
        · next i hi =>
          have htk := List.find?_some hi
          have hmem := List.mem_of_find?_eq_some hi
          split at h
          · next o ho =>
            rw [ho] at htk
            simp only [Bool.and_eq_true] at htk
            obtain ⟨hsk, hfree⟩ := htk
            have hnw : Region.wanted o (yielded ops a.tmps) = false := by
              unfold skipS at hsk
              unfold Region.wanted
              split at hsk
              · cases hsk
              · next j want hg =>
                rw [hg]
                split at hsk
                · next tt ht =>
                  rw [Option.bind_eq_some_iff] at ht
                  obtain ⟨dd, hd, ht⟩ := ht
                  have := get_bool d.fr hd ht
                  simp only
                  rw [this]
                  simpa [X.den, U.B] using hsk
                · next ht =>
                  rw [Option.bind_eq_some_iff] at ht
                  obtain ⟨dd, hd, ht⟩ := ht
                  have : yielded ops a.tmps j = none := by
                    unfold yielded
                    rw [hd]
                    show (match a.tmps[dd]? with | some (.bool b) => some b | _ => none) = _
                    rw [d.fr dd _ ht]
                    rfl
                  simp only
                  rw [this]
                  rfl
                · cases hsk
            refine wpAnyH_take ho hns hfree (by rw [hr]; simpa using hmem) (fun ch a w hq => absurd hq (hQ _ _ _)) (.inr ⟨hnw, rfl⟩) (hold d t) ?_
            refine ih n _ _ β ρ _ w (d.put o.dst undefS) ⟨t.al, by rw [put_nv]; exact t.nv, ?_, ?_, t.bl, t.jk⟩ h
            · have := t.st
              cases o.dst with
              | none => exact this
              | some dd => unfold St.put; simp only; split <;> exact this
            · have := t.fs
              cases o.dst with
              | none => exact this
              | some dd => unfold St.put; simp only; split <;> exact this
          · exact h.elim
        · split at h
          · next i hi =>
            have htk := List.find?_some hi
            have hmem := List.mem_of_find?_eq_some hi
            split at h
            · next o ho =>
              unfold takes at htk
              rw [ho] at htk
              simp only [Bool.and_eq_true] at htk
              obtain ⟨⟨⟨⟨_, _⟩, hw⟩, hfree⟩, _⟩ := htk
              obtain ⟨v, ρ', S', hal, hsm, hor, hkn, hk, hrun⟩ := quiet_den (okm := (names.contains ·)) ⟨w, ((static_mem hok hsh t rfl).1 (hold d t)).1⟩ d.kn d.fr d.ex o h
              have d' : Den σ S β ρ' w0 a w := by
                rcases hor with rfl | hS
                · exact d
                · exact d.alike hal hS
              dsimp only at hk
              split at hk
              · next hle =>
                have hle : S0.nv ≤ S'.nv := Nat.le_of_ble_eq_true hle
                have t' : Tie S0 names β0 ρ0 S β ρ' := ⟨t.al.trans hal t.nv, t.nv, t.st, t.fs, t.bl, t.jk⟩
                have hy : YieldsIf P ops (MemOk σ S0.facts (names.contains ·) S0 β0 ρ0) o (v.den β ρ') a := by
                  refine .inl ⟨wantedS_den d.fr hw, fun u hu => hrun u ?_⟩
                  exact (static_mem hok hsh t' rfl).1 hu
                refine wpAnyH_take ho hns hfree (by rw [hr]; simpa using hmem) (fun ch a w hq => absurd hq (hQ _ _ _)) hy (hold d t) ?_
                have hps := put_same S' o.dst v
                refine ih n _ _ β ρ' _ w ((d'.sim hsm hkn).put o.dst v) ⟨t'.al, by rw [put_nv]; exact hle, ?_, ?_, t.bl, t.jk⟩ hk
                · have := t.st
                  unfold static at this ⊢
                  rw [hps.1, hps.2.1, hsm.blk, hsm.row]
                  exact this
                · rw [hps.2.2, hsm.facts]
                  exact t.fs
              · exact hk.elim
            · exact h.elim
          · obtain ⟨h1, h2⟩ := fold_den _ rs _ h
            refine wpAnyH_all hr (by simp) fun i hi => ?_
            have hall : ∀ i, (match ops[i]? with
               | some o => stepG P Γ ops o S fun S' => if okAfter Γ ops names S0 S S' o then runAny P Γ ops names S0 g n (listed.setIfInBounds i true) S' k else .no 52
               | none => VC.no 53).den σ ρ → wpOp P ops Q i (fun a' w' => MemOk σ S0.facts (names.contains ·) S0 β0 ρ0 w' ∧ wpAnyH P .any ops Q (MemOk σ S0.facts (names.contains ·) S0 β0 ρ0) n (listed.setIfInBounds i true) a' w') a w := by
              intro i hi
              split at hi
              · next o ho =>
                refine stepG_den c (fun h => by rw [hnp] at h; cases h) d ho hi fun a' w' ⟨S', β', ρ', x1, x2, x3, x4, _⟩ => ?_
                dsimp only at x1
                split at x1
                · next hc =>
                  unfold okAfter at hc
                  simp only [Bool.and_eq_true, List.all_eq_true] at hc
                  obtain ⟨⟨⟨c1, c2⟩, c3⟩, c4⟩ := hc
                  have hnt : ∀ m ∈ names, m ∉ touchG Γ o S := by
                    intro m hm ht
                    have := c3 m ht
                    have hm' : names.contains m = true := by simpa using hm
                    rw [hm'] at this
                    cases this
                  have t' : Tie S0 names β0 ρ0 S' β' ρ' := ⟨t.al.trans x3 t.nv, Nat.le_of_ble_eq_true c4, c1, fun F hF => by simpa using c2 F hF, fun m hm => ⟨(x4.blk m (hnt m hm)).trans (t.bl m hm).1, (x4.row m (hnt m hm)).trans (t.bl m hm).2⟩, x4.junk.trans t.jk⟩
                  exact ⟨hold x2 t', ih n _ S' β' ρ' a' w' x2 t' x1⟩
                · exact x1.elim
              · exact hi.elim
            rcases List.mem_cons.1 hi with rfl | hi
            · exact hall _ h1
            · exact hall _ (h2 i hi)
theorem Den.drawn {S : St} {β : Beta} {ρ : Nat → U} {a : Act} {w : World} (d : Den σ S β ρ w0 a w) (n : Nat) : Den σ S β ρ w0 a { w with drawn := n } :=
 ⟨d.df, d.nt, d.fr, d.bk, d.rw, d.nd, d.rn, d.ex, d.fx, d.kn, ⟨d.bl.os, d.bl.tape, d.bl.output, d.bl.size, d.bl.block⟩⟩
theorem region_den (c : Ctx P Γ σ w0) (hQ : ∀ ch a w', σ.pan0 ch → a.defers = σ.df → Kept σ.lent σ.base w0 w' → KeepB Γ σ a w' → Q (.panic ch) a w') {S : St} {β : Beta} {ρ : Nat → U} {a : Act} {w : World} {id : Nat} {draw : Bool} {kx : Ex → St → VC} (d : Den σ S β ρ w0 a w) (h : (exec P Γ (.region id ops draw) S kx).den σ ρ) (hK : ∀ S' β' ρ' a' w', (kx .normal S').den σ ρ' → Den σ S' β' ρ' w0 a' w' → Alike S.nv ρ ρ' → S.nv ≤ S'.nv → Q .normal a' w') : (Code.region id ops draw).wp P Q a w := by
 unfold exec at h; have hne := needs_den d.kn h; clear h; obtain ⟨_, S1, hsm, hnv1, hkn1, h⟩ := hne; replace d := d.sim hsm hkn1; replace hK : ∀ S' β' ρ' a' w', (kx .normal S').den σ ρ' → Den σ S' β' ρ' w0 a' w' → Alike S1.nv ρ ρ' → S1.nv ≤ S'.nv → Q .normal a' w' := fun S' β' ρ' a' w' g1 g2 g3 g4 => hK S' β' ρ' a' w' g1 g2 (by rw [← hnv1]; exact g3) (by rw [← hnv1]; exact g4)
 clear hsm hnv1 hkn1; split at h
 ·next hd =>
  have hd : draw = true := hd; subst hd; split at h
  ·next hc =>
   simp only [Bool.and_eq_true] at hc; obtain ⟨⟨c1, c2⟩, c3⟩ := hc; refine wp_mono (Q := fun e a w => match e with | .panic _ => False | e => Q e a w) ?_ (fun e a w h => by cases e <;> first | exact h.elim | exact h); refine wp_region_held (S := MemOk σ S1.facts ((staticG Γ ops S1).contains ·) S1 β ρ) c.mixed ?_; have c' : Ctx P { Γ with np := true } σ w0 := ⟨c.con, c.base, c.pre, c.lnm, c.mixed, c.keepB, c.news⟩
   refine runAny_den (Q := fun e a w => match e with | .panic _ => False | e => Q e a w) c' rfl (fun _ _ _ h => h) c1 c2 c3 hK _ _ _ S1 β ρ a _ (d.drawn _) ⟨Alike.refl _ _, Nat.le_refl _, ?_, fun _ h => h, fun _ _ => ⟨rfl, rfl⟩, rfl⟩ h; unfold static; simp
  ·exact h.elim
 ·next hd =>
  have hd : draw = false := by simpa using hd
  subst hd; refine wp_region ?_; rw [wpOpsK_eq]; exact runOpsM_den c hQ _ _ _ _ S1 β ρ a w d h hK
end
theorem least_ex (p : Nat → Prop) : ∃ n, (∃ k, p k) → p n ∧ ∀ m, p m → n ≤ m := by
 by_cases h : ∃ k, p k
 ·obtain ⟨k, hk⟩ := h
  induction k using Nat.strongRecOn with
  | _ k ih =>
   by_cases h' : ∃ j, j < k ∧ p j
   ·obtain ⟨j, hj, hp⟩ := h'; exact ih j hj hp
   ·exact ⟨k, fun _ => ⟨hk, fun m hm => Nat.le_of_not_lt fun hl => h' ⟨m, hl, hm⟩⟩⟩
 ·exact ⟨0, fun h' => absurd h' h⟩
theorem wp_loop_rel {P : Program} {c : Code} {Q : Exit → Act → World → Prop} {a : Act} {w : World} (R : Nat → Act → World → Prop) (h0 : ∃ n, R n a w)
  (round : ∀ n a w, R n a w → c.wp P (Exit.then (fun a' w' => ∃ m, m < n ∧ R m a' w') Q) a w) : (Code.loop c).wp P Q a w := by
 refine wp_loop (fun a w => ∃ n, R n a w) (fun a w => Classical.choose (least_ex fun n => R n a w)) h0 ?_; intro a w hI; obtain ⟨hR, hmin⟩ := Classical.choose_spec (least_ex fun n => R n a w) hI; refine wp_mono (round _ a w hR) ?_; intro e a' w' h; cases e with
 | normal =>
  obtain ⟨m, hm, hRm⟩ := h; have h' : ∃ n, R n a' w' := ⟨m, hRm⟩
  obtain ⟨_, hmin'⟩ := Classical.choose_spec (least_ex fun n => R n a' w') h'; exact ⟨h', Nat.lt_of_le_of_lt (hmin' m hRm) hm⟩
 | _ => exact h
def Ex.x : Ex → Exit
 | .normal => .normal
 | .exit id => .exit id
 | .ret => .ret
theorem havoc_terms {rs : List RowS} {n : Nat} {c c' d : C1} {T : St} {s : List Srt} (h : c.havoc rs n = some (c', s)) (hl : c'.like T d = true) (ρ : Nat → U) : (dens ρ d.terms).map U.srt = s := by
 unfold C1.havoc at h; split at h
 all_goals first
  | (injection h with h; injection h with h1 h2; subst h1; subst h2; cases d <;> first | (simp [C1.like] at hl; done) | rfl)
  | skip
 ·rw [Option.map_eq_some_iff] at h; obtain ⟨r, _, h⟩ := h; injection h with h1 h2
  subst h1; subst h2; cases d <;> first | (simp [C1.like] at hl; done) | rfl
 ·cases h
theorem havocL_terms {rs : List RowS} {T : St} (ρ : Nat → U) : ∀ {l : List C1} {n : Nat} {l' : List C1} {s : List Srt}, havocL rs n l = some (l', s) → ∀ {m : List C1}, likes T l' m = true → (dens ρ (m.flatMap C1.terms)).map U.srt = s
 | [], n, l', s, h, m, hl => by
  injection h with h; injection h with h1 h2; subst h1; subst h2
  cases m with
  | nil => rfl
  | cons _ _ => cases hl
 | c :: l, n, l', s, h, m, hl => by
  unfold havocL at h; split at h
  ·next c' s1 hc =>
   split at h
   ·next l1 s2 hl1 =>
    injection h with h; injection h with h1 h2; subst h1; subst h2
    cases m with
    | nil => cases hl
    | cons d m =>
     simp only [likes, Bool.and_eq_true] at hl; rw [List.flatMap_cons, dens_append, List.map_append, havoc_terms hc hl.1 ρ, havocL_terms ρ hl1 hl.2]
   ·cases h
  ·cases h
theorem havoc_den {rs : List RowS} {n : Nat} {c c' d : C1} {T : St} {s : List Srt} {β β' : Beta} {ρ ρ' : Nat → U} (h : c.havoc rs n = some (c', s)) (hl : c'.like T d = true) (hv : dens ρ' (vars n s.length) = dens ρ d.terms) (hβ : β' = β) (hrs : ∀ r ∈ rs, ∀ r', T.rowOf r.m = some r' → (r.n.den ρ').N = (r'.n.den ρ).N) : c'.den β' ρ' = d.den β ρ := by
  subst hβ
  unfold C1.havoc at h
  split at h
  all_goals first
    | (injection h with h; injection h with h1 h2; subst h1; subst h2
       cases d <;> first
         | (simp [C1.like] at hl; done)
         | (simp only [C1.like, beq_iff_eq] at hl
            simp only [C1.terms, List.length_cons, List.length_nil, vars, dens, List.map_cons, List.map_nil, X.den, UOp.den, List.cons.injEq] at hv
            simp [C1.den, X.den, hv, hl, UI, UB, US, UP, UN, UV]; done))
    | skip
  · next m x =>
    rw [Option.map_eq_some_iff] at h
    obtain ⟨r, hr, h⟩ := h
    injection h with h1 h2
    subst h1; subst h2
    have hrm : r.m = m := by have := List.find?_some hr; simpa using this
    have hri := List.mem_of_find?_eq_some hr
    cases d <;> first
      | (simp [C1.like] at hl; done)
      | skip
    next j y =>
      simp only [C1.like, Bool.and_eq_true, beq_iff_eq] at hl
      obtain ⟨rfl, hl⟩ := hl
      split at hl
      · next r' hr' =>
        have e : r'.n = y := by simpa using hl
        have := hrs r hri r' (by rw [hrm]; exact hr')
        simp only [C1.den]
        rw [this, e]
      · cases hl
  · cases h
theorem vars_app (n : Nat) : ∀ j k : Nat, vars n (j + k) = vars n j ++ vars (n + j) k
 | 0, k => by simp [vars]
 | j + 1, k => by
  rw [show j + 1 + k = (j + k) + 1 by omega]; show X.var n :: vars (n + 1) (j + k) = X.var n :: vars (n + 1) j ++ _; rw [vars_app (n + 1) j k, show n + 1 + j = n + (j + 1) by omega]; rfl
theorem split_app {a b c d : List U} (h : a ++ b = c ++ d) (hl : a.length = c.length) : a = c ∧ b = d := by
 have := List.append_inj h hl; exact this
theorem havocL_den {rs : List RowS} {T : St} {β : Beta} {ρ ρ' : Nat → U} (hrs : ∀ r ∈ rs, ∀ r', T.rowOf r.m = some r' → (r.n.den ρ').N = (r'.n.den ρ).N) : ∀ {l : List C1} {n : Nat} {l' : List C1} {s : List Srt}, havocL rs n l = some (l', s) → ∀ {m : List C1}, likes T l' m = true → dens ρ' (vars n s.length) = dens ρ (m.flatMap C1.terms) → l'.map (C1.den β ρ') = m.map (C1.den β ρ)
 | [], n, l', s, h, m, hl, hv => by
  injection h with h; injection h with h1 h2; subst h1; subst h2
  cases m with
  | nil => rfl
  | cons _ _ => cases hl
 | c :: l, n, l', s, h, m, hl, hv => by
  unfold havocL at h; split at h
  ·next c' s1 hc =>
   split at h
   ·next l1 s2 hl1 =>
    injection h with h; injection h with h1 h2; subst h1; subst h2
    cases m with
    | nil => cases hl
    | cons d m =>
     simp only [likes, Bool.and_eq_true] at hl; rw [List.flatMap_cons, dens_append, List.length_append, vars_app, dens_append] at hv; have ht := havoc_terms hc hl.1 ρ; have hlen : (dens ρ' (vars n s1.length)).length = (dens ρ d.terms).length := by
      have h1 : (dens ρ' (vars n s1.length)).length = s1.length := by
       unfold dens; rw [List.length_map]; have : ∀ k n : Nat, (vars n k).length = k := by
        intro k
        induction k with
        | zero => intro _; rfl
        | succ k ih => intro n; show (vars (n + 1) k).length + 1 = _; rw [ih]
       exact this _ _
      rw [h1, ← ht, List.length_map]
     obtain ⟨v1, v2⟩ := split_app hv hlen; rw [List.map_cons, List.map_cons, havoc_den hc hl.1 v1 rfl hrs, havocL_den hrs hl1 hl.2 v2]
   ·cases h
  ·cases h
theorem vars_len : ∀ k n : Nat, (vars n k).length = k
 | 0, _ => rfl
 | k + 1, n => congrArg (· + 1) (vars_len k (n + 1))
theorem dens_len (ρ : Nat → U) (l : List X) : (dens ρ l).length = l.length := List.length_map ..
theorem mapM_cons {α β : Type} {f : α → Option β} {x : α} {l : List α} {vs : List β} (h : (x :: l).mapM f = some vs) : ∃ v vs', f x = some v ∧ l.mapM f = some vs' ∧ vs = v :: vs' := by
 rw [List.mapM_cons] at h; simp only [Option.bind_eq_bind, Option.bind_eq_some_iff, Option.pure_def, Option.some.injEq] at h; obtain ⟨v, hv, vs', hl, rfl⟩ := h; exact ⟨v, vs', hv, hl, rfl⟩
theorem split_vars {ρ ρ' : Nat → U} {n : Nat} {s1 s2 : List Srt} {a b : List X} (h : dens ρ' (vars n (s1 ++ s2).length) = dens ρ (a ++ b)) (hl : a.length = s1.length) : dens ρ' (vars n s1.length) = dens ρ a ∧ dens ρ' (vars (n + s1.length) s2.length) = dens ρ b := by
 rw [List.length_append, vars_app, dens_append, dens_append] at h; exact split_app h (by rw [dens_len, dens_len, vars_len, hl])
theorem havocR_spec {S T : St} {ρ ρ' : Nat → U} : ∀ {l : List Nat} {n : Nat} {rs : List RowS} {s : List Srt} {vs : List (List X)}, havocR S n l = some (rs, s) → rs.mapM (fitR T) = some vs →
  (dens ρ vs.flatten).map U.srt = s ∧ (dens ρ' (vars n s.length) = dens ρ vs.flatten → ∀ r ∈ rs, ∃ q, T.rowOf r.m = some q ∧ q.e = r.e ∧ q.size = r.size ∧ q.bytes = r.bytes ∧ (r.n.den ρ').N = (q.n.den ρ).N ∧ (r.xs.den ρ').L = (q.xs.den ρ).L)
 | [], n, rs, s, vs, h, hv => by
  injection h with h; injection h with h1 h2; subst h1; subst h2
  simp at hv; subst hv; exact ⟨rfl, fun _ r hr => by cases hr⟩
 | m :: l, n, rs, s, vs, h, hv => by
  unfold havocR at h; split at h
  ·next r hr =>
   rw [Option.map_eq_some_iff] at h; obtain ⟨p, hp, h⟩ := h; injection h with h1 h2
   subst h1; subst h2; obtain ⟨v, vs', hf, hl, rfl⟩ := mapM_cons hv; unfold fitR at hf; split at hf
   ·next q hq =>
    split at hf
    ·next hc =>
     injection hf with hf
     subst hf; obtain ⟨i1, i2⟩ := havocR_spec (ρ := ρ) (ρ' := ρ') (rs := p.1) (s := p.2) (by rw [hp]) hl; refine ⟨by rw [List.flatten_cons, dens_append, List.map_append, i1]; rfl, fun hd => ?_⟩; have hsp := split_vars (s1 := [.n, .l]) (s2 := p.2) (a := [X.un (.co .n) q.n, X.un (.co .l) q.xs]) (b := vs'.flatten) hd rfl; obtain ⟨g1, g2⟩ := hsp; simp only [List.length_cons, List.length_nil, vars, dens, List.map_cons, List.map_nil, X.den, UOp.den, List.cons.injEq] at g1; intro r' hr'
     rcases List.mem_cons.1 hr' with rfl | hr'
     ·exact ⟨q, hq, hc.1, hc.2.1, hc.2.2, by simp only [X.den, g1.1, UN], by simp only [X.den, g1.2.1, UL]⟩
     ·exact i2 g2 r' hr'
    ·cases hf
   ·cases hf
  ·cases h
theorem shavoc_terms {rs : List RowS} {T : St} {ρ : Nat → U} {v v' b : SV1} {n : Nat} {s : List Srt} (h : v.havoc rs n = some (v', s)) (hl : v'.like T b = true) : (dens ρ b.terms).map U.srt = s := by
 cases v with
 | one c =>
  simp only [SV1.havoc, Option.map_eq_some_iff] at h; obtain ⟨p, hp, h⟩ := h; injection h with h1 h2
  subst h1; subst h2; cases b with
  | one d => exact havoc_terms (c' := p.1) (by rw [hp]) hl ρ
  | agg _ => cases hl
 | agg l =>
  simp only [SV1.havoc, Option.map_eq_some_iff] at h; obtain ⟨p, hp, h⟩ := h; injection h with h1 h2
  subst h1; subst h2; cases b with
  | one d => cases hl
  | agg m => exact havocL_terms ρ (l' := p.1) (by rw [hp]) hl
theorem shavoc_den {rs : List RowS} {T : St} {β : Beta} {ρ ρ' : Nat → U} (hrs : ∀ r ∈ rs, ∀ r', T.rowOf r.m = some r' → (r.n.den ρ').N = (r'.n.den ρ).N) {v v' b : SV1} {n : Nat} {s : List Srt} (h : v.havoc rs n = some (v', s)) (hl : v'.like T b = true) (hv : dens ρ' (vars n s.length) = dens ρ b.terms) : v'.den β ρ' = b.den β ρ := by
 cases v with
 | one c =>
  simp only [SV1.havoc, Option.map_eq_some_iff] at h; obtain ⟨p, hp, h⟩ := h; injection h with h1 h2
  subst h1; subst h2; cases b with
  | one d => exact havoc_den (c' := p.1) (by rw [hp]) hl hv rfl hrs
  | agg _ => cases hl
 | agg l =>
  simp only [SV1.havoc, Option.map_eq_some_iff] at h; obtain ⟨p, hp, h⟩ := h; injection h with h1 h2
  subst h1; subst h2; cases b with
  | one d => cases hl
  | agg m => simp only [SV1.den, havocL_den hrs (l' := p.1) (s := p.2) (by rw [hp]) hl hv]
theorem terms_len {ρ : Nat → U} {l : List X} {s : List Srt} (h : (dens ρ l).map U.srt = s) : l.length = s.length := by
 rw [← h, List.length_map, dens_len]
theorem havocS_spec {rs : List RowS} {S T : St} {β : Beta} {ρ ρ' : Nat → U} : ∀ {l : List Nat} {n : Nat} {fs : List (Nat × SV)} {s : List Srt} {vs : List (List X)}, havocS rs S n l = some (fs, s) → fs.mapM (fitF T) = some vs →
  (dens ρ vs.flatten).map U.srt = s ∧ ((∀ r ∈ rs, ∀ r', T.rowOf r.m = some r' → (r.n.den ρ').N = (r'.n.den ρ).N) → dens ρ' (vars n s.length) = dens ρ vs.flatten → ∀ p ∈ fs, ∃ b, T.get p.1 = some b ∧ p.2.den β ρ' = b.den β ρ)
 | [], n, fs, s, vs, h, hv => by
  injection h with h; injection h with h1 h2; subst h1; subst h2
  simp at hv; subst hv; exact ⟨rfl, fun _ _ p hp => by cases hp⟩
 | t :: l, n, fs, s, vs, h, hv => by
  unfold havocS at h; split at h
  ·next v hvv =>
   split at h
   ·next v' s1 hs1 =>
    rw [Option.map_eq_some_iff] at h; obtain ⟨p, hp, h⟩ := h; injection h with h1 h2
    subst h1; subst h2; obtain ⟨u, vs', hf, hl, rfl⟩ := mapM_cons hv; unfold fitF at hf; simp only at hf; split at hf
    ·next a b he hb =>
     have he : SV.s v' = SV.s a := he; injection he with he
     subst he; split at hf
     ·next hlk =>
      injection hf with hf
      subst hf; obtain ⟨i1, i2⟩ := havocS_spec (β := β) (ρ := ρ) (ρ' := ρ') (fs := p.1) (s := p.2) (by rw [hp]) hl; have ht := shavoc_terms (ρ := ρ) hs1 hlk; refine ⟨by rw [List.flatten_cons, dens_append, List.map_append, i1, ht], fun hrs hd => ?_⟩; obtain ⟨g1, g2⟩ := split_vars (s1 := s1) (s2 := p.2) (a := b.terms) (b := vs'.flatten) hd (by rw [← ht, List.length_map, dens_len]); intro x hx
      rcases List.mem_cons.1 hx with rfl | hx
      ·exact ⟨_, hb, shavoc_den hrs hs1 hlk g1⟩
      ·exact i2 hrs g2 x hx
     ·cases hf
    ·cases hf
   ·cases h
  ·cases h
theorem havocB_spec {rs : List RowS} {S T : St} {β : Beta} {ρ ρ' : Nat → U} : ∀ {l : List Nat} {n : Nat} {bs : List (Nat × Nat × List C1)} {s : List Srt} {vs : List (List X)}, havocB rs S n l = some (bs, s) → bs.mapM (fitB T) = some vs →
  (dens ρ vs.flatten).map U.srt = s ∧ ((∀ r ∈ rs, ∀ r', T.rowOf r.m = some r' → (r.n.den ρ').N = (r'.n.den ρ).N) → dens ρ' (vars n s.length) = dens ρ vs.flatten → ∀ q ∈ bs, ∃ cs, T.block q.1 = some (q.2.1, cs) ∧ q.2.2.map (C1.den β ρ') = cs.map (C1.den β ρ))
 | [], n, fs, s, vs, h, hv => by
  injection h with h; injection h with h1 h2; subst h1; subst h2
  simp at hv; subst hv; exact ⟨rfl, fun _ _ p hp => by cases hp⟩
 | m :: l, n, fs, s, vs, h, hv => by
  unfold havocB at h; split at h
  ·next t cs hb0 =>
   split at h
   ·next cs' s1 hs1 =>
    rw [Option.map_eq_some_iff] at h; obtain ⟨p, hp, h⟩ := h; injection h with h1 h2
    subst h1; subst h2; obtain ⟨u, vs', hf, hl, rfl⟩ := mapM_cons hv; unfold fitB at hf; simp only at hf; split at hf
    ·next t' ds hb =>
     split at hf
     ·next hc =>
      obtain ⟨rfl, hlk⟩ := hc; injection hf with hf
      subst hf; obtain ⟨i1, i2⟩ := havocB_spec (β := β) (ρ := ρ) (ρ' := ρ') (bs := p.1) (s := p.2) (by rw [hp]) hl; have ht := havocL_terms ρ hs1 hlk; refine ⟨by rw [List.flatten_cons, dens_append, List.map_append, i1, ht], fun hrs hd => ?_⟩; obtain ⟨g1, g2⟩ := split_vars (s1 := s1) (s2 := p.2) (a := ds.flatMap C1.terms) (b := vs'.flatten) hd (by rw [← ht, List.length_map, dens_len]); intro x hx
      rcases List.mem_cons.1 hx with rfl | hx
      ·exact ⟨ds, hb, havocL_den hrs hs1 hlk g1⟩
      ·exact i2 hrs g2 x hx
     ·cases hf
    ·cases hf
   ·cases h
  ·cases h
end Go.Proofs.Ytgjbcahpgkchfaa.Vc
