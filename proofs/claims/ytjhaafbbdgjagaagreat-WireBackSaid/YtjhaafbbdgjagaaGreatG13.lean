/- Of the texts VcM, VcN, VcO, VcP. -/
import Derived.Test.YtjhaafbbdgjagaaGreatG12
set_option linter.unusedSimpArgs false
set_option linter.unusedVariables false
namespace Go.Proofs.YtjhaafbbdgjagaaGreat.Vc
open Go Go.RowKit
section
variable {P : Program} {Γ : Cfg} {σ : Sm} {w0 : World}
theorem rounds_den {code : Code} {f : St → (Ex → St → VC) → VC} (Q : Exit → Act → World → Prop) (k : Ex → St → VC) (n0 : Nat) (ρ0 : Nat → U)
  (hf : ∀ (Q' : Exit → Act → World → Prop), (∀ ch a w, Q (.panic ch) a w → Q' (.panic ch) a w) → ∀ (S : St) (k' : Ex → St → VC) (β : Beta) (ρ : Nat → U) (a : Act) (w : World), Den σ S β ρ w0 a w → (f S k').den σ ρ → (∀ e S' β' ρ' a' w', (k' e S').den σ ρ' → Den σ S' β' ρ' w0 a' w' → Alike S.nv ρ ρ' → S.nv ≤ S'.nv → Q' e.x a' w') → code.wp P Q' a w)
  (hK : ∀ e S' β' ρ' a' w', (k e S').den σ ρ' → Den σ S' β' ρ' w0 a' w' → Alike n0 ρ0 ρ' → n0 ≤ S'.nv → Q e.x a' w') :
  ∀ (n : Nat) (S : St) (β : Beta) (ρ : Nat → U) (a : Act) (w : World), Den σ S β ρ w0 a w → Alike n0 ρ0 ρ → n0 ≤ S.nv → (rounds f n S k).den σ ρ → Code.rounds P code Q n a w
 | 0, _, _, _, _, _, _, _, _, h => h.elim
 | n + 1, S, β, ρ, a, w, d, hal, hn, h => by
  rw [rounds_succ]; refine hf (Exit.then (Code.rounds P code Q n) Q) (fun ch a w h => h) S _ β ρ a w d h ?_; intro e S' β' ρ' a' w' g1 g2 g3 g4; cases e with
  | normal => exact rounds_den Q k n0 ρ0 hf hK n S' β' ρ' a' w' g2 (hal.trans g3 hn) (Nat.le_trans hn g4) g1
  | exit id => exact hK (.exit id) S' β' ρ' a' w' g1 g2 (hal.trans g3 hn) (Nat.le_trans hn g4)
  | ret => exact hK .ret S' β' ρ' a' w' g1 g2 (hal.trans g3 hn) (Nat.le_trans hn g4)
theorem exec_den (c : Ctx P Γ σ w0) : ∀ (code : Code) (Q : Exit → Act → World → Prop) (hQ : ∀ ch a w', σ.pan0 ch → a.defers = σ.df → Kept σ.lent σ.base w0 w' → KeepB Γ σ a w' → Q (.panic ch) a w') (S : St) (k : Ex → St → VC) (β : Beta) (ρ : Nat → U) (a : Act) (w : World), Den σ S β ρ w0 a w → (exec P Γ code S k).den σ ρ →
  (∀ e S' β' ρ' a' w', (k e S').den σ ρ' → Den σ S' β' ρ' w0 a' w' → Alike S.nv ρ ρ' → S.nv ≤ S'.nv → Q e.x a' w') → code.wp P Q a w := by
 intro code
 induction code with
 | skip => intro Q _ S k β ρ a w d h hK; exact wp_skip (hK .normal S β ρ a w h d (Alike.refl _ _) (Nat.le_refl _))
 | label l => intro Q _ S k β ρ a w d h hK; exact wp_label (hK .normal S β ρ a w h d (Alike.refl _ _) (Nat.le_refl _))
 | region id ops draw =>
  intro Q hQ S k β ρ a w d h hK; exact region_den c hQ d h fun S' β' ρ' a' w' g1 g2 g3 g4 => hK .normal S' β' ρ' a' w' g1 g2 g3 g4
 | seq x y ihx ihy =>
  intro Q hQ S k β ρ a w d h hK; unfold exec at h; split at h
  ·refine wp_seq (ihx (Exit.then (y.wp P Q) Q) (fun ch a w => hQ ch a w) S _ β ρ a w d h ?_); intro e S' β' ρ' a' w' g1 g2 g3 g4; cases e with
   | normal => exact ihy Q hQ S' k β' ρ' a' w' g2 g1 fun e S'' β'' ρ'' a'' w'' f1 f2 f3 f4 => hK e S'' β'' ρ'' a'' w'' f1 f2 (g3.trans f3 g4) (Nat.le_trans g4 f4)
   | exit id => exact hK (.exit id) S' β' ρ' a' w' g1 g2 g3 g4
   | ret => exact hK .ret S' β' ρ' a' w' g1 g2 g3 g4
  ·next r A _ =>
   split at h
   ·exact h.elim
   ·next H hH =>
    dsimp only at h; split at h
    ·next hc =>
     obtain ⟨hok, hex⟩ := hc; obtain ⟨h1, h2⟩ := h; refine wp_seq (ihx (Exit.then (y.wp P Q) Q) (fun ch a w => hQ ch a w) S _ β ρ a w d h1 ?_); intro e T β' ρT a' w' g1 g2 hal g4; cases e with
     | normal =>
      dsimp only at g1; split at g1
      ·next vs hT =>
       obtain ⟨hi1, hf1, _⟩ := g1; obtain ⟨ρ', a2, hvars, h⟩ := alls_den H.srts S ρ _ (dens ρT vs) (head_terms hH hT ρT) h2; have hexd : dens ρ' A.extra = dens ρT A.extra := (dens_alike a2 _ hex).trans (dens_alike hal _ hex).symm; have hhv : dens ρ' (vars S.nv H.srts.length ++ A.extra) = dens ρT (vs ++ A.extra) := by rw [dens_append, dens_append, hvars, hexd]
       have h := h (by rw [hhv]; exact hi1); split at h
       ·next hck =>
        simp only [Bool.and_eq_true, decide_eq_true_eq] at hck; obtain ⟨⟨k1, k2⟩, k3⟩ := hck; have d2 := head_den g2 hH hT hok hal a2 hvars k2 k3 d.kn fun u hp hF => by
         show σ.invF r (dens ρ' (vars S.nv H.srts.length ++ A.extra)) u; rw [hhv]; exact given_out (hf1 u) hF
        have hnv : S.nv ≤ (H.at_ (S.nv + H.srts.length) r (vars S.nv H.srts.length ++ A.extra)).nv := Nat.le_add_right _ _; exact ihy Q hQ _ k β' ρ' a' w' d2 h fun e S'' β'' ρ'' a'' w'' f1 f2 f3 f4 => hK e S'' β'' ρ'' a'' w'' f1 f2 (a2.trans f3 hnv) (Nat.le_trans hnv f4)
       ·exact h.elim
      ·exact g1.elim
     | exit id => exact hK (.exit id) T β' ρT a' w' g1 g2 hal g4
     | ret => exact hK .ret T β' ρT a' w' g1 g2 hal g4
    ·exact h.elim
 | cond x t f iht ihf =>
  intro Q hQ S k β ρ a w d h hK; unfold exec at h; split at h
  ·next hx => exact wp_cond (t := true) (opd_den d.fr hx) (iht Q hQ S k β ρ a w d h hK)
  ·next hx => exact wp_cond (t := false) (opd_den d.fr hx) (ihf Q hQ S k β ρ a w d h hK)
  ·next q _ _ hx =>
   have hv : a.eval x = .bool (q.den ρ).B := opd_den d.fr hx; split at h
   ·next hk =>
    have hq : (q.den ρ).B = true := (X.holds_iff ρ q).1 (d.kn q (by simpa using hk)); exact wp_cond (t := true) (by rw [hv, hq]) (iht Q hQ S k β ρ a w d h hK)
   split at h
   ·next hk =>
    have hq := (X.holds_iff ρ (X.not q)).1 (d.kn _ (by simpa using hk)); rw [not_den] at hq; have hq : (q.den ρ).B = false := by
     cases e : (q.den ρ).B with
     | false => rfl
     | true => rw [e] at hq; cases hq
    exact wp_cond (t := false) (by rw [hv, hq]) (ihf Q hQ S k β ρ a w d h hK)
   obtain ⟨h1, h2⟩ := h; refine wp_cond_split hv (fun hb => ?_) (fun hb => ?_)
   ·exact iht Q hQ (S.know q) k β ρ a w (d.know ((X.holds_iff ρ q).2 hb)) (h1 ((X.holds_iff ρ q).2 hb)) hK
   ·have hn : (X.not q).holds ρ := (X.holds_iff ρ _).2 (by rw [not_den, hb]; rfl); exact ihf Q hQ (S.know (X.not q)) k β ρ a w (d.know hn) (h2 hn) hK
  ·exact h.elim
 | block id b ih =>
  intro Q hQ S k β ρ a w d h hK; unfold exec at h; refine wp_block (ih (Exit.inBlock id Q) (fun ch a w => hQ ch a w) S _ β ρ a w d h ?_); intro e S' β' ρ' a' w' g1 g2 g3 g4; cases e with
  | normal => exact hK .normal S' β' ρ' a' w' g1 g2 g3 g4
  | exit j =>
   show Exit.inBlock id Q (.exit j) a' w'; dsimp only at g1; unfold Exit.inBlock; simp only; split at g1
   ·next e => rw [if_pos e]; exact hK .normal S' β' ρ' a' w' g1 g2 g3 g4
   ·next e => rw [if_neg e]; exact hK (.exit j) S' β' ρ' a' w' g1 g2 g3 g4
  | ret => exact hK .ret S' β' ρ' a' w' g1 g2 g3 g4
 | loop b ih =>
  intro Q hQ S k β ρ a w d h hK; unfold exec at h; split at h
  ·next n _ =>
   refine wp_loop_rounds n (rounds_den (σ := σ) (w0 := w0) (f := exec P Γ b) Q k S.nv ρ (fun Q' hp => ih Q' fun ch a w h1 h2 h3 h4 => hp _ _ _ (hQ ch a w h1 h2 h3 h4)) ?_ n S β ρ a w d (Alike.refl _ _) (Nat.le_refl _) h); exact fun e S' β' ρ' a' w' g1 g2 g3 g4 => hK e S' β' ρ' a' w' g1 g2 g3 g4
  split at h
  ·exact h.elim
  ·next r A _ =>
   split at h
   ·exact h.elim
   ·next H hH =>
    split at h
    ·exact h.elim
    ·next us hus =>
     split at h
     ·next hc =>
      obtain ⟨hok, hlen, hex⟩ := hc; obtain ⟨hi, hf, h⟩ := h; refine wp_loop_rel (fun n a w => ∃ (T : St) (β' : Beta) (ρT : Nat → U) (vs : List X), Den σ T β' ρT w0 a w ∧ fits H T = some vs ∧ Alike S.nv ρ ρT ∧ σ.inv r (dens ρT (vs ++ A.extra)) ∧ (∀ u, given σ ρT u T.facts (σ.invF r (dens ρT (vs ++ A.extra)) u)) ∧ n = σ.mea r (dens ρT (vs ++ A.extra))) ⟨_, S, β, ρ, us, d, hus, Alike.refl _ _, hi, hf, rfl⟩ ?_; rintro n a1 w1 ⟨T, β', ρT, vs, d1, hT, hal, hi1, hf1, rfl⟩; obtain ⟨ρ', a2, hvars, h⟩ := alls_den H.srts S ρ _ (dens ρT vs) (head_terms hH hT ρT) h; have hexd : dens ρ' A.extra = dens ρT A.extra := (dens_alike a2 _ hex).trans (dens_alike hal _ hex).symm; have hhv : dens ρ' (vars S.nv H.srts.length ++ A.extra) = dens ρT (vs ++ A.extra) := by rw [dens_append, dens_append, hvars, hexd]
      have h := h (by rw [hhv]; exact hi1); split at h
      ·next hck =>
       simp only [Bool.and_eq_true, decide_eq_true_eq] at hck; obtain ⟨⟨k1, k2⟩, k3⟩ := hck; have d2 := head_den d1 hH hT hok hal a2 hvars k2 k3 d.kn fun u hp hF => by
        show σ.invF r (dens ρ' (vars S.nv H.srts.length ++ A.extra)) u; rw [hhv]; exact given_out (hf1 u) hF
       have hnv : S.nv ≤ (H.at_ (S.nv + H.srts.length) r (vars S.nv H.srts.length ++ A.extra)).nv := Nat.le_add_right _ _; refine ih (Exit.then _ Q) (fun ch a w => hQ ch a w) _ _ β' ρ' a1 w1 d2 h ?_; intro e T' β'' ρ'' a' w' g1 g2 g3 g4; have g5 : Alike S.nv ρ ρ'' := a2.trans g3 hnv; have g6 : S.nv ≤ T'.nv := Nat.le_trans hnv g4; cases e with
       | normal =>
        dsimp only at g1; split at g1
        ·next vs' hvs' =>
         split at g1
         ·obtain ⟨i1, i2, i3, _⟩ := g1; refine ⟨_, ?_, T', β'', ρ'', vs', g2, hvs', g5, i1, i2, rfl⟩; have : dens ρ'' (vars S.nv H.srts.length ++ A.extra) = dens ρT (vs ++ A.extra) := by
           rw [← hhv]; unfold St.ok at k1; have hF : (H.at_ (S.nv + H.srts.length) r (vars S.nv H.srts.length ++ A.extra)).upto (H.at_ (S.nv + H.srts.length) r (vars S.nv H.srts.length ++ A.extra)).nv = true := k1; unfold St.upto at hF; simp only [Bool.and_eq_true, List.all_eq_true] at hF; have := hF.1.1.2 (.inv r (vars S.nv H.srts.length ++ A.extra)) (List.mem_append_right _ (List.mem_singleton.2 rfl)); exact dens_alike g3 _ this
          rw [← this]; exact i3
         ·exact g1.elim
        ·exact g1.elim
       | exit id => exact hK (.exit id) T' β'' ρ'' a' w' g1 g2 g5 g6
       | ret => exact hK .ret T' β'' ρ'' a' w' g1 g2 g5 g6
      ·exact h.elim
     ·exact h.elim
 | exit id => intro Q _ S k β ρ a w d h hK; exact wp_exit (hK (.exit id) S β ρ a w h d (Alike.refl _ _) (Nat.le_refl _))
 | ret => intro Q _ S k β ρ a w d h hK; exact wp_ret (hK .ret S β ρ a w h d (Alike.refl _ _) (Nat.le_refl _))
 | rangeFunc => intro Q _ S k β ρ a w d h hK; exact h.elim
 | scope => intro Q _ S k β ρ a w d h hK; exact h.elim
 | goto => intro Q _ S k β ρ a w d h hK; exact h.elim
 | refuse => intro Q _ S k β ρ a w d h hK; exact h.elim
def resF (tm : Array Value) : ResultVar → Sem Value
 | .tmp t => pure (tm.getD t undef)
 | .cell a t => do loadVar t (← asAddr (tm.getD a undef))
theorem results_eq (fn : Func) (tm : Array Value) : results fn tm = (do let vs ← fn.results.mapM (resF tm); pure (if h : vs.size = 1 then vs[0] else .tuple vs)) := by
 unfold results
 first
  | rfl
  | (congr 1)
theorem resS_den {S : St} {β : Beta} {ρ : Nat → U} {a : Act} {w : World} (d : Den σ S β ρ w0 a w) : ∀ (l : List ResultVar) (vs : List SV1), resS P S l = some vs → (l.mapM (resF a.tmps)).run P w = .ok (vs.map (SV1.den β ρ)) w
 | [], vs, h => by
  injection h with h; subst h
  rfl
 | .tmp t :: l, vs, h => by
  unfold resS at h; split at h
  ·next v vs' hv hl =>
   injection h with h; subst h
   have e : (resF a.tmps (.tmp t)).run P w = .ok (v.den β ρ) w := by
    have := d.fr t _ hv; show (pure (a.tmps.getD t undef) : Sem Value).run P w = _; rw [Array.getD_eq_getD_getElem?, this]; rfl
   rw [List.mapM_cons]; simp only [Sem.run_bind, e, Result.andThen_ok, resS_den d l vs' hl, Sem.run_pure]; rfl
  ·cases h
 | .cell x t :: l, vs, h => by
  unfold resS at h; split at h
  ·next m off vs' hv hl =>
   split at h
   ·next bt cs hb =>
    rw [Option.map_eq_some_iff] at h; obtain ⟨v, hp, rfl⟩ := h; have e : (resF a.tmps (.cell x t)).run P w = .ok (v.den β ρ) w := by
     have := d.fr x _ hv; show (do loadVar t (← asAddr (a.tmps.getD x undef)) : Sem Value).run P w = _; rw [Array.getD_eq_getD_getElem?, this]; have e2 : (SV.s (.one (.own m off))).den β ρ = .pointer (some ⟨β.blk m, off, none⟩) := rfl; rw [e2]; simp only [Option.getD_some, asAddr, Sem.run_bind, Sem.run_pure, Result.andThen_ok]; exact load_own β ρ hp (d.bk _ (lookup_blk hb)).1
    rw [List.mapM_cons]; simp only [Sem.run_bind, e, Result.andThen_ok, resS_den d l vs' hl, Sem.run_pure]; rfl
   ·cases h
  ·cases h
def noBeta : Beta := { blk := fun _ => 0, row := fun _ => (none, 0), junk := fun _ => undef }
def Srt.norm : Srt → U → U
 | .i, x => .i x.I | .n, x => .n x.N | .b, x => .b x.B | .s, x => .s x.S | .p, x => .p x.P | .l, x => .l x.L | .v, x => .v x.V | .g, x => x
def rhoOf (us : List U) (l : List Srt) : Nat → U := fun j => (l.getD j .i).norm (at_ us j)
theorem getD_app {a b : List Srt} {k : Nat} : (a ++ b).getD (a.length + k) .i = b.getD k .i := by
 rw [List.getD_eq_getElem?_getD, List.getD_eq_getElem?_getD, List.getElem?_append_right (by omega)]
 congr 2
 omega
theorem rho_fresh {us : List U} (l : Lf) (pre post : List Srt) : (l.fresh pre.length).den noBeta (rhoOf us (pre ++ l.srts ++ post)) = l.val1 us pre.length := by
 have h : ∀ j, (pre ++ l.srts ++ post).getD (pre.length + j) .i = (l.srts ++ post).getD j .i := fun j => by rw [List.append_assoc]; exact getD_app
 have h0 := h 0; have h1 := h 1; have h2 := h 2; rw [Nat.add_zero] at h0; cases l <;> simp only [Lf.fresh, C1.den, Lf.val1, X.den, rhoOf, h0, h1, h2] <;> rfl
theorem srts_len (l : Lf) : l.srts.length = l.ar := by cases l <;> rfl
theorem rho_freshs {us : List U} : ∀ (ls : List Lf) (pre post : List Srt), (freshs pre.length ls).map (C1.den noBeta (rhoOf us (pre ++ lfsSrts ls ++ post))) = lfsV us pre.length ls
 | [], _, _ => rfl
 | l :: ls, pre, post => by
  have h1 := rho_fresh (us := us) l pre (lfsSrts ls ++ post); have h2 := rho_freshs (us := us) ls (pre ++ l.srts) post; have e : pre ++ lfsSrts (l :: ls) ++ post = pre ++ l.srts ++ (lfsSrts ls ++ post) := by unfold lfsSrts; simp
  have e2 : pre ++ l.srts ++ lfsSrts ls ++ post = pre ++ l.srts ++ (lfsSrts ls ++ post) := by simp
  rw [e]; rw [e2, List.length_append, srts_len] at h2; unfold freshs lfsV; rw [List.map_cons, h1, h2]
theorem rho_sh {us : List U} (s : Sh) (pre post : List Srt) : (s.fresh pre.length).den noBeta (rhoOf us (pre ++ lfsSrts s.lfs ++ post)) = s.val1 us pre.length := by
 cases s with
 | one l =>
  have := rho_fresh (us := us) l pre post; simp only [Sh.lfs, lfsSrts, List.flatMap_cons, List.flatMap_nil, List.append_nil]; exact this
 | agg ls =>
  have := rho_freshs (us := us) ls pre post; simp only [Sh.fresh, SV1.den, Sh.val1, Sh.lfs, this]
theorem rho_shs {us : List U} : ∀ (ss : List Sh) (pre post : List Srt), (shsFresh pre.length ss).map (SV1.den noBeta (rhoOf us (pre ++ lfsSrts (shsLfs ss) ++ post))) = shsV us pre.length ss
 | [], _, _ => rfl
 | s :: ss, pre, post => by
  have h1 := rho_sh (us := us) s pre (lfsSrts (shsLfs ss) ++ post); have h2 := rho_shs (us := us) ss (pre ++ lfsSrts s.lfs) post; have e : pre ++ lfsSrts (shsLfs (s :: ss)) ++ post = pre ++ lfsSrts s.lfs ++ (lfsSrts (shsLfs ss) ++ post) := by unfold lfsSrts shsLfs; simp
  have e2 : pre ++ lfsSrts s.lfs ++ lfsSrts (shsLfs ss) ++ post = pre ++ lfsSrts s.lfs ++ (lfsSrts (shsLfs ss) ++ post) := by simp
  rw [e]; rw [e2, List.length_append, srts_ar] at h2; unfold shsFresh shsV; rw [List.map_cons, h1, h2]
theorem fresh_beta (β : Beta) (ρ : Nat → U) (l : Lf) (n : Nat) : (l.fresh n).den β ρ = (l.fresh n).den noBeta ρ := by cases l <;> rfl
theorem freshs_beta (β : Beta) (ρ : Nat → U) : ∀ (ls : List Lf) (n : Nat), (freshs n ls).map (C1.den β ρ) = (freshs n ls).map (C1.den noBeta ρ)
 | [], _ => rfl
 | l :: ls, n => by
  unfold freshs; rw [List.map_cons, List.map_cons, fresh_beta, freshs_beta β ρ ls]
theorem sfresh_beta (β : Beta) (ρ : Nat → U) (s : Sh) (n : Nat) : (s.fresh n).den β ρ = (s.fresh n).den noBeta ρ := by
 cases s with
 | one l => exact fresh_beta β ρ l n
 | agg ls => simp only [Sh.fresh, SV1.den, freshs_beta β ρ ls]
theorem shsfresh_beta (β : Beta) (ρ : Nat → U) : ∀ (ss : List Sh) (n : Nat), (shsFresh n ss).map (SV1.den β ρ) = (shsFresh n ss).map (SV1.den noBeta ρ)
 | [], _ => rfl
 | s :: ss, n => by
  unfold shsFresh; rw [List.map_cons, List.map_cons, sfresh_beta, shsfresh_beta β ρ ss]
def betaOf (ln : List (Nat × Nat)) : Beta := { blk := fun m => (ln.lookup m).getD 0, row := fun _ => (none, 0), junk := fun _ => undef }
theorem zip_lookup : ∀ (M : List (Nat × Nat)) (bs : List Nat), (M.map (·.1)).Nodup → ∀ (i : Nat) (p : Nat × Nat) (b : Nat), M[i]? = some p → bs[i]? = some b → ((M.map (·.1)).zip bs).lookup p.1 = some b
 | [], _, _, i, p, b, h, _ => by simp at h
 | q :: M, [], _, i, p, b, _, h => by simp at h
 | q :: M, c :: bs, hn, 0, p, b, h, h' => by
  simp only [List.getElem?_cons_zero, Option.some.injEq] at h h'; subst h; subst h'; simp
 | q :: M, c :: bs, hn, i + 1, p, b, h, h' => by
  rw [List.map_cons, List.nodup_cons] at hn; simp only [List.getElem?_cons_succ] at h h'; have hm : p.1 ∈ M.map (·.1) := List.mem_map.2 ⟨p, List.mem_of_getElem? h, rfl⟩; have hne : p.1 ≠ q.1 := fun e => hn.1 (e ▸ hm)
  rw [List.map_cons, List.zip_cons_cons, List.lookup_cons]; have hb : (p.1 == q.1) = false := by simpa using hne
  simp only [hb]; exact zip_lookup M bs hn.2 i p b h h'
theorem zip_lookup_none : ∀ (l : List Nat) (bs : List Nat) (m : Nat), l.contains m = false → (l.zip bs).lookup m = none
 | [], _, _, _ => rfl
 | x :: l, [], _, _ => rfl
 | x :: l, b :: bs, m, h => by
  simp only [List.contains_cons, Bool.or_eq_false_iff] at h; rw [List.zip_cons_cons, List.lookup_cons]; simp only [h.1]; exact zip_lookup_none l bs m h.2
theorem lent_start {us : List U} {w : World} {vals : List Value} {post : List Srt} {ln : List (Nat × Nat)} {ρ : Nat → U} : ∀ (M : List (Nat × Nat)) (lls : List (List Lf)) (bs : List Nat) (pre : List Srt), LentAt w vals us pre.length M lls bs → (∀ (i : Nat) (p : Nat × Nat) (b : Nat), M[i]? = some p → bs[i]? = some b → ln.lookup p.1 = some b) → ρ = rhoOf us (pre ++ lfsSrts lls.flatten ++ post) →
  (∀ q ∈ lentB M lls pre.length, w.heap[(betaOf ln).blk q.1]? = some (.cells (q.2.2.map (C1.den (betaOf ln) ρ)).toArray q.2.1 (0, 0)) ∧ ln.lookup q.1 = some ((betaOf ln).blk q.1)) ∧ (lentB M lls pre.length).map (fun q => (betaOf ln).blk q.1) = bs ∧ ∀ p ∈ M, vals[p.1]? = some (.pointer (some ⟨(betaOf ln).blk p.1, 0, none⟩))
 | [], [], [], pre, _, _, _ => ⟨(fun q hq => by cases hq), rfl, (fun p hp => by cases hp)⟩
 | [], [], _ :: _, _, h, _, _ => h.elim
 | [], _ :: _, _, _, h, _, _ => h.elim
 | _ :: _, [], _, _, h, _, _ => h.elim
 | _ :: _, _ :: _, [], _, h, _, _ => h.elim
 | p :: M, lf :: lls, b :: bs, pre, h, hln, hρ => by
  obtain ⟨h1, h2, h3⟩ := h; have hb : (betaOf ln).blk p.1 = b := by
   show (ln.lookup p.1).getD 0 = b; rw [hln 0 p b rfl rfl]; rfl
  have hlen : (pre ++ lfsSrts lf).length = pre.length + lfsAr lf := by rw [List.length_append, srts_ar]
  have hρ2 : ρ = rhoOf us ((pre ++ lfsSrts lf) ++ lfsSrts lls.flatten ++ post) := by
   rw [hρ, List.flatten_cons]; unfold lfsSrts; rw [List.flatMap_append]; simp only [List.append_assoc]
  obtain ⟨g1, g2, g3⟩ := lent_start M lls bs (pre ++ lfsSrts lf) (by rw [hlen]; exact h3) (fun i q c hq hc => hln (i + 1) q c (by simpa using hq) (by simpa using hc)) hρ2; rw [hlen] at g1 g2; have hv : (freshs pre.length lf).map (C1.den (betaOf ln) ρ) = lfsV us pre.length lf := by
   rw [freshs_beta, hρ2]; have := rho_freshs (us := us) lf pre (lfsSrts lls.flatten ++ post); rw [← List.append_assoc] at this; exact this
  refine ⟨fun q hq => ?_, ?_, fun q hq => ?_⟩
  ·rcases List.mem_cons.1 hq with rfl | hq
   ·exact ⟨by rw [hb, h2, ← hv], by rw [hb]; exact hln 0 p b rfl rfl⟩
   ·exact g1 q hq
  ·show (betaOf ln).blk p.1 :: _ = _; rw [hb, g2]
  ·rcases List.mem_cons.1 hq with rfl | hq
   ·rw [hb]; exact h1
   ·exact g3 q hq
theorem start_den {fn : Func} {pin : List Sh} {us : List U} {own : Nat} {M : List (Nat × Nat)} {lls : List (List Lf)} {bs : List Nat} {gs : List Srt} (hdf : σ.df = []) (hpin : pin.length = fn.params.size) (hb : σ.base = w0.heap.size) (hpre : ∀ u, Kept σ.lent σ.base w0 u → σ.pre0 u)
  (hM : (M.map (·.1)).Nodup) (hbs : bs.Nodup) (hln : σ.lnames = (M.map (·.1)).zip bs) (hlent : LentAt w0 (shsV us 0 pin) us (lfsAr (shsLfs pin)) M lls bs) :
  Den σ (start fn pin own M lls) (betaOf σ.lnames) (rhoOf us (lfsSrts (shsLfs pin) ++ (lfsSrts lls.flatten ++ gs))) w0 { tmps := (shsV us 0 pin).toArray ++ Array.replicate (fn.ntmps - (shsV us 0 pin).toArray.size) undef, defers := [] } w0 := by
 have hlen : ∀ (ss : List Sh) (k : Nat), (shsV us k ss).length = ss.length := by
  intro ss
  induction ss with
  | nil => intro _; rfl
  | cons s ss ih => intro k; show (shsV us _ ss).length + 1 = _; rw [ih]; rfl
 obtain ⟨l1, l2, l3⟩ := lent_start (ρ := rhoOf us (lfsSrts (shsLfs pin) ++ (lfsSrts lls.flatten ++ gs))) (post := gs) (ln := σ.lnames) M lls bs (lfsSrts (shsLfs pin)) (by rw [srts_ar]; exact hlent) (fun i p b h h' => by rw [hln]; exact zip_lookup M bs hM i p b h h') (by rw [List.append_assoc]); rw [srts_ar] at l1 l2; have hval : (shsFresh 0 pin).map (SV1.den (betaOf σ.lnames) (rhoOf us (lfsSrts (shsLfs pin) ++ (lfsSrts lls.flatten ++ gs)))) = shsV us 0 pin := by
  rw [shsfresh_beta]; have := rho_shs (us := us) pin [] (lfsSrts lls.flatten ++ gs); simpa using this
 refine ⟨hdf.symm, ?_, ?_, (fun q hq => ⟨(l1 q hq).1, ?_⟩), (fun q hq => by cases hq), ?_, List.nodup_nil, (fun q hq => by cases hq), ?_, (fun q hq => by cases hq), Kept.refl _ _ _⟩
 ·rw [Array.size_append, Array.size_replicate, List.size_toArray, hlen, hpin]; show _ = max _ _; omega
 ·intro t v hvv; have hvv : ((shsFresh 0 pin).zipIdx.map fun p => (p.2, SV.s (if (M.map (·.1)).contains p.2 then .one (.own p.2 0) else p.1))).lookup t = some v := hvv; have hm := lookup_mem hvv; obtain ⟨p, hp, he⟩ := List.mem_map.1 hm; injection he with h1 h2
  subst h1; subst h2; have hg := List.mem_zipIdx_iff_getElem?.1 hp; have hv0 : (shsV us 0 pin)[p.2]? = some (p.1.den (betaOf σ.lnames) (rhoOf us (lfsSrts (shsLfs pin) ++ (lfsSrts lls.flatten ++ gs)))) := by
   rw [← hval, List.getElem?_map, hg]; rfl
  have hlt : p.2 < (shsV us 0 pin).length := by
   rcases Nat.lt_or_ge p.2 (shsV us 0 pin).length with h | h
   ·exact h
   ·rw [List.getElem?_eq_none h] at hv0; cases hv0
  show ((shsV us 0 pin).toArray ++ _)[p.2]? = _; rw [Array.getElem?_append_left (by simpa using hlt)]; split
  ·next hc =>
   rw [List.contains_iff_mem] at hc; obtain ⟨x, hx, hxe⟩ := List.mem_map.1 hc; have := l3 x hx; rw [hxe] at this; simpa [SV.den, SV1.den, C1.den] using this
  ·simpa [SV.den] using hv0
 ·unfold Sm.mineAt; rw [(l1 q hq).2]
 ·show ((lentB M lls (lfsAr (shsLfs pin))).map (fun q : Nat × Nat × List C1 => (betaOf σ.lnames).blk q.1) ++ []).Nodup; rw [l2, List.append_nil]; exact hbs
 ·intro F hF u hp _; have : F = .pre := List.mem_singleton.1 hF; subst this; exact hp
theorem catX_typedL {S : St} (ρ : Nat → U) : ∀ (ls : List (List C1)) (lls : List (List Lf)), (ls.map (flat S)).map (Option.map (·.1)) = lls.map some → (dens ρ (catX (ls.map (flat S)))).map U.srt = lfsSrts lls.flatten
 | [], lls, h => by
  cases lls with
  | nil => rfl
  | cons x l => cases h
 | q :: ls, lls, h => by
  cases lls with
  | nil => cases h
  | cons lf lls =>
   simp only [List.map_cons, List.cons.injEq] at h; obtain ⟨h1, h2⟩ := h; rw [Option.map_eq_some_iff] at h1; obtain ⟨⟨lf', ys⟩, hfl, rfl⟩ := h1; simp only [List.map_cons, hfl, catX_cons, dens_append, List.map_append, List.flatten_cons]; rw [flat_typed ρ q lf' ys hfl, catX_typedL ρ ls lls h2]; unfold lfsSrts; rw [List.flatMap_append]
theorem lent_final {S : St} {β : Beta} {ρ : Nat → U} {a : Act} {w : World} (d : Den σ S β ρ w0 a w) {vals : List Value} {us : List U} : ∀ (M : List (Nat × Nat)) (lls : List (List Lf)) (bs : List Nat) (l : List (List C1)) (k : Nat) (pre : List U), LentAt w0 vals us k M lls bs → lentS S M = some l → (l.map (flat S)).map (Option.map (·.1)) = lls.map some → (∀ (i : Nat) (p : Nat × Nat) (b : Nat), M[i]? = some p → bs[i]? = some b → σ.lnames.lookup p.1 = some b) →
  LentAt w vals (pre ++ dens ρ (catX (l.map (flat S)))) pre.length M lls bs
 | [], [], [], l, k, pre, _, _, _, _ => trivial
 | [], [], _ :: _, _, _, _, h, _, _, _ => h.elim
 | [], _ :: _, _, _, _, _, h, _, _, _ => h.elim
 | _ :: _, [], _, _, _, _, h, _, _, _ => h.elim
 | _ :: _, _ :: _, [], _, _, _, h, _, _, _ => h.elim
 | p :: M, lf :: lls, b :: bs, l, k, pre, h, hl, hf, hln => by
  obtain ⟨h1, h2, h3⟩ := h; unfold lentS at hl; split at hl
  ·next t cs l' hb hl' =>
   split at hl
   ·next ht =>
    subst ht; injection hl with hl
    subst hl; simp only [List.map_cons, List.cons.injEq] at hf; obtain ⟨hf1, hf2⟩ := hf; rw [Option.map_eq_some_iff] at hf1; obtain ⟨⟨lf', ys⟩, hfl, rfl⟩ := hf1; obtain ⟨d1, d2⟩ := flat_den (β := β) (ρ := ρ) d.ex cs lf' ys hfl; have ih := lent_final d M lls bs l' _ (pre ++ dens ρ ys) h3 hl' hf2 fun i q c hq hc => hln (i + 1) q c (by simpa using hq) (by simpa using hc)
    have hbk := d.bk _ (lookup_mem hb); have hbb : β.blk p.1 = b := by
     have := hbk.2; unfold Sm.mineAt at this; rw [hln 0 p b rfl rfl] at this; exact this
    simp only [List.map_cons, hfl, catX_cons, dens_append]; refine ⟨h1, ?_, ?_⟩
    ·rw [← hbb, hbk.1]
     congr 3
     show _ = lfsV _ _ lf'; rw [show pre.length = pre.length + 0 from rfl, lfsV_app, lfsV_pre _ _ _ _ (by rw [dens_len', d2]; omega), d1]
    ·rw [List.length_append, dens_len', d2] at ih; simpa [List.append_assoc] using ih
   ·cases hl
  ·cases hl
theorem final_den (c : Ctx P Γ σ w0) {fn : Func} {pout : List Sh} {S : St} {β : Beta} {ρ : Nat → U} {a : Act} {w : World} {M : List (Nat × Nat)} {lls : List (List Lf)} {bs : List Nat} {vals : List Value} {us0 : List U} {k0 : Nat} (hlent : LentAt w0 vals us0 k0 M lls bs) (hln : ∀ (i : Nat) (p : Nat × Nat) (b : Nat), M[i]? = some p → bs[i]? = some b → σ.lnames.lookup p.1 = some b) (d : Den σ S β ρ w0 a w) (h : (final P fn pout M lls S).den σ ρ) : ∃ os : List U, os.map U.srt = lfsSrts (shsLfs pout) ++ lfsSrts lls.flatten ∧ (results fn a.tmps).run P w = .ok (resV os pout) w ∧ σ.post0 os ∧ LentAt w vals os (lfsAr (shsLfs pout)) M lls bs ∧ (∀ u, σ.pre0 u → (∀ b, σ.base ≤ b → b < w.heap.size → u.heap[b]? = w.heap[b]?) → σ.fact0 os u) ∧ Kept σ.lent σ.base w0 w := by
  unfold final at h
  split at h
  · exact h.elim
  · next vs hvs =>
    dsimp only at h
    obtain ⟨S1, ρ1, hx, d1, a1, n1, e1, e2, e3, e4, e5⟩ := expose_den _ S ρ _ d h
    clear h
    split at hx
    · next shs us S2 hfl hS2 =>
      split at hx
      · next fl hflm =>
       rw [Option.map_eq_some_iff] at hflm
       obtain ⟨ll, hll, rfl⟩ := hflm
       split at hx
       · next he =>
        obtain ⟨rfl, hef⟩ := he
        obtain ⟨d2, _, _⟩ := retires_den d1 hS2
        obtain ⟨f1, f2⟩ := flats_den (β := β) (ρ := ρ1) d1.ex vs _ us hfl
        have hvs1 : resS P S1 fn.results.toList = some vs := by
          rw [← hvs]
          have : ∀ l : List ResultVar, resS P S1 l = resS P S l := by
            intro l
            induction l with
            | nil => rfl
            | cons x l ih =>
              cases x with
              | tmp t => unfold resS; rw [ih]; unfold St.get; rw [e1]
              | cell x t => unfold resS; rw [ih]; unfold St.get St.block; rw [e1, e2]
          exact this _
        have hr := resS_den d1 fn.results.toList vs hvs1
        have hre : resV (dens ρ1 (us ++ catX (ll.map (flat S1)))) shs = resV (dens ρ1 us) shs := by
          rw [dens_append]
          unfold resV
          have h0 : lfsAr (shsLfs shs) ≤ (dens ρ1 us).length := by rw [dens_len', f2]; omega
          split
          · next s => exact shval_pre _ _ s 0 (by simpa [shsLfs] using h0)
          · rw [shsV_pre _ _ _ 0 (by omega)]
        refine ⟨dens ρ1 (us ++ catX (ll.map (flat S1))), by rw [dens_append, List.map_append, flats_typed ρ1 vs _ us hfl, catX_typedL ρ1 ll lls hef], ?_, hx.1, ?_, ?_, d.bl⟩
        · rw [hre, results_eq, Array.mapM_eq_mapM_toList]
          simp only [Sem.run_bind, Sem.run_map, hr, Result.andThen_ok, Sem.run_pure]
          rw [← f1]
          have hlen : ∀ (ss : List Sh) (k : Nat), (shsV (dens ρ1 us) k ss).length = ss.length := by
            intro ss
            induction ss with
            | nil => intro _; rfl
            | cons s ss ih => intro k; show (shsV (dens ρ1 us) _ ss).length + 1 = _; rw [ih]; rfl
          cases shs with
          | nil => rfl
          | cons s l =>
            cases l with
            | nil => rfl
            | cons s' l =>
              rw [dif_neg (by rw [List.size_toArray, hlen]; simp)]
              rfl
        · have := lent_final d1 M lls bs ll k0 (dens ρ1 us) hlent hll hef hln
          rw [dens_len', f2] at this
          rw [dens_append]
          exact this
        · intro u hp hs
          refine given_out (hx.2 u) fun F hF => d2.fx F hF u hp fun b h1 h2 _ => hs b h1 h2
       · exact hx.elim
      · exact hx.elim
    · exact hx.elim
theorem calls_of_vc (c : Ctx P Γ σ w0) (hdf : σ.df = []) {f : Nat} {fn : Func} {pin pout : List Sh} (hfn : P.funcs[f]? = some fn) (hpin : shsOf P fn.params = some pin) (hpout : shsOf P fn.resultTypes = some pout) {lls : List (List Lf)} (hlls : lentsLfs P Γ.mine = some lls) (us : List U) (gs : List Srt) {bs : List Nat} (hbs : bs.Nodup) (hln : σ.lnames = (Γ.mine.map (·.1)).zip bs) (hlent : LentAt w0 (shsV us 0 pin) us (lfsAr (shsLfs pin)) Γ.mine lls bs) (h : (vcOf P Γ f).den σ (rhoOf us (lfsSrts (shsLfs pin) ++ (lfsSrts lls.flatten ++ gs)))) :
  Calls P f (shsV us 0 pin).toArray w0 fun e w' => (∃ os : List U, os.map U.srt = lfsSrts (shsLfs pout) ++ lfsSrts lls.flatten ∧ e = .returned (resV os pout) ∧ σ.post0 os ∧ LentAt w' (shsV us 0 pin) os (lfsAr (shsLfs pout)) Γ.mine lls bs ∧ (∀ u, σ.pre0 u → (∀ b, σ.base ≤ b → b < w'.heap.size → u.heap[b]? = w'.heap[b]?) → σ.fact0 os u) ∧ Kept σ.lent w0.heap.size w0 w') ∨ (∃ ch, e = .panicked ch ∧ σ.pan0 ch ∧ Kept σ.lent w0.heap.size w0 w') := by
 unfold vcOf at h; rw [hfn] at h; dsimp only at h; rw [hpin, hpout, hlls] at h; split at h
 ·next pin' pout' lls' body e1 e2 e3 hbody =>
  injection e1 with e1
  injection e2 with e2
  injection e3 with e3
  subst e1; subst e2; subst e3; split at h
  ·next hM =>
   refine calls_of_wp hfn hbody ?_; have hlen : pin.length = fn.params.size := by
    unfold shsOf at hpin; have : ∀ (l : List Nat) (ss : List Sh), l.mapM (shOf P) = some ss → ss.length = l.length := by
     intro l
     induction l with
     | nil => intro ss h; simp at h; subst h; rfl
     | cons x l ih =>
      intro ss h; obtain ⟨v, vs', _, hl, rfl⟩ := mapM_cons h; simp [ih _ hl]
    simpa using this _ _ hpin
   refine exec_den c body _ (fun ch a w hq hd hk _ => ?_) _ _ _ _ _ _ (start_den hdf hlen c.base c.pre hM hbs hln hlent) h ?_
   ·exact ⟨hd.trans hdf, .inr ⟨ch, rfl, hq, by rw [← c.base]; exact hk⟩⟩
   ·intro e S' β' ρ' a' w' g1 g2 _ _; cases e with
    | normal =>
     obtain ⟨os, h1, h2, h3, h6, h4, h5⟩ := final_den c hlent (fun i p b h h' => by rw [hln]; exact zip_lookup Γ.mine bs hM i p b h h') g2 g1; exact ⟨g2.df.trans hdf, _, h2, .inl ⟨os, h1, rfl, h3, h6, h4, by rw [← c.base]; exact h5⟩⟩
    | ret =>
     obtain ⟨os, h1, h2, h3, h6, h4, h5⟩ := final_den c hlent (fun i p b h h' => by rw [hln]; exact zip_lookup Γ.mine bs hM i p b h h') g2 g1; exact ⟨g2.df.trans hdf, _, h2, .inl ⟨os, h1, rfl, h3, h6, h4, by rw [← c.base]; exact h5⟩⟩
    | exit id => exact g1.elim
  ·exact h.elim
 ·exact h.elim
end
structure Inv where
 inv : List U → Prop
 fact : List U → World → Prop := fun _ _ => True
 mea : List U → Nat
def noCtr : Ctr := { pre := fun _ _ => False, post := fun _ _ => True, fact := fun _ _ _ => True }
def noInv : Inv := { inv := fun _ => False, mea := fun _ => 0 }
def ctrOf (l : List (Nat × Ctr)) (f : Nat) : Ctr := (l.lookup f).getD noCtr
def invOf (l : List (Nat × Inv)) (j : Nat) : Inv := (l.lookup j).getD noInv
def KeepsX (P : Program) (lsp : List (Nat × List (Nat × Nat))) (pans : List Nat) (f : Nat) (s : Ctr) : Prop :=
 match lsp.lookup f with
 | none => Keeps P f s
 | some L => KeepsL P f ⟨s.gh, s.pre, s.post, s.fact, if pans.contains f = true then s.pan else fun _ _ => False⟩ L
def KeepAll (P : Program) (lsp : List (Nat × List (Nat × Nat))) (pans : List Nat) : List (Nat × Ctr) → Prop
 | [] => True
 | p :: l => KeepsX P lsp pans p.1 p.2 ∧ KeepAll P lsp pans l
def conOf (l : List (Nat × Ctr)) : List (Nat × Nat) := l.map fun p => (p.1, p.2.gh)
theorem KeepAll.get {P : Program} {lsp : List (Nat × List (Nat × Nat))} {pans : List Nat} : ∀ {l : List (Nat × Ctr)}, KeepAll P lsp pans l → ∀ f gh, (conOf l).lookup f = some gh → KeepsX P lsp pans f (ctrOf l f) ∧ (ctrOf l f).gh = gh
 | [], _, f, gh, h => by cases h
 | p :: l, hk, f, gh, h => by
  unfold ctrOf; unfold conOf at h; rw [List.map_cons, List.lookup_cons] at h; rw [List.lookup_cons]; split at h
  ·next hb =>
   injection h with h
   have hb' : (f == p.1) = true := hb; have e : f = p.1 := by simpa using hb'
   rw [e]; exact ⟨hk.1, h⟩
  ·next hb =>
   have hb' : (f == p.1) = false := hb; exact KeepAll.get hk.2 f gh h
def smOf (specs : List (Nat × Ctr)) (s : Ctr) (invs : List (Nat × Inv)) (us : List U) (base : Nat) (ln : List (Nat × Nat) := []) : Sm :=
 { base := base, lnames := ln, pre0 := s.pre us, post0 := s.post us, fact0 := s.fact us, pre := fun f => (ctrOf specs f).pre, post := fun f => (ctrOf specs f).post, fact := fun f => (ctrOf specs f).fact, inv := fun j => (invOf invs j).inv, invF := fun j => (invOf invs j).fact, mea := fun j => (invOf invs j).mea, pan0 := s.pan us, pan := fun f => (ctrOf specs f).pan }
theorem ctx_of {P : Program} (hm : P.follows .mixedOrders = true) {s : Ctr} {specs : List (Nat × Ctr)} {Γ : Cfg} (hs : KeepAll P Γ.lents Γ.pans specs) (hΓ : Γ.con = conOf specs) (hkb : Γ.keepB = []) {invs : List (Nat × Inv)} {us : List U} {w : World} {bs : List Nat}
  (hpre : ∀ u, Kept (smOf specs s invs us w.heap.size ((Γ.mine.map (·.1)).zip bs)).lent w.heap.size w u → s.pre us u) : Ctx P Γ (smOf specs s invs us w.heap.size ((Γ.mine.map (·.1)).zip bs)) w :=
 ⟨fun g gh hg => by
  rw [hΓ] at hg; obtain ⟨h1, h2⟩ := hs.get g gh hg; unfold CallOk; rw [← h2]; exact h1, rfl, hpre, fun m h => zip_lookup_none _ _ m h, hm, fun q hq => by rw [hkb] at hq; cases hq⟩
theorem keeps_of {P : Program} (hm : P.follows .mixedOrders = true) {f : Nat} {fn : Func} {pin pout : List Sh} (hfn : P.funcs[f]? = some fn) (hpin : shsOf P fn.params = some pin) (hpout : shsOf P fn.resultTypes = some pout)
  (s : Ctr) (specs : List (Nat × Ctr)) (Γ : Cfg) (hs : KeepAll P Γ.lents Γ.pans specs) (hΓ : Γ.con = conOf specs) (mono : ∀ us w w', s.pre us w → Below w.heap.size w w' → s.pre us w')
  (vc : ∀ us w, us.map U.srt = lfsSrts (shsLfs pin) ++ List.replicate s.gh .g → s.pre us w → ∃ invs, (vcOf P Γ f).den (smOf specs s invs us w.heap.size) (rhoOf us (lfsSrts (shsLfs pin) ++ List.replicate s.gh .g))) (hmine : Γ.mine = [] := by rfl) (hpan : ∀ us ch, ¬ s.pan us ch := by exact fun _ _ h => h) (hkb : Γ.keepB = [] := by rfl) : Keeps P f s := by
 intro fn' pin' pout' h1 h2 h3 us w ht hp; rw [hfn] at h1; injection h1 with h1
 subst h1; rw [hpin] at h2; injection h2 with h2
 subst h2; rw [hpout] at h3; injection h3 with h3
 subst h3; obtain ⟨invs, hvc⟩ := vc us w ht hp; have hz : (Γ.mine.map (·.1)).zip ([] : List Nat) = [] := by rw [hmine]; rfl
 have c := ctx_of (us := us) (w := w) (invs := invs) (bs := []) (s := s) hm hs hΓ hkb fun u hu => mono us w u hp (hu.below fun b hb => by
  obtain ⟨m, hm⟩ := hb; have hm : ((Γ.mine.map (·.1)).zip ([] : List Nat)).lookup m = some b := hm; rw [hz] at hm; cases hm)
 rw [hz] at c; refine (calls_of_vc (lls := []) (bs := []) c rfl hfn hpin hpout (by rw [hmine]; rfl) us _ List.nodup_nil (by rw [hz]; rfl) (by rw [hmine]; trivial) hvc).mono ?_; rintro e w' (⟨os, g1, g2, g3, g6, g4, g5⟩ | ⟨ch, _, g, _⟩)
 case inr => exact absurd g (hpan _ _)
 refine ⟨os, by rw [g1]; exact List.append_nil _, g2, g3, fun u hu hpu => g4 u hpu hu, g5.below fun b hb => ?_⟩; obtain ⟨m, hm⟩ := hb; cases hm
theorem lent_mem {M : List (Nat × Nat)} {bs : List Nat} {m b : Nat} (h : ((M.map (·.1)).zip bs).lookup m = some b) : b ∈ bs := by
 have := lookup_mem h; exact (List.of_mem_zip this).2
theorem keepsL_of {P : Program} (hm : P.follows .mixedOrders = true) {f : Nat} {fn : Func} {pin pout : List Sh} {lls : List (List Lf)} (hfn : P.funcs[f]? = some fn) (hpin : shsOf P fn.params = some pin) (hpout : shsOf P fn.resultTypes = some pout)
  (s : Ctr) (specs : List (Nat × Ctr)) (Γ : Cfg) (hlls : lentsLfs P Γ.mine = some lls) (hs : KeepAll P Γ.lents Γ.pans specs) (hΓ : Γ.con = conOf specs) (mono : ∀ us w w' bs, LentAt w (shsV us 0 pin) us (lfsAr (shsLfs pin)) Γ.mine lls bs → s.pre us w → Kept (· ∈ bs) w.heap.size w w' → s.pre us w')
  (vc : ∀ us w, us.map U.srt = lfsSrts (shsLfs pin) ++ (lfsSrts lls.flatten ++ List.replicate s.gh .g) → s.pre us w → ∀ ln, ∃ invs, (vcOf P Γ f).den (smOf specs s invs us w.heap.size ln) (rhoOf us (lfsSrts (shsLfs pin) ++ (lfsSrts lls.flatten ++ List.replicate s.gh .g)))) (hkb : Γ.keepB = [] := by rfl) : KeepsL P f s Γ.mine := by
 intro fn' pin' pout' lls' h1 h2 h3 h4 us w bs ht hbs hlent hp; rw [hfn] at h1; injection h1 with h1
 subst h1; rw [hpin] at h2; injection h2 with h2
 subst h2; rw [hpout] at h3; injection h3 with h3
 subst h3; rw [hlls] at h4; injection h4 with h4
 subst h4; obtain ⟨invs, hvc⟩ := vc us w ht hp ((Γ.mine.map (·.1)).zip bs); have hL : ∀ b, (smOf specs s invs us w.heap.size ((Γ.mine.map (·.1)).zip bs)).lent b → b ∈ bs := fun b hb => by
  obtain ⟨m, hm⟩ := hb; exact lent_mem hm
 have c := ctx_of (us := us) (w := w) (invs := invs) (bs := bs) (s := s) hm hs hΓ hkb fun u hu => mono us w u bs hlent hp (hu.mono (Nat.le_refl _) fun b _ hb => hL b hb)
 refine (calls_of_vc c rfl hfn hpin hpout hlls us _ hbs rfl hlent hvc).mono ?_; rintro e w' (⟨os, g1, g2, g3, g6, g4, g5⟩ | ⟨ch, g1, g2, g3⟩)
 ·exact .inl ⟨os, g1, g2, g3, g6, fun u hu hpu => g4 u hpu hu, g5.mono (Nat.le_refl _) fun b _ hb => hL b hb⟩
 ·exact .inr ⟨ch, g1, g2, g3.mono (Nat.le_refl _) fun b _ hb => hL b hb⟩
structure Alg where
 T : Type
 tt : T
 ff : T
 allI : (Int → T) → T
 allN : (Nat → T) → T
 allB : (Bool → T) → T
 allS : (ByteArray → T) → T
 allP : (Option Addr → T) → T
 allL : (List Value → T) → T
 allV : (Value → T) → T
 exI : (Int → T) → T
 exN : (Nat → T) → T
 exB : (Bool → T) → T
 exS : (ByteArray → T) → T
 exP : (Option Addr → T) → T
 exL : (List Value → T) → T
 exV : (Value → T) → T
 exG : (U → T) → T
 imp : T → T → T
 and : T → T → T
 or : T → T → T
 not : T → T
 isT : Bool → T
 eqI : Int → Int → T
 ltI : Int → Int → T
 leI : Int → Int → T
 allW : (World → T) → T
 pre : Ctr → List U → World → T
 post : Ctr → List U → List U → T
 fact : Ctr → List U → List U → World → T
 inv : Inv → List U → T
 invF : Inv → List U → World → T
 less : Inv → List U → List U → T
 row : World → Nat → Nat → Nat → Value → Nat → List Value → T
 blk : World → Nat → List Value → Nat → T
 loads : World → Option Addr → List Value → T
 cells : List Value → Nat → List Value → T
 ones : List Value → T
 reads : World → Nat → Option Addr → Nat → List Value → T
 bytes : World → Option Addr → ByteArray → T
 isfn : Value → Nat → T
 pan : Ctr → List U → Ctr → List U → T
 panv : Ctr → List U → Value → T
 fn : Nat → Value
 int : Int → Int
 nat : Nat → Nat
 str : List UInt8 → ByteArray
 tru : Bool → Bool
 wrap : IntKind → Int → Int
 bnot : Bool → Bool
 cast : Nat → Int
 toNat : Int → Nat
 size : ByteArray → Nat
 isnil : Option Addr → Bool
 len : List Value → Nat
 add : Int → Int → Int
 sub : Int → Int → Int
 mul : Int → Int → Int
 quo : Int → Int → Int
 rem : Int → Int → Int
 bits : BinOp → IntKind → Int → Int → Int
 shl : IntKind → Int → Int → Int
 shr : IntKind → Int → Int → Int
 eqB : Int → Int → Bool
 ltB : Int → Int → Bool
 leB : Int → Int → Bool
 beq : Bool → Bool → Bool
 band : Bool → Bool → Bool
 bor : Bool → Bool → Bool
 seq : ByteArray → ByteArray → Bool
 slt : ByteArray → ByteArray → Bool
 sapp : ByteArray → ByteArray → ByteArray
 byte : ByteArray → Nat → Int
 nadd : Nat → Nat → Nat
 nsub : Nat → Nat → Nat
 nmul : Nat → Nat → Nat
 app : List Value → List Value → List Value
 padd : Option Addr → Nat → Option Addr
 take : List Value → Nat → List Value
 iteI : Bool → Int → Int → Int
 iteN : Bool → Nat → Nat → Nat
 iteB : Bool → Bool → Bool → Bool
 iteS : Bool → ByteArray → ByteArray → ByteArray
 iteP : Bool → Option Addr → Option Addr → Option Addr
 ext : ByteArray → Nat → Nat → ByteArray
 set : List Value → Nat → Value → List Value
 nilv : Nat → Value
@[reducible] def std : Alg where
 T := Prop
 tt := True
 ff := False
 allI f := ∀ x, f x
 allN f := ∀ x, f x
 allB f := ∀ x, f x
 allS f := ∀ x, f x
 allP f := ∀ x, f x
 allL f := ∀ x, f x
 allV f := ∀ x, f x
 exI f := ∃ x, f x
 exN f := ∃ x, f x
 exB f := ∃ x, f x
 exS f := ∃ x, f x
 exP f := ∃ x, f x
 exL f := ∃ x, f x
 exV f := ∃ x, f x
 exG f := ∃ (α : Type) (x : α), f (.g x)
 imp a b := a → b
 and a b := a ∧ b
 or a b := a ∨ b
 not a := ¬ a
 isT b := b = true
 eqI x y := x = y
 ltI x y := x < y
 leI x y := x ≤ y
 allW f := ∀ w, f w
 pre c us w := c.pre us w
 post c us os := c.post us os
 fact c us os w := c.fact us os w
 inv c us := c.inv us
 invF c us w := c.fact us w
 less c us vs := c.mea vs < c.mea us
 row w base e size v n xs := w.ownsRow base e size v n xs
 blk w b xs t := w.heap[b]? = some (.cells xs.toArray t (0, 0))
 loads w a cs := LoadsAt w a cs
 cells xs off cs := ∀ j v, cs[j]? = some v → xs[off + j]? = some v
 ones xs := ∀ v ∈ xs, v.oneCell' = true
 reads w size a n xs := ∃ B, Rd w B size a n xs
 bytes w a s := ∃ g, a = some ⟨g, 0, none⟩ ∧ ∀ j, j < s.size → w.cell? ⟨g, j, none⟩ = some (.int .u8 (s.data.toList.getD j 0).toNat)
 isfn v f := v = .func (.func f) #[] #[]
 pan c us c0 us0 := ∀ ch, c.pan us ch → c0.pan us0 ch
 panv c us v := c.pan us [{ v := v, recovered := false }]
 fn f := .func (.func f) #[] #[]
 int n := n
 nat n := n
 str l := ⟨l.toArray⟩
 tru t := t
 wrap k x := k.wrap x
 bnot b := !b
 cast n := n
 toNat x := x.toNat
 size s := s.size
 isnil a := a.isNone
 len l := l.length
 add x y := x + y
 sub x y := x - y
 mul x y := x * y
 quo x y := x.tdiv y
 rem x y := x.tmod y
 bits o k x y := bitsI o k x y
 shl k x y := shlI k x y
 shr k x y := shrI k x y
 eqB x y := x == y
 ltB x y := decide (x < y)
 leB x y := decide (x ≤ y)
 beq x y := x == y
 band x y := x && y
 bor x y := x || y
 seq x y := x.toList == y.toList
 slt x y := Op.bytesLess x.toList y.toList
 sapp x y := x ++ y
 byte s k := (s.data.toList.getD k 0).toNat
 nadd x y := x + y
 nsub x y := x - y
 nmul x y := x * y
 app x y := x ++ y
 padd a k := a.map (·.add k)
 take l k := l.take k
 iteI b x y := bif b then x else y
 iteN b x y := bif b then x else y
 iteB b x y := bif b then x else y
 iteS b x y := bif b then x else y
 iteP b x y := bif b then x else y
 ext s a b := s.extract a b
 set l k v := l.set k v
 nilv k := nilV k
def UOp.denO (O : Alg) : UOp → U → U
 | .wrap k, x => .i (O.wrap k x.I)
 | .not, x => .b (O.bnot x.B)
 | .cast, x => .i (O.cast x.N)
 | .nat, x => .n (O.toNat x.I)
 | .size, x => .n (O.size x.S)
 | .isnil, x => .b (O.isnil x.P)
 | .one, x => .l [x.V]
 | .viface t, x => .v (.iface t x.V)
 | .vint k, x => .v (.int k x.I)
 | .vbool, x => .v (.bool x.B)
 | .vstr, x => .v (.string x.S)
 | .vptr, x => .v (.pointer x.P)
 | .len, x => .n (O.len x.L)
 | .co .i, x => .i x.I | .co .n, x => .n x.N | .co .b, x => .b x.B | .co .s, x => .s x.S | .co .p, x => .p x.P | .co .l, x => .l x.L | .co .v, x => .v x.V | .co .g, x => x
def BOp.denO (O : Alg) : BOp → U → U → U
 | .add, x, y => .i (O.add x.I y.I)
 | .sub, x, y => .i (O.sub x.I y.I)
 | .mul, x, y => .i (O.mul x.I y.I)
 | .quo, x, y => .i (O.quo x.I y.I)
 | .rem, x, y => .i (O.rem x.I y.I)
 | .bits o k, x, y => .i (O.bits o k x.I y.I)
 | .shl k, x, y => .i (O.shl k x.I y.I)
 | .shr k, x, y => .i (O.shr k x.I y.I)
 | .eq, x, y => .b (O.eqB x.I y.I)
 | .lt, x, y => .b (O.ltB x.I y.I)
 | .le, x, y => .b (O.leB x.I y.I)
 | .beq, x, y => .b (O.beq x.B y.B)
 | .and, x, y => .b (O.band x.B y.B)
 | .or, x, y => .b (O.bor x.B y.B)
 | .seq, x, y => .b (O.seq x.S y.S)
 | .slt, x, y => .b (O.slt x.S y.S)
 | .sapp, x, y => .s (O.sapp x.S y.S)
 | .byte, x, y => .i (O.byte x.S y.N)
 | .nadd, x, y => .n (O.nadd x.N y.N)
 | .nsub, x, y => .n (O.nsub x.N y.N)
 | .nmul, x, y => .n (O.nmul x.N y.N)
 | .app, x, y => .l (O.app x.L y.L)
 | .padd, x, y => .p (O.padd x.P y.N)
 | .take, x, y => .l (O.take x.L y.N)
def iteO (O : Alg) (b : Bool) : U → U → U
 | .i x, .i y => .i (O.iteI b x y)
 | .n x, .n y => .n (O.iteN b x y)
 | .b x, .b y => .b (O.iteB b x y)
 | .s x, .s y => .s (O.iteS b x y)
 | .p x, .p y => .p (O.iteP b x y)
 | x, y => bif b then x else y
def TOp.denO (O : Alg) : TOp → U → U → U → U
 | .ite, x, y, z => iteO O x.B y z
 | .vslc, x, y, z => .v (.slice x.P y.N z.N)
 | .ext, x, y, z => .s (O.ext x.S y.N z.N)
 | .set, x, y, z => .l (O.set x.L y.N z.V)
def X.denO (O : Alg) (ρ : Nat → U) : X → U
 | .var k => ρ k
 | .int n => .i (O.int n)
 | .nat n => .n (O.nat n)
 | .bool t => .b (O.tru t)
 | .str l => .s (O.str l)
 | .pnil => .p none
 | .lnil => .l []
 | .vnil k => .v (O.nilv k)
 | .fn f => .v (O.fn f)
 | .un o x => o.denO O (x.denO O ρ)
 | .bin o x y => o.denO O (x.denO O ρ) (y.denO O ρ)
 | .tri o x y z => o.denO O (x.denO O ρ) (y.denO O ρ) (z.denO O ρ)
def X.holdsO (O : Alg) (ρ : Nat → U) : X → O.T
 | .bin .eq x y => O.eqI (x.denO O ρ).I (y.denO O ρ).I
 | .bin .lt x y => O.ltI (x.denO O ρ).I (y.denO O ρ).I
 | .bin .le x y => O.leI (x.denO O ρ).I (y.denO O ρ).I
 | .bin .and x y => O.and (x.holdsO O ρ) (y.holdsO O ρ)
 | .bin .or x y => O.or (x.holdsO O ρ) (y.holdsO O ρ)
 | .un .not x => O.not (x.holdsO O ρ)
 | .bool t => O.isT (O.tru t)
 | x => O.isT (x.denO O ρ).B
theorem iteO_std (b : Bool) (x y : U) : iteO std b x y = bif b then x else y := by cases x <;> cases y <;> first | rfl | (cases b <;> rfl)
theorem X.denO_std (ρ : Nat → U) : ∀ x : X, x.denO std ρ = x.den ρ := by
 intro x
 induction x with
 | un o x ih => simp only [X.denO, X.den, ih]; cases o <;> first | rfl | (rename_i s; cases s <;> rfl)
 | bin o x y ih1 ih2 => simp only [X.denO, X.den, ih1, ih2]; cases o <;> rfl
 | tri o x y z ih1 ih2 ih3 => simp only [X.denO, X.den, ih1, ih2, ih3]; cases o <;> first | rfl | exact iteO_std _ _ _
 | _ => rfl
theorem X.holdsO_std (ρ : Nat → U) : ∀ x : X, x.holdsO std ρ = x.holds ρ := by
 intro x
 induction x with
 | un o x ih => cases o <;> simp only [X.holdsO, X.holds, ih, X.denO_std]
 | bin o x y ih1 ih2 => cases o <;> simp only [X.holdsO, X.holds, ih1, ih2, X.denO_std]
 | bool t => rfl
 | _ => simp only [X.holdsO, X.holds, X.denO_std]
def densO (O : Alg) (ρ : Nat → U) : List X → List U
 | [] => []
 | x :: l => x.denO O ρ :: densO O ρ l
theorem densO_std (ρ : Nat → U) : ∀ l : List X, densO std ρ l = dens ρ l
 | [] => rfl
 | x :: l => by simp only [densO, dens, List.map_cons, X.denO_std, densO_std ρ l]
def valsO (O : Alg) (ρ : Nat → U) : List X → List Value
 | [] => []
 | x :: l => (x.denO O ρ).V :: valsO O ρ l
theorem valsO_std (ρ : Nat → U) : ∀ l : List X, valsO std ρ l = l.map fun x => (x.den ρ).V
 | [] => rfl
 | x :: l => by simp only [valsO, List.map_cons, X.denO_std, valsO_std ρ l]
structure Env where
 C : Nat → Ctr
 s : Ctr
 I : Nat → Inv
 us : List U
 base : Nat
def Env.sm (E : Env) (ln : List (Nat × Nat)) (df : List Deferred := []) : Sm :=
 { base := E.base, lnames := ln, df := df, pre0 := E.s.pre E.us, post0 := E.s.post E.us, fact0 := E.s.fact E.us, pre := fun f => (E.C f).pre, post := fun f => (E.C f).post, fact := fun f => (E.C f).fact, inv := fun j => (E.I j).inv, invF := fun j => (E.I j).fact, mea := fun j => (E.I j).mea, pan0 := E.s.pan E.us, pan := fun f => (E.C f).pan }
def FX.denO (O : Alg) (E : Env) (ρ : Nat → U) (w : World) : FX → O.T
 | .pre => O.pre E.s E.us w
 | .fact f us os => O.fact (E.C f) (densO O ρ us) (densO O ρ os) w
 | .inv j us => O.invF (E.I j) (densO O ρ us) w
 | .row e size a n c xs => O.row w E.base e size (.slice (a.denO O ρ).P (n.denO O ρ).N (c.denO O ρ).N) (n.denO O ρ).N (xs.denO O ρ).L
 | .blk b t xs => O.blk w (b.denO O ρ).N (valsO O ρ xs) t
 | .bytes a s => O.bytes w (a.denO O ρ).P (s.denO O ρ).S
theorem FX.denO_std (E : Env) (ln : List (Nat × Nat)) (df : List Deferred) (ρ : Nat → U) (w : World) (F : FX) : F.denO std E ρ w = F.den (E.sm ln df) ρ w := by
 cases F <;> simp only [FX.denO, FX.den, densO_std, X.denO_std, valsO_std] <;> rfl
def andO (O : Alg) (E : Env) (ρ : Nat → U) (w : World) : List FX → O.T → O.T
 | [], t => t
 | G :: l, t => andO O E ρ w l (O.and t (G.denO O E ρ w))
def givenO (O : Alg) (E : Env) (ρ : Nat → U) (fs : List FX) (c : World → O.T) : O.T :=
 match fs with
 | [] => O.allW fun w => c w
 | F :: l => O.allW fun w => O.imp (andO O E ρ w l (F.denO O E ρ w)) (c w)
theorem andO_std (E : Env) (ln : List (Nat × Nat)) (df : List Deferred) (ρ : Nat → U) (w : World) : ∀ (l : List FX) (t : Prop), andO std E ρ w l t = l.foldl (fun a G => a ∧ G.den (E.sm ln df) ρ w) t
 | [], _ => rfl
 | G :: l, t => by rw [andO, List.foldl_cons, andO_std E ln df ρ w l, FX.denO_std E ln df]
theorem givenO_std (E : Env) (ln : List (Nat × Nat)) (df : List Deferred) (ρ : Nat → U) (fs : List FX) (c : World → Prop) : givenO std E ρ fs c = ∀ w : World, given (E.sm ln df) ρ w fs (c w) := by
 cases fs with
 | nil => rfl
 | cons F l =>
  show (∀ w : World, andO std E ρ w l (F.denO std E ρ w) → c w) = _; simp only [andO_std E ln df, FX.denO_std E ln df]; rfl
def VC.denO (O : Alg) (E : Env) (ρ : Nat → U) : VC → O.T
 | .top => O.tt
 | .no _ => O.ff
 | .all n .i k => O.allI fun x => k.denO O E (upd ρ n (.i x))
 | .all n .n k => O.allN fun x => k.denO O E (upd ρ n (.n x))
 | .all n .b k => O.allB fun x => k.denO O E (upd ρ n (.b x))
 | .all n .s k => O.allS fun x => k.denO O E (upd ρ n (.s x))
 | .all n .p k => O.allP fun x => k.denO O E (upd ρ n (.p x))
 | .all n .l k => O.allL fun x => k.denO O E (upd ρ n (.l x))
 | .all n .v k => O.allV fun x => k.denO O E (upd ρ n (.v x))
 | .all _ .g _ => O.ff
 | .ex n .i k => O.exI fun x => k.denO O E (upd ρ n (.i x))
 | .ex n .n k => O.exN fun x => k.denO O E (upd ρ n (.n x))
 | .ex n .b k => O.exB fun x => k.denO O E (upd ρ n (.b x))
 | .ex n .s k => O.exS fun x => k.denO O E (upd ρ n (.s x))
 | .ex n .p k => O.exP fun x => k.denO O E (upd ρ n (.p x))
 | .ex n .l k => O.exL fun x => k.denO O E (upd ρ n (.l x))
 | .ex n .v k => O.exV fun x => k.denO O E (upd ρ n (.v x))
 | .ex n .g k => O.exG fun x => k.denO O E (upd ρ n x)
 | .imp c k => O.imp (c.holdsO O ρ) (k.denO O E ρ)
 | .need c k => O.and (c.holdsO O ρ) (k.denO O E ρ)
 | .needw c fs k => O.and (givenO O E ρ fs fun _ => c.holdsO O ρ) (k.denO O E ρ)
 | .and a b => O.and (a.denO O E ρ) (b.denO O E ρ)
 | .pre f us fs k => O.and (givenO O E ρ fs fun w => O.pre (E.C f) (densO O ρ us) w) (k.denO O E ρ)
 | .post f us os k => O.imp (O.post (E.C f) (densO O ρ us) (densO O ρ os)) (k.denO O E ρ)
 | .inv j us fs k => O.and (O.inv (E.I j) (densO O ρ us)) (O.and (givenO O E ρ fs fun w => O.invF (E.I j) (densO O ρ us) w) (k.denO O E ρ))
 | .hyp j us k => O.imp (O.inv (E.I j) (densO O ρ us)) (k.denO O E ρ)
 | .less j us vs k => O.and (O.less (E.I j) (densO O ρ us) (densO O ρ vs)) (k.denO O E ρ)
 | .loads fs a cs k => O.and (givenO O E ρ fs fun w => O.loads w (a.denO O ρ).P (valsO O ρ cs)) (k.denO O E ρ)
 | .cells xs off cs k => O.and (O.cells (xs.denO O ρ).L (off.denO O ρ).N (valsO O ρ cs)) (k.denO O E ρ)
 | .ones xs k => O.and (O.ones (xs.denO O ρ).L) (k.denO O E ρ)
 | .reads fs size a n xs k => O.and (givenO O E ρ fs fun w => O.reads w size (a.denO O ρ).P (n.denO O ρ).N (xs.denO O ρ).L) (k.denO O E ρ)
 | .ret os fs => O.and (O.post E.s E.us (densO O ρ os)) (givenO O E ρ fs fun w => O.fact E.s E.us (densO O ρ os) w)
 | .isfn x f k => O.and (O.isfn (x.denO O ρ).V f) (k.denO O E ρ)
 | .pan f us k => O.and (O.pan (E.C f) (densO O ρ us) E.s E.us) (k.denO O E ρ)
 | .panv x => O.panv E.s E.us (x.denO O ρ).V
theorem VC.denO_std (E : Env) (ln : List (Nat × Nat)) (df : List Deferred) : ∀ (v : VC) (ρ : Nat → U), v.denO std E ρ = v.den (E.sm ln df) ρ := by
 intro v
 induction v with
 | all n so k ih => intro ρ; cases so <;> simp only [VC.denO, VC.den, ih]
 | ex n so k ih => intro ρ; cases so <;> simp only [VC.denO, VC.den, ih]
 | imp c k ih => intro ρ; simp only [VC.denO, VC.den, ih, X.holdsO_std]
 | need c k ih => intro ρ; simp only [VC.denO, VC.den, ih, X.holdsO_std]
 | needw c fs k ih => intro ρ; simp only [VC.denO, VC.den, ih, X.holdsO_std, givenO_std E ln df]
 | and a b ih1 ih2 => intro ρ; simp only [VC.denO, VC.den, ih1, ih2]
 | pre f us fs k ih => intro ρ; simp only [VC.denO, VC.den, ih, givenO_std E ln df, densO_std]; rfl
 | post f us os k ih => intro ρ; simp only [VC.denO, VC.den, ih, densO_std]; rfl
 | inv j us fs k ih => intro ρ; simp only [VC.denO, VC.den, ih, givenO_std E ln df, densO_std]; rfl
 | hyp j us k ih => intro ρ; simp only [VC.denO, VC.den, ih, densO_std]; rfl
 | less j us vs k ih => intro ρ; simp only [VC.denO, VC.den, ih, densO_std]; rfl
 | loads fs a cs k ih => intro ρ; simp only [VC.denO, VC.den, ih, givenO_std E ln df, X.denO_std, valsO_std]
 | cells xs off cs k ih => intro ρ; simp only [VC.denO, VC.den, ih, X.denO_std, valsO_std]
 | ones xs k ih => intro ρ; simp only [VC.denO, VC.den, ih, X.denO_std]
 | reads fs size a n xs k ih => intro ρ; simp only [VC.denO, VC.den, ih, givenO_std E ln df, X.denO_std]
 | ret os fs => intro ρ; simp only [VC.denO, VC.den, givenO_std E ln df, densO_std]; rfl
 | isfn x f k ih => intro ρ; simp only [VC.denO, VC.den, ih, X.denO_std]
 | pan f us k ih => intro ρ; simp only [VC.denO, VC.den, ih, densO_std]; rfl
 | panv x => intro ρ; simp only [VC.denO, VC.den, X.denO_std]; rfl
 | _ => intro ρ; rfl
inductive Plan | done | take (i : Nat) (p : Plan) | act (i : Nat) (p : Plan) | skip (i : Nat) (p : Plan) | split (i : Nat) (p q : Plan)
def takesTo (p : Plan) : Nat → Nat → Plan
 | _, 0 => p
 | i, c + 1 => .take i (takesTo p (i + 1) c)
def planOf : Nat → List Nat → Plan × List Nat
 | 0, l => (.done, l)
 | _ + 1, [] => (.done, [])
 | g + 1, n :: l =>
  if n = 999999 then (.done, l) else
  if 999999 < n then let r := planOf g l; (takesTo r.1 ((n - 1000000) / 1000) ((n - 1000000) % 1000), r.2) else
  match n % 4 with
  | 0 => let r := planOf g l; (.take (n / 4) r.1, r.2)
  | 1 => let r := planOf g l; (.act (n / 4) r.1, r.2)
  | 2 => let r := planOf g l; (.skip (n / 4) r.1, r.2)
  | _ => let r := planOf g l; let q := planOf g r.2; (.split (n / 4) r.1 q.1, q.2)
def runPlan (P : Program) (Γ : Cfg) (ops : Array Oper) (fs : List FX) : Plan → St → (St → VC) → VC
 | .done, S, k => k S
 | .take i p, S, k =>
  match ops[i]? with
  | some o => quiet P Γ fs (fun _ => true) o S fun v S' => runPlan P Γ ops fs p (S'.put o.dst v) k
  | none => .no 200
 | .act i p, S, k =>
  match ops[i]? with
  | some o => stepG P Γ ops o S fun S' => runPlan P Γ ops fs p S' k
  | none => .no 200
 | .skip i p, S, k =>
  match ops[i]? with
  | some o => runPlan P Γ ops fs p (S.kill o.dst) k
  | none => .no 200
 | .split i p q, S, k =>
  match pend ops S i with
  | some (d, c) => .and (.imp c (runPlan P Γ ops fs p ((S.know c).put (some d) (.s (.one (.bool (.bool true))))) k)) (.imp (X.not c) (runPlan P Γ ops fs q ((S.know (X.not c)).put (some d) (.s (.one (.bool (.bool false))))) k))
  | none => .no 201
def execP (P : Program) (Γ : Cfg) (pl : List (Nat × Plan)) : Code → St → (Ex → St → VC) → VC
 | .skip, S, k => k .normal S
 | .label _, S, k => k .normal S
 | .region r ops draw, S, k =>
  if draw then
   match pl.lookup r with
   | some p => runPlan P { Γ with np := true } ops S.facts p S (k .normal)
   | none => .no 202
  else runOps P Γ ops (List.range ops.size) S (k .normal)
 | .seq a b, S, k =>
  match (joinKey a).bind fun r => (Γ.joins.lookup r).map fun A => (r + 1000, A) with
  | none => execP P Γ pl a S fun e S' => match e with | .normal => execP P Γ pl b S' k | e => k e S'
  | some (r, A) =>
   match headOf A a S with
   | none => .no 90
   | some H =>
    let hv := vars S.nv H.srts.length ++ A.extra
    .and (execP P Γ pl a S fun e T => match e with
       | .normal => match fits H T with
        | some vs => .inv r (vs ++ A.extra) T.facts .top
        | none => .no 91
       | e => k e T)
      (alls H.srts S fun S1 => .hyp r hv (execP P Γ pl b (H.at_ S1.nv r hv) k))
 | .cond c x y, S, k =>
  match S.opd c with
  | some (.s (.one (.bool (.bool true)))) => execP P Γ pl x S k
  | some (.s (.one (.bool (.bool false)))) => execP P Γ pl y S k
  | some (.s (.one (.bool q))) =>
   if S.known.contains q = true then execP P Γ pl x S k
   else if S.known.contains (X.not q) = true then execP P Γ pl y S k
   else .and (.imp q (execP P Γ pl x (S.know q) k)) (.imp (X.not q) (execP P Γ pl y (S.know (X.not q)) k))
  | _ => .no 61
 | .block id c, S, k => execP P Γ pl c S fun e S' => match e with | .exit j => if j = id then k .normal S' else k e S' | e => k e S'
 | .exit id, S, k => k (.exit id) S
 | .ret, S, k => k .ret S
 | .loop c, S, k =>
  match (Code.first c).bind fun r => Γ.unroll.lookup r with
  | some n => rounds (execP P Γ pl c) n S k
  | none =>
  match (Code.first c).bind fun r => (Γ.loops.lookup r).map fun A => (r, A) with
  | none => .no 62
  | some (r, A) =>
   match headOf A c S with
   | none => .no 63
   | some H =>
    match fits H S with
    | none => .no 64
    | some us =>
      let hv := vars S.nv H.srts.length ++ A.extra
      .inv r (us ++ A.extra) S.facts
       (alls H.srts S fun S1 =>
        .hyp r hv (execP P Γ pl c (H.at_ S1.nv r hv) (fun e T => match e with
         | .normal => match fits H T with
          | some vs => .inv r (vs ++ A.extra) T.facts (.less r hv (vs ++ A.extra) .top)
          | none => .no 65
         | e => k e T)))
 | _, _, _ => .no 69
def vcOfP (P : Program) (Γ : Cfg) (pl : List (Nat × List Nat)) (f : Nat) : VC :=
 match P.funcs[f]? with
 | none => .no 80
 | some fn =>
  match shsOf P fn.params, shsOf P fn.resultTypes, lentsLfs P Γ.mine, fn.body with
  | some pin, some pout, some lls, some body => execP P Γ (pl.map fun p => (p.1, (planOf 1000 p.2).1)) body (start fn pin Γ.own Γ.mine lls) fun e S => match e with | .normal | .ret => final P fn pout Γ.mine lls S | _ => .no 81
  | _, _, _, _ => .no 82
def chkL (P : Program) (Γ : Cfg) (fn : Func) (specs : List (Nat × Ctr)) (gh : Nat) (srts : List Srt) : Bool :=
 P.follows .mixedOrders && decide (Γ.con = conOf specs) && Γ.keepB.isEmpty &&
 match shsOf P fn.params, shsOf P fn.resultTypes, lentsLfs P Γ.mine with
 | some pin, some _, some lls => decide (srts = lfsSrts (shsLfs pin) ++ (lfsSrts lls.flatten ++ List.replicate gh .g))
 | _, _, _ => false
def chk (P : Program) (Γ : Cfg) (fn : Func) (specs : List (Nat × Ctr)) (gh : Nat) (srts : List Srt) : Bool :=
 P.follows .mixedOrders && decide (Γ.con = conOf specs) && Γ.keepB.isEmpty && Γ.mine.isEmpty &&
 match shsOf P fn.params, shsOf P fn.resultTypes with
 | some pin, some _ => decide (srts = lfsSrts (shsLfs pin) ++ List.replicate gh .g)
 | _, _ => false
def AllU (k : List U → Prop) : List Srt → List U → Prop
 | [], acc => k acc.reverse
 | .i :: l, acc => ∀ x : Int, AllU k l (.i x :: acc)
 | .n :: l, acc => ∀ x : Nat, AllU k l (.n x :: acc)
 | .b :: l, acc => ∀ x : Bool, AllU k l (.b x :: acc)
 | .s :: l, acc => ∀ x : ByteArray, AllU k l (.s x :: acc)
 | .p :: l, acc => ∀ x : Option Addr, AllU k l (.p x :: acc)
 | .l :: l, acc => ∀ x : List Value, AllU k l (.l x :: acc)
 | .v :: l, acc => ∀ x : Value, AllU k l (.v x :: acc)
 | .g :: l, acc => ∀ (α : Type) (x : α), AllU k l (.g x :: acc)
theorem AllU.get {k : List U → Prop} : ∀ {l : List Srt} {acc us : List U}, AllU k l acc → us.map U.srt = l → k (acc.reverse ++ us)
 | [], acc, us, h, hu => by
  have : us = [] := by simpa using hu
  subst this; rw [List.append_nil]; exact h
 | so :: l, acc, us, h, hu => by
  cases us with
  | nil => cases hu
  | cons u us =>
   rw [List.map_cons] at hu; injection hu with h1 h2
   have hh : AllU k l (u :: acc) := by
    subst h1; cases u <;> first | exact h _ | exact h _ _
   have := AllU.get hh h2; rw [List.reverse_cons, List.append_assoc] at this; exact this
theorem keepsL_v {P : Program} {f : Nat} {fn : Func} {v : VC} (hfn : P.funcs[f]? = some fn) (Γ : Cfg) (hv : vcOf P Γ f = v) (srts : List Srt) (s : Ctr) (specs : List (Nat × Ctr)) (hs : KeepAll P Γ.lents Γ.pans specs)
  (hok : chkL P Γ fn specs s.gh srts = true) (mono : ∀ us w w', s.pre us w → s.pre us w')
  (vc : AllU (fun us => ∀ w, s.pre us w → ∃ invs, v.denO std ⟨ctrOf specs, s, invOf invs, us, w.heap.size⟩ (rhoOf us srts)) srts []) : KeepsL P f s Γ.mine := by
 unfold chkL at hok; simp only [Bool.and_eq_true, decide_eq_true_eq] at hok; obtain ⟨⟨⟨hm, hΓ⟩, hkb⟩, hok⟩ := hok; split at hok
 ·next pin pout lls h1 h2 h3 =>
  rw [decide_eq_true_eq] at hok; subst hok; refine keepsL_of hm hfn h1 h2 s specs Γ h3 hs hΓ (fun us w w' _ _ h _ => mono us w w' h) ?_ (by simpa using hkb); intro us w ht hp ln; obtain ⟨invs, h⟩ := AllU.get vc ht w hp; refine ⟨invs, ?_⟩; rw [hv]; rw [VC.denO_std _ ln []] at h; exact h
 ·cases hok
theorem keeps_v {P : Program} {f : Nat} {fn : Func} {v : VC} (hfn : P.funcs[f]? = some fn) (Γ : Cfg) (hv : vcOf P Γ f = v) (srts : List Srt) (s : Ctr) (specs : List (Nat × Ctr)) (hs : KeepAll P Γ.lents Γ.pans specs)
  (hok : chk P Γ fn specs s.gh srts = true) (mono : ∀ us w w', s.pre us w → Below w.heap.size w w' → s.pre us w')
  (vc : AllU (fun us => ∀ w, s.pre us w → ∃ invs, v.denO std ⟨ctrOf specs, s, invOf invs, us, w.heap.size⟩ (rhoOf us srts)) srts []) (hpan : ∀ us ch, ¬ s.pan us ch := by exact fun _ _ h => h) : Keeps P f s := by
 unfold chk at hok; simp only [Bool.and_eq_true, decide_eq_true_eq] at hok; obtain ⟨⟨⟨⟨hm, hΓ⟩, hkb⟩, hmine⟩, hok⟩ := hok; split at hok
 ·next pin pout h1 h2 =>
  rw [decide_eq_true_eq] at hok; subst hok; refine keeps_of hm hfn h1 h2 s specs Γ hs hΓ mono ?_ (by simpa using hmine) hpan (by simpa using hkb); intro us w ht hp; obtain ⟨invs, h⟩ := AllU.get vc ht w hp; refine ⟨invs, ?_⟩; rw [hv]; rw [VC.denO_std _ [] []] at h; exact h
 ·cases hok
theorem vc_use {v : VC} {us : List U} {ρ : Nat → U} {specs : List (Nat × Ctr)} {invs : List (Nat × Inv)} {s0 : Ctr} {b0 : Nat} (Q : (O : Alg) → (Nat → Ctr) → Ctr → (Nat → Inv) → Nat → O.T)
  (h : ∀ O C s I b, v.denO O ⟨C, s, I, us, b⟩ ρ = Q O C s I b) (g : Q std (ctrOf specs) s0 (invOf invs) b0) : v.denO std ⟨ctrOf specs, s0, invOf invs, us, b0⟩ ρ := by
 rw [h]; exact g
end Go.Proofs.YtjhaafbbdgjagaaGreat.Vc
