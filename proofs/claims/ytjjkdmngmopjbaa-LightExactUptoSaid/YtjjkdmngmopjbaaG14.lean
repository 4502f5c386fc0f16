/- Of the texts VcM, VcN. -/
import Derived.Test.YtjjkdmngmopjbaaG13
set_option linter.unusedSimpArgs false
set_option linter.unusedVariables false
namespace Go.Proofs.Ytjjkdmngmopjbaa.Vc
open Go Go.RowKit
section
variable {P : Program} {Γ : Cfg} {σ : Sm} {w0 : World}
theorem exec_den (c : Ctx P Γ σ w0) : ∀ (code : Code) (Q : Exit → Act → World → Prop) (hQ : ∀ ch a w, ¬ Q (.panic ch) a w) (S : St) (k : Ex → St → VC) (β : Beta) (ρ : Nat → U) (a : Act) (w : World), Den σ S β ρ w0 a w → (exec P Γ code S k).den σ ρ →
    (∀ e S' β' ρ' a' w', (k e S').den σ ρ' → Den σ S' β' ρ' w0 a' w' → Alike S.nv ρ ρ' → S.nv ≤ S'.nv → Q e.x a' w') → code.wp P Q a w := by
  intro code
  induction code with
  | skip => intro Q _ S k β ρ a w d h hK; exact wp_skip (hK .normal S β ρ a w h d (Alike.refl _ _) (Nat.le_refl _))
  | label l => intro Q _ S k β ρ a w d h hK; exact wp_label (hK .normal S β ρ a w h d (Alike.refl _ _) (Nat.le_refl _))
  | region id ops draw =>
    intro Q hQ S k β ρ a w d h hK
    exact region_den c hQ d h fun S' β' ρ' a' w' g1 g2 g3 g4 => hK .normal S' β' ρ' a' w' g1 g2 g3 g4
  | seq x y ihx ihy =>
    intro Q hQ S k β ρ a w d h hK
    unfold exec at h
    split at h
    · refine wp_seq (ihx (Exit.then (y.wp P Q) Q) (fun ch a w => hQ ch a w) S _ β ρ a w d h ?_)
      intro e S' β' ρ' a' w' g1 g2 g3 g4
      cases e with
      | normal => exact ihy Q hQ S' k β' ρ' a' w' g2 g1 fun e S'' β'' ρ'' a'' w'' f1 f2 f3 f4 => hK e S'' β'' ρ'' a'' w'' f1 f2 (g3.trans f3 g4) (Nat.le_trans g4 f4)
      | exit id => exact hK (.exit id) S' β' ρ' a' w' g1 g2 g3 g4
      | ret => exact hK .ret S' β' ρ' a' w' g1 g2 g3 g4
    · next r A _ =>
      split at h
      · exact h.elim
      · next H hH =>
        dsimp only at h
        split at h
        · next hc =>
          obtain ⟨hok, hex⟩ := hc
          obtain ⟨h1, h2⟩ := h
          refine wp_seq (ihx (Exit.then (y.wp P Q) Q) (fun ch a w => hQ ch a w) S _ β ρ a w d h1 ?_)
          intro e T β' ρT a' w' g1 g2 hal g4
          cases e with
          | normal =>
            dsimp only at g1
            split at g1
            · next vs hT =>
              obtain ⟨hi1, hf1, _⟩ := g1
              obtain ⟨ρ', a2, hvars, h⟩ := alls_den H.srts S ρ _ (dens ρT vs) (head_terms hH hT ρT) h2
              have hexd : dens ρ' A.extra = dens ρT A.extra := (dens_alike a2 _ hex).trans (dens_alike hal _ hex).symm
              have hhv : dens ρ' (vars S.nv H.srts.length ++ A.extra) = dens ρT (vs ++ A.extra) := by rw [dens_append, dens_append, hvars, hexd]
              have h := h (by rw [hhv]; exact hi1)
              split at h
              · next hck =>
                simp only [Bool.and_eq_true, decide_eq_true_eq] at hck
                obtain ⟨⟨k1, k2⟩, k3⟩ := hck
                have d2 := head_den g2 hH hT hok hal a2 hvars k2 k3 d.kn fun u hp hF => by
                  show σ.invF r (dens ρ' (vars S.nv H.srts.length ++ A.extra)) u
                  rw [hhv]
                  exact given_out (hf1 u) hF
                have hnv : S.nv ≤ (H.at_ (S.nv + H.srts.length) r (vars S.nv H.srts.length ++ A.extra)).nv := Nat.le_add_right _ _
                exact ihy Q hQ _ k β' ρ' a' w' d2 h fun e S'' β'' ρ'' a'' w'' f1 f2 f3 f4 => hK e S'' β'' ρ'' a'' w'' f1 f2 (a2.trans f3 hnv) (Nat.le_trans hnv f4)
              · exact h.elim
            · exact g1.elim
          | exit id => exact hK (.exit id) T β' ρT a' w' g1 g2 hal g4
          | ret => exact hK .ret T β' ρT a' w' g1 g2 hal g4
        · exact h.elim
  | cond x t f iht ihf =>
    intro Q hQ S k β ρ a w d h hK
    unfold exec at h
    split at h
    · next hx => exact wp_cond (t := true) (opd_den d.fr hx) (iht Q hQ S k β ρ a w d h hK)
    · next hx => exact wp_cond (t := false) (opd_den d.fr hx) (ihf Q hQ S k β ρ a w d h hK)
    · next q _ _ hx =>
      obtain ⟨h1, h2⟩ := h
      have hv : a.eval x = .bool (q.den ρ).B := opd_den d.fr hx
      refine wp_cond_split hv (fun hb => ?_) (fun hb => ?_)
      · exact iht Q hQ (S.know q) k β ρ a w (d.know ((X.holds_iff ρ q).2 hb)) (h1 ((X.holds_iff ρ q).2 hb)) hK
      · have hn : (X.not q).holds ρ := (X.holds_iff ρ _).2 (by rw [not_den, hb]; rfl)
        exact ihf Q hQ (S.know (X.not q)) k β ρ a w (d.know hn) (h2 hn) hK
    · exact h.elim
  | block id b ih =>
    intro Q hQ S k β ρ a w d h hK
    unfold exec at h
    refine wp_block (ih (Exit.inBlock id Q) (fun ch a w => hQ ch a w) S _ β ρ a w d h ?_)
    intro e S' β' ρ' a' w' g1 g2 g3 g4
    cases e with
    | normal => exact hK .normal S' β' ρ' a' w' g1 g2 g3 g4
    | exit j =>
      show Exit.inBlock id Q (.exit j) a' w'
      dsimp only at g1
      unfold Exit.inBlock
      simp only
      split at g1
      · next e => rw [if_pos e]; exact hK .normal S' β' ρ' a' w' g1 g2 g3 g4
      · next e => rw [if_neg e]; exact hK (.exit j) S' β' ρ' a' w' g1 g2 g3 g4
    | ret => exact hK .ret S' β' ρ' a' w' g1 g2 g3 g4
  | loop b ih =>
    intro Q hQ S k β ρ a w d h hK
    unfold exec at h
    split at h
    · exact h.elim
    · next r A _ =>
      split at h
      · exact h.elim
      · next H hH =>
        split at h
        · exact h.elim
        · next us hus =>
          split at h
          · next hc =>
            obtain ⟨hok, hlen, hex⟩ := hc
            obtain ⟨hi, hf, h⟩ := h
            refine wp_loop_rel (fun n a w => ∃ (T : St) (β' : Beta) (ρT : Nat → U) (vs : List X), Den σ T β' ρT w0 a w ∧ fits H T = some vs ∧ Alike S.nv ρ ρT ∧ σ.inv r (dens ρT (vs ++ A.extra)) ∧ (∀ u, given σ ρT u T.facts (σ.invF r (dens ρT (vs ++ A.extra)) u)) ∧ n = σ.mea r (dens ρT (vs ++ A.extra))) ⟨_, S, β, ρ, us, d, hus, Alike.refl _ _, hi, hf, rfl⟩ ?_
            rintro n a1 w1 ⟨T, β', ρT, vs, d1, hT, hal, hi1, hf1, rfl⟩
            obtain ⟨ρ', a2, hvars, h⟩ := alls_den H.srts S ρ _ (dens ρT vs) (head_terms hH hT ρT) h
            have hexd : dens ρ' A.extra = dens ρT A.extra := (dens_alike a2 _ hex).trans (dens_alike hal _ hex).symm
            have hhv : dens ρ' (vars S.nv H.srts.length ++ A.extra) = dens ρT (vs ++ A.extra) := by rw [dens_append, dens_append, hvars, hexd]
            have h := h (by rw [hhv]; exact hi1)
            split at h
            · next hck =>
              simp only [Bool.and_eq_true, decide_eq_true_eq] at hck
              obtain ⟨⟨k1, k2⟩, k3⟩ := hck
              have d2 := head_den d1 hH hT hok hal a2 hvars k2 k3 d.kn fun u hp hF => by
                show σ.invF r (dens ρ' (vars S.nv H.srts.length ++ A.extra)) u
                rw [hhv]
                exact given_out (hf1 u) hF
              have hnv : S.nv ≤ (H.at_ (S.nv + H.srts.length) r (vars S.nv H.srts.length ++ A.extra)).nv := Nat.le_add_right _ _
              refine ih (Exit.then _ Q) (fun ch a w => hQ ch a w) _ _ β' ρ' a1 w1 d2 h ?_
              intro e T' β'' ρ'' a' w' g1 g2 g3 g4
              have g5 : Alike S.nv ρ ρ'' := a2.trans g3 hnv
              have g6 : S.nv ≤ T'.nv := Nat.le_trans hnv g4
              cases e with
              | normal =>
                dsimp only at g1
                split at g1
                · next vs' hvs' =>
                  split at g1
                  · obtain ⟨i1, i2, i3, _⟩ := g1
                    refine ⟨_, ?_, T', β'', ρ'', vs', g2, hvs', g5, i1, i2, rfl⟩
                    have : dens ρ'' (vars S.nv H.srts.length ++ A.extra) = dens ρT (vs ++ A.extra) := by
                      rw [← hhv]
                      unfold St.ok at k1
                      have hF : (H.at_ (S.nv + H.srts.length) r (vars S.nv H.srts.length ++ A.extra)).upto (H.at_ (S.nv + H.srts.length) r (vars S.nv H.srts.length ++ A.extra)).nv = true := k1
                      unfold St.upto at hF
                      simp only [Bool.and_eq_true, List.all_eq_true] at hF
                      have := hF.1.1.2 (.inv r (vars S.nv H.srts.length ++ A.extra)) (List.mem_append_right _ (List.mem_singleton.2 rfl))
                      exact dens_alike g3 _ this
                    rw [← this]
                    exact i3
                  · exact g1.elim
                · exact g1.elim
              | exit id => exact hK (.exit id) T' β'' ρ'' a' w' g1 g2 g5 g6
              | ret => exact hK .ret T' β'' ρ'' a' w' g1 g2 g5 g6
            · exact h.elim
          · exact h.elim
  | exit id => intro Q _ S k β ρ a w d h hK; exact wp_exit (hK (.exit id) S β ρ a w h d (Alike.refl _ _) (Nat.le_refl _))
  | ret => intro Q _ S k β ρ a w d h hK; exact wp_ret (hK .ret S β ρ a w h d (Alike.refl _ _) (Nat.le_refl _))
  | rangeFunc => intro Q _ S k β ρ a w d h hK; exact h.elim
  | scope => intro Q _ S k β ρ a w d h hK; exact h.elim
  | goto => intro Q _ S k β ρ a w d h hK; exact h.elim
  | refuse => intro Q _ S k β ρ a w d h hK; exact h.elim
def resF (tm : Array Value) : ResultVar → Sem Value
  | .tmp t => pure (tm.getD t undef)
  | .cell a t => do loadVar t (← asAddr (tm.getD a undef))
theorem results_eq (fn : Func) (tm : Array Value) : results fn tm = (do let vs ← fn.results.mapM (resF tm); pure (if h : vs.size = 1 then vs[0] else .tuple vs)) := by
  unfold results
  first
    | rfl
    | (congr 1)
/-- the results' values -/
theorem resS_den {S : St} {β : Beta} {ρ : Nat → U} {a : Act} {w : World} (d : Den σ S β ρ w0 a w) : ∀ (l : List ResultVar) (vs : List SV1), resS P S l = some vs → (l.mapM (resF a.tmps)).run P w = .ok (vs.map (SV1.den β ρ)) w
  | [], vs, h => by
    injection h with h; subst h
    rfl
  | .tmp t :: l, vs, h => by
    unfold resS at h
    split at h
    · next v vs' hv hl =>
      injection h with h; subst h
      have e : (resF a.tmps (.tmp t)).run P w = .ok (v.den β ρ) w := by
        have := d.fr t _ hv
        show (pure (a.tmps.getD t undef) : Sem Value).run P w = _
        rw [Array.getD_eq_getD_getElem?, this]
        rfl
      rw [List.mapM_cons]
      simp only [Sem.run_bind, e, Result.andThen_ok, resS_den d l vs' hl, Sem.run_pure]
      rfl
    · cases h
  | .cell x t :: l, vs, h => by
    unfold resS at h
    split at h
    · next m off vs' hv hl =>
      split at h
      · next bt cs hb =>
        rw [Option.map_eq_some_iff] at h
        obtain ⟨v, hp, rfl⟩ := h
        have e : (resF a.tmps (.cell x t)).run P w = .ok (v.den β ρ) w := by
          have := d.fr x _ hv
          show (do loadVar t (← asAddr (a.tmps.getD x undef)) : Sem Value).run P w = _
          rw [Array.getD_eq_getD_getElem?, this]
          have e2 : (SV.s (.one (.own m off))).den β ρ = .pointer (some ⟨β.blk m, off, none⟩) := rfl
          rw [e2]
          simp only [Option.getD_some, asAddr, Sem.run_bind, Sem.run_pure, Result.andThen_ok]
          exact load_own β ρ hp (d.bk _ (lookup_blk hb)).1
        rw [List.mapM_cons]
        simp only [Sem.run_bind, e, Result.andThen_ok, resS_den d l vs' hl, Sem.run_pure]
        rfl
      · cases h
    · cases h
def noBeta : Beta := { blk := fun _ => 0, row := fun _ => (none, 0), junk := fun _ => undef }
/-- the meaning of the state at a function's start -/
theorem start_den {fn : Func} {pin : List Sh} {us : List U} {ρ : Nat → U} {own : Nat} (hpin : pin.length = fn.params.size) (hb : σ.base = w0.heap.size) (hpre : ∀ u, Below σ.base w0 u → σ.pre0 u) (hval : (shsFresh 0 pin).map (SV1.den noBeta ρ) = shsV us 0 pin) :
    Den σ (start fn pin own) noBeta ρ w0 { tmps := (shsV us 0 pin).toArray ++ Array.replicate (fn.ntmps - (shsV us 0 pin).toArray.size) undef, defers := [] } w0 := by
  have hlen : ∀ (ss : List Sh) (k : Nat), (shsV us k ss).length = ss.length := by
    intro ss
    induction ss with
    | nil => intro _; rfl
    | cons s ss ih => intro k; show (shsV us _ ss).length + 1 = _; rw [ih]; rfl
  refine ⟨rfl, ?_, ?_, (fun q hq => by cases hq), (fun q hq => by cases hq), List.nodup_nil, List.nodup_nil, (fun q hq => by cases hq), ?_, (fun q hq => by cases hq), Below.refl _ _⟩
  · rw [Array.size_append, Array.size_replicate, List.size_toArray, hlen, hpin]
    show _ = max _ _
    omega
  · intro t v hvv
    have hvv : ((shsFresh 0 pin).zipIdx.map fun p => (p.2, SV.s p.1)).lookup t = some v := hvv
    have hm := lookup_mem hvv
    obtain ⟨p, hp, he⟩ := List.mem_map.1 hm
    injection he with h1 h2
    subst h1; subst h2
    have hg := List.mem_zipIdx_iff_getElem?.1 hp
    have : (shsV us 0 pin)[p.2]? = some (p.1.den noBeta ρ) := by
      rw [← hval, List.getElem?_map, hg]
      rfl
    have hlt : p.2 < (shsV us 0 pin).length := by
      rcases Nat.lt_or_ge p.2 (shsV us 0 pin).length with h | h
      · exact h
      · rw [List.getElem?_eq_none h] at this; cases this
    show ((shsV us 0 pin).toArray ++ _)[p.2]? = _
    rw [Array.getElem?_append_left (by simpa using hlt)]
    simpa [SV.den] using this
  · intro F hF u hp _
    have : F = .pre := List.mem_singleton.1 hF
    subst this
    exact hp
/-- where a function's results go -/
theorem final_den (c : Ctx P Γ σ w0) {fn : Func} {pout : List Sh} {S : St} {β : Beta} {ρ : Nat → U} {a : Act} {w : World} (d : Den σ S β ρ w0 a w) (h : (final P fn pout S).den σ ρ) : ∃ os : List U, os.map U.srt = lfsSrts (shsLfs pout) ∧ (results fn a.tmps).run P w = .ok (resV os pout) w ∧ σ.post0 os ∧ (∀ u, σ.pre0 u → (∀ b, σ.base ≤ b → b < w.heap.size → u.heap[b]? = w.heap[b]?) → σ.fact0 os u) ∧ Below σ.base w0 w := by
  unfold final at h
  split at h
  · exact h.elim
  · next vs hvs =>
    dsimp only at h
    obtain ⟨S1, ρ1, hx, d1, a1, n1, e1, e2, e3, e4, e5⟩ := expose_den _ S ρ _ d h
    clear h
    split at hx
    · next shs us S2 hfl hS2 =>
      split at hx
      · next he =>
        subst he
        obtain ⟨d2, _, _⟩ := retires_den d1 hS2
        obtain ⟨f1, f2⟩ := flats_den (β := β) (ρ := ρ1) d1.ex vs _ us hfl
        have hvs1 : resS P S1 fn.results.toList = some vs := by
          rw [← hvs]
          have : ∀ l : List ResultVar, resS P S1 l = resS P S l := by
            intro l
            induction l with
            | nil => rfl
            | cons x l ih =>
              cases x with
              | tmp t => unfold resS; rw [ih]; unfold St.get; rw [e1]
              | cell x t => unfold resS; rw [ih]; unfold St.get St.block; rw [e1, e2]
          exact this _
        have hr := resS_den d1 fn.results.toList vs hvs1
        refine ⟨dens ρ1 us, flats_typed ρ1 vs _ us hfl, ?_, hx.1, ?_, d.bl⟩
        · rw [results_eq, Array.mapM_eq_mapM_toList]
          simp only [Sem.run_bind, Sem.run_map, hr, Result.andThen_ok, Sem.run_pure]
          rw [← f1]
          have hlen : ∀ (ss : List Sh) (k : Nat), (shsV (dens ρ1 us) k ss).length = ss.length := by
            intro ss
            induction ss with
            | nil => intro _; rfl
            | cons s ss ih => intro k; show (shsV (dens ρ1 us) _ ss).length + 1 = _; rw [ih]; rfl
          cases shs with
          | nil => rfl
          | cons s l =>
            cases l with
            | nil => rfl
            | cons s' l =>
              rw [dif_neg (by rw [List.size_toArray, hlen]; simp)]
              rfl
        · intro u hp hs
          refine given_out (hx.2 u) fun F hF => d2.fx F hF u hp fun b h1 h2 _ => hs b h1 h2
      · exact hx.elim
    · exact hx.elim
/-- a reading of variables by their sorts -/
def Srt.norm : Srt → U → U
  | .i, x => .i x.I | .n, x => .n x.N | .b, x => .b x.B | .s, x => .s x.S | .p, x => .p x.P | .l, x => .l x.L | .v, x => .v x.V | .g, x => x
def rhoOf (us : List U) (l : List Srt) : Nat → U := fun j => (l.getD j .i).norm (at_ us j)
theorem getD_app {a b : List Srt} {k : Nat} : (a ++ b).getD (a.length + k) .i = b.getD k .i := by
  rw [List.getD_eq_getElem?_getD, List.getD_eq_getElem?_getD, List.getElem?_append_right (by omega)]
  congr 2
  omega
theorem rho_fresh {us : List U} (l : Lf) (pre post : List Srt) : (l.fresh pre.length).den noBeta (rhoOf us (pre ++ l.srts ++ post)) = l.val1 us pre.length := by
  have h : ∀ j, (pre ++ l.srts ++ post).getD (pre.length + j) .i = (l.srts ++ post).getD j .i := fun j => by rw [List.append_assoc]; exact getD_app
  have h0 := h 0
  have h1 := h 1
  have h2 := h 2
  rw [Nat.add_zero] at h0
  cases l <;> simp only [Lf.fresh, C1.den, Lf.val1, X.den, rhoOf, h0, h1, h2] <;> rfl
theorem srts_len (l : Lf) : l.srts.length = l.ar := by cases l <;> rfl
theorem rho_freshs {us : List U} : ∀ (ls : List Lf) (pre post : List Srt), (freshs pre.length ls).map (C1.den noBeta (rhoOf us (pre ++ lfsSrts ls ++ post))) = lfsV us pre.length ls
  | [], _, _ => rfl
  | l :: ls, pre, post => by
    have h1 := rho_fresh (us := us) l pre (lfsSrts ls ++ post)
    have h2 := rho_freshs (us := us) ls (pre ++ l.srts) post
    have e : pre ++ lfsSrts (l :: ls) ++ post = pre ++ l.srts ++ (lfsSrts ls ++ post) := by unfold lfsSrts; simp
    have e2 : pre ++ l.srts ++ lfsSrts ls ++ post = pre ++ l.srts ++ (lfsSrts ls ++ post) := by simp
    rw [e]
    rw [e2, List.length_append, srts_len] at h2
    unfold freshs lfsV
    rw [List.map_cons, h1, h2]
theorem rho_sh {us : List U} (s : Sh) (pre post : List Srt) : (s.fresh pre.length).den noBeta (rhoOf us (pre ++ lfsSrts s.lfs ++ post)) = s.val1 us pre.length := by
  cases s with
  | one l =>
    have := rho_fresh (us := us) l pre post
    simp only [Sh.lfs, lfsSrts, List.flatMap_cons, List.flatMap_nil, List.append_nil]
    exact this
  | agg ls =>
    have := rho_freshs (us := us) ls pre post
    simp only [Sh.fresh, SV1.den, Sh.val1, Sh.lfs, this]
theorem rho_shs {us : List U} : ∀ (ss : List Sh) (pre post : List Srt), (shsFresh pre.length ss).map (SV1.den noBeta (rhoOf us (pre ++ lfsSrts (shsLfs ss) ++ post))) = shsV us pre.length ss
  | [], _, _ => rfl
  | s :: ss, pre, post => by
    have h1 := rho_sh (us := us) s pre (lfsSrts (shsLfs ss) ++ post)
    have h2 := rho_shs (us := us) ss (pre ++ lfsSrts s.lfs) post
    have e : pre ++ lfsSrts (shsLfs (s :: ss)) ++ post = pre ++ lfsSrts s.lfs ++ (lfsSrts (shsLfs ss) ++ post) := by unfold lfsSrts shsLfs; simp
    have e2 : pre ++ lfsSrts s.lfs ++ lfsSrts (shsLfs ss) ++ post = pre ++ lfsSrts s.lfs ++ (lfsSrts (shsLfs ss) ++ post) := by simp
    rw [e]
    rw [e2, List.length_append, srts_ar] at h2
    unfold shsFresh shsV
    rw [List.map_cons, h1, h2]
/-- the conditions of a function are enough for its contract -/
theorem calls_of_vc (c : Ctx P Γ σ w0) {f : Nat} {fn : Func} {pin pout : List Sh} (hfn : P.funcs[f]? = some fn) (hpin : shsOf P fn.params = some pin) (hpout : shsOf P fn.resultTypes = some pout) (us : List U) (gs : List Srt) (h : (vcOf P Γ f).den σ (rhoOf us (lfsSrts (shsLfs pin) ++ gs))) :
    Calls P f (shsV us 0 pin).toArray w0 fun e w' => ∃ os : List U, os.map U.srt = lfsSrts (shsLfs pout) ∧ e = .returned (resV os pout) ∧ σ.post0 os ∧ (∀ u, σ.pre0 u → (∀ b, σ.base ≤ b → b < w'.heap.size → u.heap[b]? = w'.heap[b]?) → σ.fact0 os u) ∧ Below w0.heap.size w0 w' := by
  unfold vcOf at h
  rw [hfn] at h
  dsimp only at h
  rw [hpin, hpout] at h
  split at h
  · next pin' pout' body e1 e2 hbody =>
    injection e1 with e1
    injection e2 with e2
    subst e1; subst e2
    refine calls_of_wp hfn hbody ?_
    have hlen : pin.length = fn.params.size := by
      unfold shsOf at hpin
      have : ∀ (l : List Nat) (ss : List Sh), l.mapM (shOf P) = some ss → ss.length = l.length := by
        intro l
        induction l with
        | nil => intro ss h; simp at h; subst h; rfl
        | cons x l ih =>
          intro ss h
          obtain ⟨v, vs', _, hl, rfl⟩ := mapM_cons h
          simp [ih _ hl]
      simpa using this _ _ hpin
    have hval : (shsFresh 0 pin).map (SV1.den noBeta (rhoOf us (lfsSrts (shsLfs pin) ++ gs))) = shsV us 0 pin := by
      have := rho_shs (us := us) pin [] gs
      simpa using this
    refine exec_den c body _ (fun ch a w hq => ?_) _ _ noBeta _ _ _ (start_den hlen c.base c.pre hval) h ?_
    · obtain ⟨_, os, _, he, _⟩ := hq
      cases he
    · intro e S' β' ρ' a' w' g1 g2 _ _
      cases e with
      | normal =>
        obtain ⟨os, h1, h2, h3, h4, h5⟩ := final_den c g2 g1
        exact ⟨g2.df, _, h2, os, h1, rfl, h3, h4, by rw [← c.base]; exact h5⟩
      | ret =>
        obtain ⟨os, h1, h2, h3, h4, h5⟩ := final_den c g2 g1
        exact ⟨g2.df, _, h2, os, h1, rfl, h3, h4, by rw [← c.base]; exact h5⟩
      | exit id => exact g1.elim
  · exact h.elim
end
end Go.Proofs.Ytjjkdmngmopjbaa.Vc

namespace Go.Proofs.Ytjjkdmngmopjbaa.Vc
open Go Go.RowKit
structure Inv where
  inv : List U → Prop
  fact : List U → World → Prop := fun _ _ => True
  mea : List U → Nat
def noCtr : Ctr := { pre := fun _ _ => False, post := fun _ _ => True, fact := fun _ _ _ => True }
def noInv : Inv := { inv := fun _ => False, mea := fun _ => 0 }
def ctrOf (l : List (Nat × Ctr)) (f : Nat) : Ctr := (l.lookup f).getD noCtr
def invOf (l : List (Nat × Inv)) (j : Nat) : Inv := (l.lookup j).getD noInv
def KeepAll (P : Program) : List (Nat × Ctr) → Prop
  | [] => True
  | p :: l => Keeps P p.1 p.2 ∧ KeepAll P l
def conOf (l : List (Nat × Ctr)) : List (Nat × Nat) := l.map fun p => (p.1, p.2.gh)
theorem KeepAll.get {P : Program} : ∀ {l : List (Nat × Ctr)}, KeepAll P l → ∀ f gh, (conOf l).lookup f = some gh → Keeps P f (ctrOf l f) ∧ (ctrOf l f).gh = gh
  | [], _, f, gh, h => by cases h
  | p :: l, hk, f, gh, h => by
    unfold ctrOf
    unfold conOf at h
    rw [List.map_cons, List.lookup_cons] at h
    rw [List.lookup_cons]
    split at h
    · next hb =>
      injection h with h
      have hb' : (f == p.1) = true := hb
      have e : f = p.1 := by simpa using hb'
      rw [e]
      exact ⟨hk.1, h⟩
    · next hb =>
      have hb' : (f == p.1) = false := hb
      exact KeepAll.get hk.2 f gh h
def smOf (specs : List (Nat × Ctr)) (s : Ctr) (invs : List (Nat × Inv)) (us : List U) (base : Nat) : Sm :=
  { base := base, pre0 := s.pre us, post0 := s.post us, fact0 := s.fact us, pre := fun f => (ctrOf specs f).pre, post := fun f => (ctrOf specs f).post, fact := fun f => (ctrOf specs f).fact,
    inv := fun j => (invOf invs j).inv, invF := fun j => (invOf invs j).fact, mea := fun j => (invOf invs j).mea }
theorem typed_i {us : List U} {l : List Srt} (h : us.map U.srt = .i :: l) : ∃ (x : Int) (us' : List U), us = .i x :: us' ∧ us'.map U.srt = l := by
  cases us with
  | nil => cases h
  | cons u us' => rw [List.map_cons] at h; injection h with h1 h2; cases u <;> first | exact ⟨_, us', rfl, h2⟩ | cases h1
theorem typed_n {us : List U} {l : List Srt} (h : us.map U.srt = .n :: l) : ∃ (x : Nat) (us' : List U), us = .n x :: us' ∧ us'.map U.srt = l := by
  cases us with
  | nil => cases h
  | cons u us' => rw [List.map_cons] at h; injection h with h1 h2; cases u <;> first | exact ⟨_, us', rfl, h2⟩ | cases h1
theorem typed_b {us : List U} {l : List Srt} (h : us.map U.srt = .b :: l) : ∃ (x : Bool) (us' : List U), us = .b x :: us' ∧ us'.map U.srt = l := by
  cases us with
  | nil => cases h
  | cons u us' => rw [List.map_cons] at h; injection h with h1 h2; cases u <;> first | exact ⟨_, us', rfl, h2⟩ | cases h1
theorem typed_s {us : List U} {l : List Srt} (h : us.map U.srt = .s :: l) : ∃ (x : ByteArray) (us' : List U), us = .s x :: us' ∧ us'.map U.srt = l := by
  cases us with
  | nil => cases h
  | cons u us' => rw [List.map_cons] at h; injection h with h1 h2; cases u <;> first | exact ⟨_, us', rfl, h2⟩ | cases h1
theorem typed_p {us : List U} {l : List Srt} (h : us.map U.srt = .p :: l) : ∃ (x : Option Addr) (us' : List U), us = .p x :: us' ∧ us'.map U.srt = l := by
  cases us with
  | nil => cases h
  | cons u us' => rw [List.map_cons] at h; injection h with h1 h2; cases u <;> first | exact ⟨_, us', rfl, h2⟩ | cases h1
theorem typed_v {us : List U} {l : List Srt} (h : us.map U.srt = .v :: l) : ∃ (x : Value) (us' : List U), us = .v x :: us' ∧ us'.map U.srt = l := by
  cases us with
  | nil => cases h
  | cons u us' => rw [List.map_cons] at h; injection h with h1 h2; cases u <;> first | exact ⟨_, us', rfl, h2⟩ | cases h1
theorem typed_g {us : List U} {l : List Srt} (h : us.map U.srt = .g :: l) : ∃ (α : Type) (x : α) (us' : List U), us = .g x :: us' ∧ us'.map U.srt = l := by
  cases us with
  | nil => cases h
  | cons u us' => rw [List.map_cons] at h; injection h with h1 h2; cases u <;> first | exact ⟨_, _, us', rfl, h2⟩ | cases h1
theorem typed_nil {us : List U} (h : us.map U.srt = []) : us = [] := by simpa using h
/-- a function's contract, by the conditions of its code -/
theorem keeps_of {P : Program} (hm : P.follows .mixedOrders = true) {f : Nat} {fn : Func} {pin pout : List Sh} (hfn : P.funcs[f]? = some fn) (hpin : shsOf P fn.params = some pin) (hpout : shsOf P fn.resultTypes = some pout)
    (s : Ctr) (specs : List (Nat × Ctr)) (hs : KeepAll P specs) (Γ : Cfg) (hΓ : Γ.con = conOf specs) (mono : ∀ us w w', s.pre us w → Below w.heap.size w w' → s.pre us w')
    (vc : ∀ us w, us.map U.srt = lfsSrts (shsLfs pin) ++ List.replicate s.gh .g → s.pre us w → ∃ invs, (vcOf P Γ f).den (smOf specs s invs us w.heap.size) (rhoOf us (lfsSrts (shsLfs pin) ++ List.replicate s.gh .g))) : Keeps P f s := by
  intro fn' pin' pout' h1 h2 h3 us w ht hp
  rw [hfn] at h1
  injection h1 with h1
  subst h1
  rw [hpin] at h2
  injection h2 with h2
  subst h2
  rw [hpout] at h3
  injection h3 with h3
  subst h3
  obtain ⟨invs, hvc⟩ := vc us w ht hp
  have c : Ctx P Γ (smOf specs s invs us w.heap.size) w := ⟨fun g gh hg => by
    rw [hΓ] at hg
    obtain ⟨h1, h2⟩ := hs.get g gh hg
    unfold CallOk
    rw [← h2]
    exact h1, rfl, fun u hu => mono us w u hp hu, hm⟩
  refine (calls_of_vc c hfn hpin hpout us _ hvc).mono ?_
  rintro e w' ⟨os, g1, g2, g3, g4, g5⟩
  exact ⟨os, g1, g2, g3, fun u hu hpu => g4 u hpu hu, g5⟩
end Go.Proofs.Ytjjkdmngmopjbaa.Vc
