/- Of the texts VcF, VcG, VcH. -/
import Derived.Test.YtjjkdmngmopjbaaG11
set_option linter.unusedSimpArgs false
set_option linter.unusedVariables false
namespace Go.Proofs.Ytjjkdmngmopjbaa.Vc
open Go Go.RowKit
structure Ctr where
  gh : Nat := 0
  pre : List U → World → Prop
  post : List U → List U → Prop
  fact : List U → List U → World → Prop
/-- a function keeps its contract -/
def Keeps (P : Program) (f : Nat) (s : Ctr) : Prop :=
  ∀ (fn : Func) (pin pout : List Sh), P.funcs[f]? = some fn → shsOf P fn.params = some pin → shsOf P fn.resultTypes = some pout → ∀ (us : List U) (w : World), us.map U.srt = lfsSrts (shsLfs pin) ++ List.replicate s.gh .g → s.pre us w →
    Calls P f (shsV us 0 pin).toArray w fun e w' => ∃ os : List U, os.map U.srt = lfsSrts (shsLfs pout) ∧ e = .returned (resV os pout) ∧ s.post us os ∧
      (∀ u : World, (∀ b, w.heap.size ≤ b → b < w'.heap.size → u.heap[b]? = w'.heap[b]?) → s.pre us u → s.fact us os u) ∧ Below w.heap.size w w'
def CallOk (P : Program) (σ : Sm) (f gh : Nat) : Prop := Keeps P f ⟨gh, σ.pre f, σ.post f, σ.fact f⟩
theorem at_app (pre us : List U) (k : Nat) : at_ (pre ++ us) (pre.length + k) = at_ us k := by
  unfold at_
  rw [List.getD_eq_getElem?_getD, List.getD_eq_getElem?_getD, List.getElem?_append_right (by omega)]
  congr 2
  omega
theorem val1_app (pre us : List U) (l : Lf) (k : Nat) : l.val1 (pre ++ us) (pre.length + k) = l.val1 us k := by
  cases l <;> simp only [Lf.val1, Nat.add_assoc, at_app]
theorem lfsV_app (pre us : List U) : ∀ (ls : List Lf) (k : Nat), lfsV (pre ++ us) (pre.length + k) ls = lfsV us k ls
  | [], _ => rfl
  | l :: ls, k => by
    unfold lfsV
    rw [val1_app, Nat.add_assoc, lfsV_app pre us ls]
theorem shval_app (pre us : List U) (s : Sh) (k : Nat) : s.val1 (pre ++ us) (pre.length + k) = s.val1 us k := by
  cases s <;> simp only [Sh.val1, val1_app, lfsV_app]
theorem shsV_app (pre us : List U) : ∀ (ss : List Sh) (k : Nat), shsV (pre ++ us) (pre.length + k) ss = shsV us k ss
  | [], _ => rfl
  | s :: ss, k => by
    unfold shsV
    rw [shval_app, Nat.add_assoc, shsV_app pre us ss]
theorem at_pre (us post : List U) (k : Nat) (h : k < us.length) : at_ (us ++ post) k = at_ us k := by
  unfold at_
  simp [List.getElem?_append, h]
theorem val1_pre (us post : List U) (l : Lf) (k : Nat) (h : k + l.ar ≤ us.length) : l.val1 (us ++ post) k = l.val1 us k := by
  cases l <;> simp only [Lf.val1] <;> simp only [Lf.ar] at h
  case slc => rw [at_pre _ _ _ (by omega), at_pre _ _ _ (by omega), at_pre _ _ _ (by omega)]
  all_goals rw [at_pre _ _ _ (by omega)]
theorem lfsV_pre (us post : List U) : ∀ (ls : List Lf) (k : Nat), k + lfsAr ls ≤ us.length → lfsV (us ++ post) k ls = lfsV us k ls
  | [], _, _ => rfl
  | l :: ls, k, h => by
    unfold lfsAr at h
    unfold lfsV
    rw [val1_pre _ _ _ _ (by omega), lfsV_pre us post ls _ (by omega)]
theorem shval_pre (us post : List U) (s : Sh) (k : Nat) (h : k + lfsAr s.lfs ≤ us.length) : s.val1 (us ++ post) k = s.val1 us k := by
  cases s with
  | one l =>
    simp only [Sh.lfs, lfsAr] at h
    exact val1_pre _ _ _ _ (by omega)
  | agg ls => simp only [Sh.val1, lfsV_pre us post ls k h]
theorem dens_append (ρ : Nat → U) (a b : List X) : dens ρ (a ++ b) = dens ρ a ++ dens ρ b := by simp [dens]
section
variable {S : St} {β : Beta} {ρ : Nat → U}
theorem lf_den {c : C1} {f : Lf} {xs : List X} (h : c.lf = some (f, xs)) : f.val1 (dens ρ xs) 0 = c.den β ρ ∧ xs.length = f.ar := by
  unfold C1.lf at h
  split at h <;> first | (injection h with h; injection h with h1 h2; subst h1; subst h2; exact ⟨rfl, rfl⟩) | cases h
theorem flat_den (hex : Exd S β ρ) : ∀ (l : List C1) (fs : List Lf) (xs : List X), flat S l = some (fs, xs) → lfsV (dens ρ xs) 0 fs = l.map (C1.den β ρ) ∧ xs.length = lfsAr fs
  | [], fs, xs, h => by
    injection h with h; injection h with h1 h2; subst h1; subst h2
    exact ⟨rfl, rfl⟩
  | c :: l, fs, xs, h => by
    unfold flat at h
    split at h
    · next f ys fs' zs hc hl =>
      injection h with h; injection h with h1 h2; subst h1; subst h2
      rw [Option.bind_eq_some_iff] at hc
      obtain ⟨c', hc', hlf⟩ := hc
      obtain ⟨h1, h2⟩ := lf_den (β := β) (ρ := ρ) hlf
      obtain ⟨i1, i2⟩ := flat_den hex l fs' zs hl
      refine ⟨?_, by simp [lfsAr, h2, i2]⟩
      rw [dens_append, List.map_cons, ← expd_den hex hc', ← h1, ← i1]
      rw [show lfsV (dens ρ ys ++ dens ρ zs) 0 (f :: fs') = f.val1 (dens ρ ys ++ dens ρ zs) 0 :: lfsV (dens ρ ys ++ dens ρ zs) (0 + f.ar) fs' from rfl]
      have hlen : (dens ρ ys).length = f.ar := by simp [dens, h2]
      rw [val1_pre _ _ _ _ (by omega), Nat.zero_add]
      congr 1
      have := lfsV_app (dens ρ ys) (dens ρ zs) fs' 0
      rw [hlen, Nat.add_zero] at this
      exact this
    · cases h
theorem sflat_den (hex : Exd S β ρ) {v : SV1} {s : Sh} {xs : List X} (h : v.flat S = some (s, xs)) : s.val1 (dens ρ xs) 0 = v.den β ρ ∧ xs.length = lfsAr s.lfs := by
  cases v with
  | one c =>
    unfold SV1.flat at h
    simp only at h
    split at h
    · next f ys hc =>
      injection h with h; injection h with h1 h2; subst h1; subst h2
      rw [Option.bind_eq_some_iff] at hc
      obtain ⟨c', hc', hlf⟩ := hc
      obtain ⟨h1, h2⟩ := lf_den (β := β) (ρ := ρ) hlf
      exact ⟨h1.trans (expd_den hex hc'), by simp [Sh.lfs, lfsAr, h2]⟩
    · cases h
  | agg l =>
    unfold SV1.flat at h
    simp only at h
    split at h
    · next fs ys hl =>
      injection h with h; injection h with h1 h2; subst h1; subst h2
      obtain ⟨i1, i2⟩ := flat_den hex l fs ys hl
      exact ⟨by simp only [Sh.val1, SV1.den, i1], i2⟩
    · cases h
theorem flats_den (hex : Exd S β ρ) : ∀ (l : List SV1) (ss : List Sh) (xs : List X), flats S l = some (ss, xs) → shsV (dens ρ xs) 0 ss = l.map (SV1.den β ρ) ∧ xs.length = lfsAr (shsLfs ss)
  | [], ss, xs, h => by
    injection h with h; injection h with h1 h2; subst h1; subst h2
    exact ⟨rfl, rfl⟩
  | v :: l, ss, xs, h => by
    unfold flats at h
    split at h
    · next f ys fs' zs hc hl =>
      injection h with h; injection h with h1 h2; subst h1; subst h2
      obtain ⟨h1, h2⟩ := sflat_den hex hc
      obtain ⟨i1, i2⟩ := flats_den hex l fs' zs hl
      have ar_app : ∀ a b : List Lf, lfsAr (a ++ b) = lfsAr a + lfsAr b := by
        intro a b
        induction a with
        | nil => simp [lfsAr]
        | cons x a ih => simp only [List.cons_append, lfsAr, ih, Nat.add_assoc]
      refine ⟨?_, by simp only [List.length_append, shsLfs, List.flatMap_cons, ar_app, h2]; rw [i2]; rfl⟩
      rw [dens_append, List.map_cons, ← h1, ← i1]
      rw [show shsV (dens ρ ys ++ dens ρ zs) 0 (f :: fs') = f.val1 (dens ρ ys ++ dens ρ zs) 0 :: shsV (dens ρ ys ++ dens ρ zs) (0 + lfsAr f.lfs) fs' from rfl]
      have hlen : (dens ρ ys).length = lfsAr f.lfs := by simp [dens, h2]
      rw [shval_pre _ _ _ _ (by omega), Nat.zero_add]
      congr 1
      have := shsV_app (dens ρ ys) (dens ρ zs) fs' 0
      rw [hlen, Nat.add_zero] at this
      exact this
    · cases h
/-- variables that hold what they should -/
theorem vars_at {n : Nat} : ∀ {k : Nat} {us : List U}, dens ρ (vars n k) = us → ∀ j, j < k → ρ (n + j) = at_ us j := by
  intro k us h j hj
  subst h
  have : ∀ (k n j : Nat), j < k → at_ (dens ρ (vars n k)) j = ρ (n + j) := by
    intro k
    induction k with
    | zero => intro _ _ h; omega
    | succ k ih =>
      intro n j hj
      cases j with
      | zero => rfl
      | succ j =>
        show at_ (dens ρ (vars (n + 1) k)) j = _
        rw [ih (n + 1) j (by omega)]
        congr 1
        omega
  exact (this k n j hj).symm
theorem fresh_den {n : Nat} {us : List U} {N k : Nat} (hv : ∀ j, j < N → ρ (n + j) = at_ us j) (l : Lf) (hk : k + l.ar ≤ N) : (l.fresh (n + k)).den β ρ = l.val1 us k := by
  cases l <;> simp only [Lf.fresh, C1.den, Lf.val1, X.den, Nat.add_assoc] <;> simp only [Lf.ar] at hk
  case slc => rw [hv _ (by omega), hv _ (by omega), hv _ (by omega)]
  all_goals rw [hv _ (by omega)]
theorem freshs_den {n : Nat} {us : List U} {N : Nat} (hv : ∀ j, j < N → ρ (n + j) = at_ us j) : ∀ (ls : List Lf) (k : Nat), k + lfsAr ls ≤ N → (freshs (n + k) ls).map (C1.den β ρ) = lfsV us k ls
  | [], _, _ => rfl
  | l :: ls, k, h => by
    unfold lfsAr at h
    unfold freshs lfsV
    rw [List.map_cons, fresh_den hv l (by omega), Nat.add_assoc, freshs_den hv ls _ (by omega)]
theorem sfresh_den {n : Nat} {us : List U} {N k : Nat} (hv : ∀ j, j < N → ρ (n + j) = at_ us j) (s : Sh) (hk : k + lfsAr s.lfs ≤ N) : (s.fresh (n + k)).den β ρ = s.val1 us k := by
  cases s with
  | one l =>
    simp only [Sh.lfs, lfsAr] at hk
    exact fresh_den hv l (by omega)
  | agg ls => simp only [Sh.fresh, SV1.den, Sh.val1, freshs_den hv ls k hk]
theorem lfsAr_app (a b : List Lf) : lfsAr (a ++ b) = lfsAr a + lfsAr b := by
  induction a with
  | nil => simp [lfsAr]
  | cons x a ih => simp only [List.cons_append, lfsAr, ih, Nat.add_assoc]
theorem shsfresh_den {n : Nat} {us : List U} {N : Nat} (hv : ∀ j, j < N → ρ (n + j) = at_ us j) : ∀ (ss : List Sh) (k : Nat), k + lfsAr (shsLfs ss) ≤ N → (shsFresh (n + k) ss).map (SV1.den β ρ) = shsV us k ss
  | [], _, _ => rfl
  | s :: ss, k, h => by
    simp only [shsLfs, List.flatMap_cons, lfsAr_app] at h
    unfold shsFresh shsV
    rw [List.map_cons, sfresh_den hv s (by omega), Nat.add_assoc, shsfresh_den hv ss _ (by unfold shsLfs; omega)]
end
theorem lf_typed {c : C1} {f : Lf} {xs : List X} (ρ : Nat → U) (h : c.lf = some (f, xs)) : (dens ρ xs).map U.srt = f.srts := by
  unfold C1.lf at h
  split at h <;> first | (injection h with h; injection h with h1 h2; subst h1; subst h2; rfl) | cases h
theorem flat_typed {S : St} (ρ : Nat → U) : ∀ (l : List C1) (fs : List Lf) (xs : List X), flat S l = some (fs, xs) → (dens ρ xs).map U.srt = lfsSrts fs
  | [], fs, xs, h => by
    injection h with h; injection h with h1 h2; subst h1; subst h2
    rfl
  | c :: l, fs, xs, h => by
    unfold flat at h
    split at h
    · next f ys fs' zs hc hl =>
      injection h with h; injection h with h1 h2; subst h1; subst h2
      rw [Option.bind_eq_some_iff] at hc
      obtain ⟨c', hc', hlf⟩ := hc
      rw [dens_append, List.map_append, lf_typed ρ hlf, flat_typed ρ l fs' zs hl]
      rfl
    · cases h
theorem sflat_typed {S : St} (ρ : Nat → U) {v : SV1} {s : Sh} {xs : List X} (h : v.flat S = some (s, xs)) : (dens ρ xs).map U.srt = lfsSrts s.lfs := by
  cases v with
  | one c =>
    unfold SV1.flat at h
    simp only at h
    split at h
    · next f ys hc =>
      injection h with h; injection h with h1 h2; subst h1; subst h2
      rw [Option.bind_eq_some_iff] at hc
      obtain ⟨c', hc', hlf⟩ := hc
      rw [lf_typed ρ hlf]
      simp [Sh.lfs, lfsSrts]
    · cases h
  | agg l =>
    unfold SV1.flat at h
    simp only at h
    split at h
    · next fs ys hl =>
      injection h with h; injection h with h1 h2; subst h1; subst h2
      exact flat_typed ρ l fs ys hl
    · cases h
theorem flats_typed {S : St} (ρ : Nat → U) : ∀ (l : List SV1) (ss : List Sh) (xs : List X), flats S l = some (ss, xs) → (dens ρ xs).map U.srt = lfsSrts (shsLfs ss)
  | [], ss, xs, h => by
    injection h with h; injection h with h1 h2; subst h1; subst h2
    rfl
  | v :: l, ss, xs, h => by
    unfold flats at h
    split at h
    · next f ys fs' zs hc hl =>
      injection h with h; injection h with h1 h2; subst h1; subst h2
      rw [dens_append, List.map_append, sflat_typed ρ hc, flats_typed ρ l fs' zs hl]
      unfold shsLfs lfsSrts
      simp
    · cases h
theorem upd_self (ρ : Nat → U) (n : Nat) (u : U) : upd ρ n u n = u := by
  unfold upd
  rw [show Nat.beq n n = true from Nat.beq_refl _]
  rfl
theorem alls_den {σ : Sm} : ∀ (l : List Srt) (S : St) (ρ : Nat → U) (k : St → VC) (us : List U), us.map U.srt = l → (alls l S k).den σ ρ → ∃ ρ', Alike S.nv ρ ρ' ∧ dens ρ' (vars S.nv l.length) = us ∧ (k { S with nv := S.nv + l.length }).den σ ρ'
  | [], S, ρ, k, us, hu, h => by
    have : us = [] := by simpa using hu
    subst this
    exact ⟨ρ, Alike.refl _ _, rfl, h⟩
  | so :: l, S, ρ, k, us, hu, h => by
    cases us with
    | nil => cases hu
    | cons u us =>
      rw [List.map_cons] at hu
      injection hu with h1 h2
      subst h1
      unfold alls at h
      have h := VC.all_inst h u rfl
      obtain ⟨ρ', g1, g2, g3⟩ := alls_den l { S with nv := S.nv + 1 } (upd ρ S.nv u) k us h2 h
      refine ⟨ρ', (Alike.upd S.nv ρ u).trans g1 (Nat.le_succ _), ?_, ?_⟩
      · show ρ' S.nv :: dens ρ' (vars (S.nv + 1) l.length) = _
        have g2 : dens ρ' (vars (S.nv + 1) l.length) = us := g2
        rw [g2]
        have := g1 S.nv (Nat.lt_succ_self _)
        rw [this, upd_self]
      · simp only [List.length_cons] at g3 ⊢
        rw [show S.nv + (l.length + 1) = S.nv + 1 + l.length by omega]
        exact g3
section
variable {σ : Sm} {S : St} {β : Beta} {ρ : Nat → U} {w0 : World} {a : Act} {w : World}
theorem expose_den : ∀ (ms : List Nat) (S : St) (ρ : Nat → U) (k : St → VC), Den σ S β ρ w0 a w → (expose ms S k).den σ ρ → ∃ (S' : St) (ρ' : Nat → U), (k S').den σ ρ' ∧ Den σ S' β ρ' w0 a w ∧ Alike S.nv ρ ρ' ∧ S.nv ≤ S'.nv ∧ S'.fr = S.fr ∧ S'.blk = S.blk ∧ S'.row = S.row ∧ S'.facts = S.facts ∧ S'.nt = S.nt
  | [], S, ρ, k, d, h => ⟨S, ρ, h, d, Alike.refl _ _, Nat.le_refl _, rfl, rfl, rfl, rfl, rfl⟩
  | m :: ms, S, ρ, k, d, h => by
    unfold expose at h
    split at h
    · exact expose_den ms S ρ k d h
    · split at h
      · next hok =>
        have h := h (β.row m).1 (β.row m).2
        have a1 : Alike S.nv ρ (upd ρ S.nv (.p (β.row m).1)) := Alike.upd _ _ _
        have a2 : Alike (S.nv + 1) (upd ρ S.nv (.p (β.row m).1)) (upd (upd ρ S.nv (.p (β.row m).1)) (S.nv + 1) (.n (β.row m).2)) := Alike.upd _ _ _
        have a3 := a1.trans a2 (Nat.le_succ _)
        have d' := d.alike a3 hok
        have d'' : Den σ { S with nv := S.nv + 2, exp := (m, .var S.nv, .var (S.nv + 1)) :: S.exp } β (upd (upd ρ S.nv (.p (β.row m).1)) (S.nv + 1) (.n (β.row m).2)) w0 a w := by
          refine ⟨d'.df, d'.nt, d'.fr, d'.bk, d'.rw, d'.nd, d'.rn, ?_, d'.fx, d'.kn, d'.bl⟩
          intro e he
          rcases List.mem_cons.1 he with rfl | he
          · show β.row m = ((upd (upd ρ S.nv (.p (β.row m).1)) (S.nv + 1) (.n (β.row m).2) S.nv).P, (upd (upd ρ S.nv (.p (β.row m).1)) (S.nv + 1) (.n (β.row m).2) (S.nv + 1)).N)
            rw [upd_self, a2 S.nv (Nat.lt_succ_self _), upd_self]
            rfl
          · exact d'.ex e he
        obtain ⟨S', ρ', g1, g2, g3, g4, g5⟩ := expose_den ms _ _ k d'' h
        exact ⟨S', ρ', g1, g2, a3.trans g3 (by show S.nv ≤ S.nv + 2; omega), Nat.le_trans (by show S.nv ≤ S.nv + 2; omega) g4, g5⟩
      · exact h.elim
    · exact h.elim
theorem rowFX_den (d : Den σ S β ρ w0 a w) {m : Nat} {F : FX} (h : rowFX S m = some F) : F.den σ ρ w := by
  unfold rowFX at h
  split at h
  · next r e hr he =>
    injection h with h
    subst h
    have h1 := d.rw r (rowOf_mem hr)
    have h2 := d.ex _ (lookup_mem he)
    rw [rowOf_m hr] at h1
    simp only at h2
    rw [h2] at h1
    exact h1
  · cases h
theorem unrowC_den {m : Nat} {x c : X} (h : β.row m = ((x.den ρ).P, (c.den ρ).N)) (v : C1) : (v.unrow m x c).den β ρ = v.den β ρ := by
  unfold C1.unrow
  split
  · next k n =>
    split
    · next e => subst e; simp only [C1.den, h]
    · rfl
  · next k o =>
    split
    · next e => subst e; simp only [C1.den, h, mkPadd_den]
    · rfl
  · rfl
theorem mapC_den {f : C1 → C1} (h : ∀ c, (f c).den β ρ = c.den β ρ) (l : List C1) : (l.map f).map (C1.den β ρ) = l.map (C1.den β ρ) := by
  rw [List.map_map]
  exact List.map_congr_left fun c _ => h c
theorem mapS1_den {f : C1 → C1} (h : ∀ c, (f c).den β ρ = c.den β ρ) (v : SV1) : (v.map f).den β ρ = v.den β ρ := by
  cases v with
  | one c => exact h c
  | agg l => simp only [SV1.map, SV1.den, mapC_den h]
theorem mapS_den {f : C1 → C1} (h : ∀ c, (f c).den β ρ = c.den β ρ) (v : SV) : (v.map f).den β ρ = v.den β ρ := by
  cases v with
  | s x => exact mapS1_den h x
  | tup l =>
    simp only [SV.map, SV.den, List.map_map]
    congr 2
    exact List.map_congr_left fun c _ => mapS1_den h c
theorem lookup_map {α γ : Type} (g : α → γ) : ∀ (l : List (Nat × α)) (t : Nat), (l.map fun p => (p.1, g p.2)).lookup t = (l.lookup t).map g
  | [], _ => rfl
  | p :: l, t => by
    rw [List.map_cons, List.lookup_cons, List.lookup_cons]
    split
    · rfl
    · exact lookup_map g l t
theorem retire_den {m : Nat} {S' : St} (d : Den σ S β ρ w0 a w) (h : retire m S = some S') : Den σ S' β ρ w0 a w ∧ S'.nv = S.nv ∧ S'.nt = S.nt := by
  unfold retire at h
  split at h
  · next F e hF he =>
    injection h with h
    subst h
    refine ⟨?_, rfl, rfl⟩
    have hx := d.ex _ (lookup_mem he)
    have hu := fun v => unrowC_den (x := e.1) (c := e.2) hx v
    have hsub : (foot β { S with fr := S.fr.map (fun p => (p.1, p.2.map (C1.unrow m e.1 e.2))), blk := S.blk.map (fun q => (q.1, q.2.1, q.2.2.map (C1.unrow m e.1 e.2))), row := S.row.filter (fun r => r.m != m), exp := S.exp.filter (fun x => x.1 != m), facts := S.facts ++ [F] }).Sublist (foot β S) := by
      unfold foot
      simp only [List.map_map]
      exact List.Sublist.append (by
        have : (S.blk.map ((fun q : Nat × Nat × List C1 => β.blk q.1) ∘ fun q => (q.1, q.2.1, q.2.2.map (C1.unrow m e.1 e.2)))) = S.blk.map fun q => β.blk q.1 := List.map_congr_left fun q _ => rfl
        rw [this]
        exact List.Sublist.refl _) (List.filter_sublist.filterMap _)
    refine ⟨d.df, d.nt, ?_, ?_, ?_, d.nd.sublist hsub, d.rn.sublist (List.filter_sublist.map _), ?_, ?_, d.kn, d.bl⟩
    · intro t v hv
      have hv : (S.fr.map fun p => (p.1, (fun v : SV => v.map (C1.unrow m e.1 e.2)) p.2)).lookup t = some v := hv
      rw [lookup_map] at hv
      rw [Option.map_eq_some_iff] at hv
      obtain ⟨v0, hv0, rfl⟩ := hv
      rw [mapS_den hu]
      exact d.fr t v0 hv0
    · intro q hq
      obtain ⟨q0, hq0, rfl⟩ := List.mem_map.1 hq
      simp only
      rw [mapC_den hu]
      exact d.bk q0 hq0
    · intro r hr
      exact d.rw r (List.mem_filter.1 hr).1
    · intro x hx
      exact d.ex x (List.mem_filter.1 hx).1
    · intro G hG u hp hs
      rcases List.mem_append.1 hG with hG | hG
      · exact d.fx G hG u hp fun b hb hl hn => hs b hb hl fun hm => hn (hsub.subset hm)
      · have := List.mem_singleton.1 hG
        subst this
        have hrow := rowFX_den d hF
        unfold rowFX at hF
        split at hF
        · next r e' hr he' =>
          injection hF with hF
          subst hF
          refine ownsRow_same hrow fun g hg => ?_
          obtain ⟨p, hp, rfl⟩ := ownBlock_slice hg
          rw [he] at he'
          injection he' with he'
          subst he'
          have hA : (β.row m).1 = some p := by rw [hx]; exact hp
          have hin : p.block ∈ foot β S := List.mem_append_right _ (List.mem_filterMap.2 ⟨r, rowOf_mem hr, by rw [rowOf_m hr, hA]; rfl⟩)
          have hl := d.foot_lt _ hin
          refine hs _ hl.2 hl.1 fun hm => ?_
          unfold foot at hm
          rcases List.mem_append.1 hm with hm | hm
          · obtain ⟨q, hq, e'⟩ := List.mem_map.1 hm
            obtain ⟨q0, hq0, rfl⟩ := List.mem_map.1 hq
            exact d.row_ne hq0 (rowOf_mem hr) (by rw [rowOf_m hr]; exact hA) e'.symm
          · obtain ⟨r', hr', e'⟩ := List.mem_filterMap.1 hm
            obtain ⟨hr1, hr2⟩ := List.mem_filter.1 hr'
            rw [Option.map_eq_some_iff] at e'
            obtain ⟨p', hp', e'⟩ := e'
            exact d.rows_ne hr1 (rowOf_mem hr) (by rw [rowOf_m hr]; simpa using hr2) hp' (by rw [rowOf_m hr]; exact hA) e'
        · cases hF
  · cases h
theorem retires_den : ∀ {ms : List Nat} {S S' : St}, Den σ S β ρ w0 a w → retires ms S = some S' → Den σ S' β ρ w0 a w ∧ S'.nv = S.nv ∧ S'.nt = S.nt
  | [], S, S', d, h => by injection h with h; subst h; exact ⟨d, rfl, rfl⟩
  | m :: ms, S, S', d, h => by
    unfold retires at h
    rw [Option.bind_eq_some_iff] at h
    obtain ⟨S1, h1, h2⟩ := h
    obtain ⟨d1, e1, e2⟩ := retire_den d h1
    obtain ⟨d2, e3, e4⟩ := retires_den d1 h2
    exact ⟨d2, e3.trans e1, e4.trans e2⟩
/-- behind a call that turns nothing that was there -/
theorem Den.below (d : Den σ S β ρ w0 a w) {w' : World} (hb : Below w.heap.size w w') (hbase : σ.base ≤ w.heap.size) : Den σ S β ρ w0 a w' := by
  have hlt := d.foot_lt
  refine ⟨d.df, d.nt, d.fr, ?_, ?_, d.nd, d.rn, d.ex, ?_, d.kn, d.bl.trans (hb.mono hbase)⟩
  · intro q hq
    have := d.bk q hq
    rw [hb.block _ (lt_of_some this.1)]
    exact this
  · intro r hr
    refine ownsRow_same (d.rw r hr) fun g hg => ?_
    obtain ⟨p, hp, rfl⟩ := ownBlock_slice hg
    exact hb.block _ (hlt _ (List.mem_append_right _ (List.mem_filterMap.2 ⟨r, hr, by rw [hp]; rfl⟩))).1
  · exact fx_step d.fx hb.size (fun b _ hl _ => hb.block b hl) (fun _ _ h => h)
end
end Go.Proofs.Ytjjkdmngmopjbaa.Vc

namespace Go.Proofs.Ytjjkdmngmopjbaa.Vc
open Go Go.RowKit
section
variable {P : Program} {Γ : Cfg} {σ : Sm} {S : St} {k : St → VC} {β : Beta} {ρ : Nat → U} {a : Act} {w w0 : World} {K : Act → World → Prop} {Q : Exit → Act → World → Prop}
theorem mapM_eval (hfr : ∀ t v, S.fr.lookup t = some v → a.tmps[t]? = some (v.den β ρ)) : ∀ (l : List Operand) (vs : List SV1), l.mapM (fun x => (S.opd x).bind fun v => match v with | .s v => some v | _ => none) = some vs → l.map a.eval = vs.map (SV1.den β ρ)
  | [], vs, h => by simp at h; subst h; rfl
  | x :: l, vs, h => by
    rw [List.mapM_cons] at h
    simp only [Option.bind_eq_bind, Option.bind_eq_some_iff, Option.pure_def, Option.some.injEq] at h
    obtain ⟨v, ⟨u, hu, hv⟩, vs', hl, rfl⟩ := h
    cases u with
    | tup _ => cases hv
    | s u =>
      injection hv with hv
      subst hv
      rw [List.map_cons, List.map_cons, opd_den hfr hu, mapM_eval hfr l vs' hl]
      rfl
theorem rowFXs_den (d : Den σ S β ρ w0 a w) : ∀ (ms : List Nat) (fx : List FX), ms.mapM (rowFX S) = some fx → ∀ F ∈ fx, F.den σ ρ w
  | [], fx, h => by simp at h; subst h; simp
  | m :: ms, fx, h => by
    rw [List.mapM_cons] at h
    simp only [Option.bind_eq_bind, Option.bind_eq_some_iff, Option.pure_def, Option.some.injEq] at h
    obtain ⟨F, hF, fx', hl, rfl⟩ := h
    intro G hG
    rcases List.mem_cons.1 hG with rfl | hG
    · exact rowFX_den d hF
    · exact rowFXs_den d ms fx' hl G hG
/-- the number of variables of leaves -/
theorem srts_ar : ∀ ls : List Lf, (lfsSrts ls).length = lfsAr ls
  | [] => rfl
  | l :: ls => by
    unfold lfsSrts lfsAr
    rw [List.flatMap_cons, List.length_append]
    have := srts_ar ls
    unfold lfsSrts at this
    rw [this]
    congr 1
    cases l <;> rfl
theorem Den.addFact {F : FX} (d : Den σ S β ρ w0 a w) (h : ∀ u, σ.pre0 u → Same σ.base (foot β S) w u → F.den σ ρ u) : Den σ { S with facts := S.facts ++ [F] } β ρ w0 a w :=
  ⟨d.df, d.nt, d.fr, d.bk, d.rw, d.nd, d.rn, d.ex, fun G hG => by
    rcases List.mem_append.1 hG with hG | hG
    · exact d.fx G hG
    · have := List.mem_singleton.1 hG
      subst this
      exact h, d.kn, d.bl⟩
theorem dens_len' (ρ : Nat → U) (l : List X) : (dens ρ l).length = l.length := List.length_map ..
theorem upto_mono {n m : Nat} : ∀ {x : X}, x.upto n = true → n ≤ m → x.upto m = true := by
  intro x
  induction x with
  | var k => intro h hm; simp only [X.upto, Nat.blt_eq] at h ⊢; omega
  | un o x ih => intro h hm; exact ih h hm
  | bin o x y ih1 ih2 => intro h hm; simp only [X.upto, Bool.and_eq_true] at h ⊢; exact ⟨ih1 h.1 hm, ih2 h.2 hm⟩
  | tri o x y z ih1 ih2 ih3 => intro h hm; simp only [X.upto, Bool.and_eq_true] at h ⊢; exact ⟨⟨ih1 h.1.1 hm, ih2 h.1.2 hm⟩, ih3 h.2 hm⟩
  | _ => intro _ _; rfl
theorem vars_upto : ∀ (k n : Nat), (vars n k).all (·.upto (n + k)) = true
  | 0, _ => rfl
  | k + 1, n => by
    show (X.upto (n + (k + 1)) (.var n) && (vars (n + 1) k).all (·.upto (n + (k + 1)))) = true
    rw [Bool.and_eq_true]
    refine ⟨by simp only [X.upto, Nat.blt_eq]; omega, ?_⟩
    have := vars_upto k (n + 1)
    rw [show n + 1 + k = n + (k + 1) by omega] at this
    exact this
theorem shsV_pre (us post : List U) : ∀ (ss : List Sh) (k : Nat), k + lfsAr (shsLfs ss) ≤ us.length → shsV (us ++ post) k ss = shsV us k ss
  | [], _, _ => rfl
  | s :: ss, k, h => by
    simp only [shsLfs, List.flatMap_cons, lfsAr_app] at h
    unfold shsV
    rw [shval_pre _ _ _ _ (by omega), shsV_pre us post ss _ (by unfold shsLfs; omega)]
theorem exs_typed {σ : Sm} : ∀ (l : List Srt) (S : St) (ρ : Nat → U) (k : St → VC), (exs l S k).den σ ρ → ∃ ρ', Alike S.nv ρ ρ' ∧ (dens ρ' (vars S.nv l.length)).map U.srt = l ∧ (k { S with nv := S.nv + l.length }).den σ ρ'
  | [], S, ρ, k, h => ⟨ρ, Alike.refl _ _, rfl, h⟩
  | so :: l, S, ρ, k, h => by
    unfold exs at h
    obtain ⟨x, hx, h⟩ := VC.ex_inst h
    obtain ⟨ρ', h1, h2, h3⟩ := exs_typed l { S with nv := S.nv + 1 } (upd ρ S.nv x) k h
    refine ⟨ρ', (Alike.upd S.nv ρ x).trans h1 (Nat.le_succ _), ?_, ?_⟩
    · show U.srt (ρ' S.nv) :: (dens ρ' (vars (S.nv + 1) l.length)).map U.srt = _
      have h2 : (dens ρ' (vars (S.nv + 1) l.length)).map U.srt = l := h2
      rw [h2, h1 S.nv (Nat.lt_succ_self _), upd_self, hx]
    · simp only [List.length_cons] at h3 ⊢
      rw [show S.nv + (l.length + 1) = S.nv + 1 + l.length by omega]
      exact h3
theorem given_alike {n : Nat} {ρ ρ' : Nat → U} (h : Alike n ρ ρ') {fs : List FX} (hf : fs.all (·.upto n) = true) {u : World} (hF : ∀ F ∈ fs, F.den σ ρ u) : ∀ F ∈ fs, F.den σ ρ' u := fun F hFm =>
  (FX.den_alike h σ u F (List.all_eq_true.1 hf F hFm)).2 (hF F hFm)
theorem callS_den {f dn : Nat} {o : Oper} {args : List SV1} {av : Array Value} (hcon : ∀ f gh, Γ.con.lookup f = some gh → CallOk P σ f gh) (hb : σ.base ≤ w.heap.size) (hpre : σ.pre0 w) (d : Den σ S β ρ w0 a w)
    (hrun : ∀ fn, P.funcs[f]? = some fn → fn.body.isNone = false → (fn.name == "runtime.NumGoroutine") = false → (execOp a.eval o).run P w = .ok (.enter f av) w) (hav : ∀ ρ' : Nat → U, (∀ t v, S.fr.lookup t = some v → a.tmps[t]? = some (v.den β ρ')) → av.toList = args.map (SV1.den β ρ'))
    (h : (callS P Γ f dn o.dst args S k).den σ ρ) {tc : List Nat} (hK : ∀ a' w', AOut σ S k β ρ w0 tc a' w' → K a' w') : o.wp P a w K Q := by
  unfold callS at h
  split at h
  · exact h.elim
  · next fn hfn =>
    split at h
    · next pin pout hpin hpout =>
      split at h
      · exact h.elim
      · next gh hgh =>
        split at h
        · exact h.elim
        · next hc =>
          simp only [Bool.or_eq_true, not_or, Bool.not_eq_true] at hc
          obtain ⟨hc2, hc3⟩ := hc
          dsimp only at h
          obtain ⟨S1, ρ1, hx, d1, a1, n1, e1, e2, e3, e4, e5⟩ := expose_den _ S ρ _ d h
          clear h
          split at hx
          · next shs us S2 fx hfl hS2 hfx =>
            generalize hfsd : (if Γ.retire.contains dn = true then S2.facts else S2.facts ++ fx) = fs at hx
            split at hx
            · next hok =>
              obtain ⟨rfl, hok2, hus, hfs⟩ := hok
              have d2n : Den σ S2 β ρ1 w0 a w ∧ S2.nv = S1.nv ∧ S2.nt = S1.nt := by
                split at hS2
                · exact retires_den d1 hS2
                · injection hS2 with hS2; subst hS2; exact ⟨d1, rfl, rfl⟩
              obtain ⟨d2, hnv, hnt⟩ := d2n
              obtain ⟨ρg, ag, tg, hx⟩ := exs_typed _ S2 ρ1 _ hx
              rw [List.length_replicate] at tg hx
              obtain ⟨hp, h⟩ := hx
              have hfx' := rowFXs_den d1 _ _ hfx
              have facts2 : ∀ F ∈ S2.facts, F.den σ ρ1 w := fun F hF => d2.fx F hF w hpre fun _ _ _ _ => rfl
              have factsw : ∀ F ∈ fs, F.den σ ρ1 w := by
                intro F hF
                rw [← hfsd] at hF
                split at hF
                · exact facts2 F hF
                · rcases List.mem_append.1 hF with hF | hF
                  · exact facts2 F hF
                  · exact hfx' F hF
              have husg : dens ρg us = dens ρ1 us := dens_alike ag us hus
              have hpre_f : σ.pre f (dens ρg (us ++ vars S2.nv gh)) w := given_out (hp w) (given_alike ag hfs factsw)
              obtain ⟨f1, f2⟩ := flats_den (β := β) (ρ := ρ1) d1.ex args _ us hfl
              have hvs := hav ρ1 (by rw [← e1]; exact d1.fr)
              unfold Oper.wp
              rw [hrun fn hfn hc2 (by simpa using hc3)]
              show Calls P f av w _
              have hty : (dens ρg (us ++ vars S2.nv gh)).map U.srt = lfsSrts (shsLfs shs) ++ List.replicate gh .g := by
                rw [dens_append, List.map_append, husg, flats_typed ρ1 args _ us hfl, tg]
              have hcall := hcon f gh hgh fn _ pout hfn hpin hpout (dens ρg (us ++ vars S2.nv gh)) w hty hpre_f
              have hava : (shsV (dens ρg (us ++ vars S2.nv gh)) 0 shs).toArray = av := by
                apply Array.toList_inj.1
                rw [hvs, ← f1, dens_append, husg]
                have := shsV_pre (dens ρ1 us) (dens ρg (vars S2.nv gh)) shs 0 (by rw [dens_len', f2]; omega)
                exact this
              rw [hava] at hcall
              refine hcall.mono ?_
              rintro e w1 ⟨os, ho, rfl, hpost, hfact, hbel⟩
              have d3 := d2.below hbel hb
              obtain ⟨ρ2, a2, hvars, h⟩ := alls_den _ { S2 with nv := S2.nv + gh } ρg _ os ho h
              have a12 : Alike S2.nv ρ1 ρ2 := ag.trans a2 (Nat.le_add_right _ _)
              have d4 := (d3.alike a12 hok2).nv (S2.nv + gh + (lfsSrts (shsLfs pout)).length)
              rw [srts_ar] at hvars
              have husd : dens ρ2 (us ++ vars S2.nv gh) = dens ρg (us ++ vars S2.nv gh) := by
                refine dens_alike a2 _ ?_
                rw [List.all_append, Bool.and_eq_true]
                refine ⟨List.all_eq_true.2 fun x hx => upto_mono (List.all_eq_true.1 hus x hx) (Nat.le_add_right _ _), vars_upto _ _⟩
              have hval : (shsFresh (S2.nv + gh) pout).map (SV1.den β ρ2) = shsV os 0 pout := shsfresh_den (vars_at hvars) pout 0 (by omega)
              have hpost' : σ.post f (dens ρ2 (us ++ vars S2.nv gh)) (dens ρ2 (vars (S2.nv + gh) (lfsAr (shsLfs pout)))) := by rw [husd, hvars]; exact hpost
              have hal : Alike S.nv ρ ρ2 := a1.trans a12 (by omega)
              have fin : ∀ S4 : St, S.nv ≤ S4.nv → (VC.post f (us ++ vars S2.nv gh) (vars (S2.nv + gh) (lfsAr (shsLfs pout))) (match shsFresh (S2.nv + gh) pout with | [v] => k (S4.put o.dst (.s v)) | vs => k (S4.put o.dst (.tup vs)))).den σ ρ2 → Den σ S4 β ρ2 w0 a w1 → K (a.put o.dst (resV os pout)) w1 := by
                intro S4 hnv4 h d5
                have h := h hpost'
                have one : ∀ v, shsFresh (S2.nv + gh) pout = [v] → K (a.put o.dst (resV os pout)) w1 := by
                  intro v hv
                  rw [hv] at h
                  have hlen : ∃ s, pout = [s] := by
                    cases pout with
                    | nil => cases hv
                    | cons s ss =>
                      cases ss with
                      | nil => exact ⟨s, rfl⟩
                      | cons s' ss => cases hv
                  obtain ⟨s, hs⟩ := hlen
                  have : resV os pout = (SV.s v).den β ρ2 := by
                    rw [hv] at hval
                    rw [hs] at hval ⊢
                    have := List.head_eq_of_cons_eq hval
                    exact this.symm
                  rw [this]
                  exact hK _ _ ⟨_, β, ρ2, h, d5.put o.dst (.s v), hal, Near.refl _ _ _, by rw [put_nv]; exact hnv4⟩
                have many : (∀ v, shsFresh (S2.nv + gh) pout ≠ [v]) → K (a.put o.dst (resV os pout)) w1 := by
                  intro hne
                  have h' : (k (S4.put o.dst (.tup (shsFresh (S2.nv + gh) pout)))).den σ ρ2 := by
                    split at h
                    · next v hv => exact absurd hv (hne v)
                    · exact h
                  have : resV os pout = (SV.tup (shsFresh (S2.nv + gh) pout)).den β ρ2 := by
                    show _ = Value.tuple ((shsFresh (S2.nv + gh) pout).map (SV1.den β ρ2)).toArray
                    rw [hval]
                    unfold resV
                    split
                    · next s => exact absurd rfl (hne _)
                    · rfl
                  rw [this]
                  exact hK _ _ ⟨_, β, ρ2, h', d5.put o.dst _, hal, Near.refl _ _ _, by rw [put_nv]; exact hnv4⟩
                by_cases hx : ∃ v, shsFresh (S2.nv + gh) pout = [v]
                · obtain ⟨v, hv⟩ := hx
                  exact one v hv
                · exact many fun v hv => hx ⟨v, hv⟩
              refine fin _ ?_ h ?_
              · split
                · show S.nv ≤ S2.nv + gh + _
                  omega
                · show S.nv ≤ S2.nv + gh + _
                  omega
              split
              · next hret =>
                refine d4.addFact fun u hu hs => ?_
                show σ.fact f (dens ρ2 (us ++ vars S2.nv gh)) (dens ρ2 (vars (S2.nv + gh) (lfsAr (shsLfs pout)))) u
                rw [husd, hvars]
                refine hfact u (fun b h1 h2 => hs b (by omega) h2 fun hm => ?_) ?_
                · have := (d2.foot_lt b hm).1
                  omega
                · have hsame : Same σ.base (foot β S2) w u := fun b h1 h2 h3 => (hs b h1 (by have := hbel.size; omega) h3).trans (hbel.block b h2)
                  refine given_out (hp u) (given_alike ag hfs fun F hF => ?_)
                  have f2 : ∀ F ∈ S2.facts, F.den σ ρ1 u := fun F hF => d2.fx F hF u hu hsame
                  rw [← hfsd] at hF
                  split at hF
                  · exact f2 F hF
                  · next hr =>
                    rcases List.mem_append.1 hF with hF | hF
                    · exact f2 F hF
                    · have hemp : dedup (args.flatMap SV1.rowNames) = [] := by
                        simp only [Bool.or_eq_true] at hret
                        rcases hret with hret | hret
                        · exact absurd hret hr
                        · simpa using hret
                      rw [hemp] at hfx
                      simp at hfx
                      subst hfx
                      cases hF
              · exact d4
            · exact hx.elim
          · exact hx.elim
    · exact h.elim
end
end Go.Proofs.Ytjjkdmngmopjbaa.Vc

namespace Go.Proofs.Ytjjkdmngmopjbaa.Vc
open Go Go.RowKit
/-- what a walk leans on -/
structure Ctx (P : Program) (Γ : Cfg) (σ : Sm) (w0 : World) : Prop where
  con : ∀ f gh, Γ.con.lookup f = some gh → CallOk P σ f gh
  base : σ.base = w0.heap.size
  pre : ∀ u, Below σ.base w0 u → σ.pre0 u
  mixed : P.follows .mixedOrders = true
section
variable {P : Program} {Γ : Cfg} {σ : Sm} {S : St} {k : St → VC} {β : Beta} {ρ : Nat → U} {a : Act} {w w0 : World} {K : Act → World → Prop} {Q : Exit → Act → World → Prop} {ops : Array Oper} {o : Oper}
theorem Den.base_le (c : Ctx P Γ σ w0) (d : Den σ S β ρ w0 a w) : σ.base ≤ w.heap.size := by rw [c.base]; exact d.bl.size
theorem Den.pre (c : Ctx P Γ σ w0) (d : Den σ S β ρ w0 a w) : σ.pre0 w := c.pre w d.bl
theorem lookup_blk {m t : Nat} {cs : List C1} (h : S.block m = some (t, cs)) : (m, t, cs) ∈ S.blk := lookup_mem h
theorem Den.memOk (c : Ctx P Γ σ w0) (d : Den σ S β ρ w0 a w) : MemOk σ S.facts (fun _ => true) S β ρ w :=
  ⟨fun F hF => d.fx F hF w (d.pre c) fun _ _ _ _ => rfl, fun _ _ _ h _ => (d.bk _ (lookup_blk h)).1, fun _ r h _ => d.rw r (rowOf_mem h)⟩
theorem act_den (c : Ctx P Γ σ w0) (d : Den σ S β ρ w0 a w) (ha : isAct P Γ o S = true) (h : (act P Γ o S k).den σ ρ) (hK : ∀ a' w', AOut σ S k β ρ w0 (touch o S) a' w' → K a' w') : o.wp P a w K Q := by
  have hb := d.base_le c
  obtain ⟨dst, op, type, pos, after, guard⟩ := o
  cases op with
  | assign x => exact a_assign d ha h hb hK
  | alloc t => exact a_alloc d h hb hK
  | box t x => exact a_box d h hb hK
  | store t x y => exact a_store d h hK
  | buildSlice t n ps => exact a_buildSlice d h hb hK
  | slice t x lo hi mx => exact a_slice d h hK
  | call cl =>
    obtain ⟨callee, args, ts⟩ := cl
    cases callee with
    | builtin b => cases b <;> first | exact a_append d h hb (d.pre c) hK | exact h.elim
    | value x =>
      cases x with
      | func f =>
        unfold act at h
        simp only at h
        split at h
        · next vs hvs =>
          refine callS_den (av := args.map a.eval) c.con hb (d.pre c) d ?_ ?_ h hK
          · intro fn hfn hbody hname
            unfold execOp
            simp only [resolve, Act.eval, Deferred.ofValue, invoke, Sem.run_bind, Sem.run_pure, Result.andThen_ok]
            unfold callFunc program
            simp only [Sem.run_bind, Sem.run, Result.andThen_ok, hfn, hbody, hname]
            simp
          · intro ρ' hfr
            rw [Array.toList_map]
            exact mapM_eval hfr args.toList vs hvs
        · exact h.elim
      | _ => exact h.elim
    | _ => exact h.elim
  | _ => exact h.elim
theorem step_den (c : Ctx P Γ σ w0) (d : Den σ S β ρ w0 a w) (h : (step P Γ o S k).den σ ρ) (hK : ∀ a' w', AOut σ S k β ρ w0 (touch o S) a' w' → K a' w') : o.wp P a w K Q := by
  unfold step at h
  split at h
  · next ha => exact act_den c d ha h hK
  · obtain ⟨v, ρ', S', hal, hsm, hor, hkn, hk, hrun⟩ := quiet_den (okm := fun _ => true) ⟨w, (d.memOk c).1⟩ d.kn d.fr d.ex o h
    have d' : Den σ S β ρ' w0 a w := by
      rcases hor with rfl | hok
      · exact d
      · exact d.alike hal hok
    refine wp_value (hrun w (d'.memOk c)) (hK _ _ ⟨_, β, ρ', hk, (d'.sim hsm hkn).put o.dst v, hal, Near.refl _ _ _, by rw [put_nv]; exact hsm.nv⟩)
theorem get_bool (hfr : ∀ t v, S.fr.lookup t = some v → a.tmps[t]? = some (v.den β ρ)) {j dd : Nat} {q : X} (hd : (ops[j]?).bind (·.dst) = some dd) (hg : S.get dd = some (.s (.one (.bool q)))) : yielded ops a.tmps j = some (q.den ρ).B := by
  unfold yielded
  rw [hd]
  show (match a.tmps[dd]? with | some (.bool b) => some b | _ => none) = _
  rw [hfr dd _ hg]
  rfl
theorem put_bool (hfr : ∀ t v, S.fr.lookup t = some v → a.tmps[t]? = some (v.den β ρ)) (d : Den σ S β ρ w0 a w) {dd : Nat} {q : X} {b : Bool} (hg : S.get dd = some (.s (.one (.bool q)))) (hb : (q.den ρ).B = b) : Den σ (S.put (some dd) (.s (.one (.bool (.bool b))))) β ρ w0 a w := by
  have := d.put (some dd) (.s (.one (.bool (.bool b))))
  have e : a.put (some dd) ((SV.s (.one (.bool (.bool b)))).den β ρ) = a := by
    have h0 := hfr dd _ hg
    have h1 : (SV.s (.one (.bool (.bool b)))).den β ρ = (SV.s (.one (.bool q))).den β ρ := by
      show Value.bool b = Value.bool (q.den ρ).B
      rw [hb]
    rw [h1]
    show (⟨a.tmps.setIfInBounds dd _, a.defers⟩ : Act) = a
    have : a.tmps.setIfInBounds dd ((SV.s (.one (.bool q))).den β ρ) = a.tmps := by
      apply Array.ext_getElem?
      intro i
      by_cases hi : i = dd
      · subst hi
        have hl : i < a.tmps.size := by
          rcases Nat.lt_or_ge i a.tmps.size with h | h
          · exact h
          · rw [Array.getElem?_eq_none h] at h0; cases h0
        rw [Array.getElem?_setIfInBounds_self_of_lt hl, h0]
      · rw [Array.getElem?_setIfInBounds_ne (Ne.symm hi)]
    rw [this]
  rw [e] at this
  exact this
theorem Den.know (d : Den σ S β ρ w0 a w) {q : X} (hq : q.holds ρ) : Den σ (S.know q) β ρ w0 a w :=
  d.sim ⟨rfl, rfl, rfl, rfl, rfl, rfl, Nat.le_refl _⟩ fun c hc => by
    rcases List.mem_cons.1 hc with rfl | hc
    · exact hq
    · exact d.kn c hc
theorem put_get (S : St) (d : Nat) (v : SV) (t : Nat) : (S.put (some d) v).get t = some v ∨ (S.put (some d) v).get t = S.get t := by
  unfold St.put St.get
  simp only
  split
  · by_cases h : t = d
    · subst h
      left
      rw [List.lookup_cons]
      simp
    · right
      rw [List.lookup_cons]
      have : (t == d) = false := by simpa using h
      rw [this]
      simp only
      induction S.fr with
      | nil => rfl
      | cons p l ih =>
        rw [List.filter_cons]
        split
        · rw [List.lookup_cons, List.lookup_cons]
          split
          · rfl
          · exact ih
        · next hp =>
          rw [List.lookup_cons]
          have hp : p.1 = d := by simpa using hp
          have : (t == p.1) = false := by rw [hp]; simpa using h
          rw [this]
          exact ih
  · exact .inr rfl
theorem touch_put {dd : Nat} {q : X} : ∀ m ∈ touch o (S.put (some dd) (.s (.one (.bool q)))), m ∈ touch o S := by
  intro m hm
  unfold touch at hm ⊢
  rcases List.mem_append.1 hm with hm | hm
  · exact List.mem_append_left _ hm
  · refine List.mem_append_right _ ?_
    split at hm
    · split at hm
      · next x l hx =>
        have : (S.put (some dd) (.s (.one (.bool q)))).opd x = some (.s (.one (.bool q))) ∨ (S.put (some dd) (.s (.one (.bool q)))).opd x = S.opd x := by
          cases x with
          | tmp t => exact put_get S dd _ t
          | const v => exact .inr rfl
          | global g => exact .inr rfl
          | func f => exact .inr rfl
        rcases this with e | e
        · rw [e] at hm; cases hm
        · rw [e] at hm; exact hm
      · cases hm
    · cases hm
theorem stepG_den (c : Ctx P Γ σ w0) (d : Den σ S β ρ w0 a w) {i : Nat} (hi : ops[i]? = some o) (h : (stepG P Γ ops o S k).den σ ρ) (hK : ∀ a' w', AOut σ S k β ρ w0 (touch o S) a' w' → K a' w') : wpOp P ops Q i K a w := by
  unfold wpOp
  simp only [hi]
  unfold stepG at h
  have kill : ∀ {S1 : St}, Den σ S1 β ρ w0 a w → S1.nv = S.nv → (k (S1.kill o.dst)).den σ ρ → K (a.put o.dst undef) w := fun d1 e h1 => hK _ _ ⟨_, β, ρ, h1, d1.kill o.dst undef, Alike.refl _ _, Near.refl _ _ _, by rw [kill_nv, e]; exact Nat.le_refl _⟩
  split at h
  · next hg =>
    have : Region.wanted o (yielded ops a.tmps) = true := by unfold Region.wanted; rw [hg]
    rw [if_pos this]
    exact .inl (step_den c d h hK)
  · next j want hg =>
    split at h
    · exact h.elim
    · next dd hd =>
      have hw : ∀ b, yielded ops a.tmps j = some b → Region.wanted o (yielded ops a.tmps) = (b == want) := by
        intro b hb
        unfold Region.wanted
        rw [hg]
        simp only [hb]
        rfl
      split at h
      · next t ht =>
        have hy := get_bool d.fr hd ht
        have hy := hw _ hy
        have hy : Region.wanted o (yielded ops a.tmps) = (t == want) := hy
        split at h
        · next e =>
          rw [hy, e, if_pos (by simp)]
          exact .inl (step_den c d h hK)
        · next e =>
          rw [hy, if_neg (by simpa using e)]
          exact kill d rfl h
      · next q _ ht =>
        have hy := hw _ (get_bool d.fr hd ht)
        rw [hy]
        obtain ⟨h1, h2⟩ := h
        have step1 : ∀ b r, r.holds ρ → (q.den ρ).B = b → (step P Γ o ((S.know r).put (some dd) (.s (.one (.bool (.bool b))))) k).den σ ρ → o.wp P a w K Q := fun b r hr hb h' =>
          step_den c (put_bool (S := S.know r) d.fr (d.know hr) ht hb) h' fun a' w' ⟨S', β', ρ', x1, x2, x3, x4, x5⟩ => hK a' w' ⟨S', β', ρ', x1, x2, by rw [put_nv] at x3; exact x3, x4.wide (fun m hm => touch_put (S := S.know r) m hm) (fun m hm => touch_put (S := S.know r) m hm), by rw [put_nv] at x5; exact x5⟩
        cases hq : (q.den ρ).B with
        | true =>
          have hqh := (X.holds_iff ρ q).2 hq
          have g1 := h1 hqh
          dsimp only at g1
          split at g1
          · next hw' => 
            subst hw'
            rw [if_pos (by rfl)]
            exact .inl (step1 true q hqh hq g1)
          · next hw' =>
            rw [if_neg (by simpa using hw')]
            exact kill (put_bool (S := S.know q) d.fr (d.know hqh) ht hq) (put_nv ..) g1
        | false =>
          have hqh : (X.not q).holds ρ := (X.holds_iff ρ _).2 (by rw [not_den, hq]; rfl)
          have g2 := h2 hqh
          dsimp only at g2
          split at g2
          · next hw' =>
            subst hw'
            rw [if_neg (by simp)]
            exact kill (put_bool (S := S.know (X.not q)) d.fr (d.know hqh) ht hq) (put_nv ..) g2
          · next hw' =>
            have : want = false := by simpa using hw'
            subst this
            rw [if_pos (by rfl)]
            exact .inl (step1 false (X.not q) hqh hq g2)
      · exact h.elim
theorem runOps_den (c : Ctx P Γ σ w0) : ∀ (l : List Nat) (S : St) (β : Beta) (ρ : Nat → U) (a : Act) (w : World), Den σ S β ρ w0 a w → (runOps P Γ ops l S k).den σ ρ → (∀ S' β' ρ' a' w', (k S').den σ ρ' → Den σ S' β' ρ' w0 a' w' → Alike S.nv ρ ρ' → S.nv ≤ S'.nv → Q .normal a' w') → wpOps P ops Q l a w
  | [], S, β, ρ, a, w, d, h, hK => hK S β ρ a w h d (Alike.refl _ _) (Nat.le_refl _)
  | i :: l, S, β, ρ, a, w, d, h, hK => by
    rw [wpOps_cons]
    unfold runOps at h
    split at h
    · exact h.elim
    · next o hi =>
      exact stepG_den c d hi h fun a' w' ⟨S', β', ρ', h1, h2, h3, _, h5⟩ => runOps_den c l S' β' ρ' a' w' h2 h1 fun S'' β'' ρ'' a'' w'' g1 g2 g3 g4 => hK S'' β'' ρ'' a'' w'' g1 g2 (h3.trans g3 h5) (Nat.le_trans h5 g4)
end
end Go.Proofs.Ytjjkdmngmopjbaa.Vc
