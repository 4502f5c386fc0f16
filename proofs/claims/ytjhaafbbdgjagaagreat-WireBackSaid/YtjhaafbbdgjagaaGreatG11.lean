/- Of the texts VcF, VcG, VcR, VcS. -/
import Derived.Test.YtjhaafbbdgjagaaGreatG10
set_option linter.unusedSimpArgs false
set_option linter.unusedVariables false
namespace Go.Proofs.YtjhaafbbdgjagaaGreat.Vc
open Go Go.RowKit
structure Ctr where
 gh : Nat := 0
 pre : List U → World → Prop
 post : List U → List U → Prop
 fact : List U → List U → World → Prop
 pan : List U → List PanicEntry → Prop := fun _ _ => False
def Keeps (P : Program) (f : Nat) (s : Ctr) : Prop :=
 ∀ (fn : Func) (pin pout : List Sh), P.funcs[f]? = some fn → shsOf P fn.params = some pin → shsOf P fn.resultTypes = some pout → ∀ (us : List U) (w : World), us.map U.srt = lfsSrts (shsLfs pin) ++ List.replicate s.gh .g → s.pre us w →
  Calls P f (shsV us 0 pin).toArray w fun e w' => ∃ os : List U, os.map U.srt = lfsSrts (shsLfs pout) ∧ e = .returned (resV os pout) ∧ s.post us os ∧
   (∀ u : World, (∀ b, w.heap.size ≤ b → b < w'.heap.size → u.heap[b]? = w'.heap[b]?) → s.pre us u → s.fact us os u) ∧ Below w.heap.size w w'
def LentAt (w : World) (args : List Value) (vs : List U) : Nat → List (Nat × Nat) → List (List Lf) → List Nat → Prop
 | _, [], [], [] => True
 | k, p :: L, lf :: lls, b :: bs => args[p.1]? = some (.pointer (some ⟨b, 0, none⟩)) ∧ w.heap[b]? = some (.cells (lfsV vs k lf).toArray p.2 (0, 0)) ∧ LentAt w args vs (k + lfsAr lf) L lls bs
 | _, _, _, _ => False
def KeepsL (P : Program) (f : Nat) (s : Ctr) (L : List (Nat × Nat)) : Prop :=
 ∀ (fn : Func) (pin pout : List Sh) (lls : List (List Lf)), P.funcs[f]? = some fn → shsOf P fn.params = some pin → shsOf P fn.resultTypes = some pout → lentsLfs P L = some lls → ∀ (us : List U) (w : World) (bs : List Nat), us.map U.srt = lfsSrts (shsLfs pin) ++ (lfsSrts lls.flatten ++ List.replicate s.gh .g) → bs.Nodup → LentAt w (shsV us 0 pin) us (lfsAr (shsLfs pin)) L lls bs → s.pre us w →
  Calls P f (shsV us 0 pin).toArray w fun e w' => (∃ os : List U, os.map U.srt = lfsSrts (shsLfs pout) ++ lfsSrts lls.flatten ∧ e = .returned (resV os pout) ∧ s.post us os ∧ LentAt w' (shsV us 0 pin) os (lfsAr (shsLfs pout)) L lls bs ∧
   (∀ u : World, (∀ b, w.heap.size ≤ b → b < w'.heap.size → u.heap[b]? = w'.heap[b]?) → s.pre us u → s.fact us os u) ∧ Kept (· ∈ bs) w.heap.size w w') ∨ (∃ ch, e = .panicked ch ∧ s.pan us ch ∧ Kept (· ∈ bs) w.heap.size w w')
def CallOk (P : Program) (Γ : Cfg) (σ : Sm) (f gh : Nat) : Prop :=
 match Γ.lents.lookup f with
 | none => Keeps P f ⟨gh, σ.pre f, σ.post f, σ.fact f, σ.pan f⟩
 | some L => KeepsL P f ⟨gh, σ.pre f, σ.post f, σ.fact f, if Γ.pans.contains f = true then σ.pan f else fun _ _ => False⟩ L
theorem at_app (pre us : List U) (k : Nat) : at_ (pre ++ us) (pre.length + k) = at_ us k := by
 unfold at_; rw [List.getD_eq_getElem?_getD, List.getD_eq_getElem?_getD, List.getElem?_append_right (by omega)]
 congr 2
 omega
theorem val1_app (pre us : List U) (l : Lf) (k : Nat) : l.val1 (pre ++ us) (pre.length + k) = l.val1 us k := by
 cases l <;> simp only [Lf.val1, Nat.add_assoc, at_app]
theorem lfsV_app (pre us : List U) : ∀ (ls : List Lf) (k : Nat), lfsV (pre ++ us) (pre.length + k) ls = lfsV us k ls
 | [], _ => rfl
 | l :: ls, k => by
  unfold lfsV; rw [val1_app, Nat.add_assoc, lfsV_app pre us ls]
theorem shval_app (pre us : List U) (s : Sh) (k : Nat) : s.val1 (pre ++ us) (pre.length + k) = s.val1 us k := by
 cases s <;> simp only [Sh.val1, val1_app, lfsV_app]
theorem shsV_app (pre us : List U) : ∀ (ss : List Sh) (k : Nat), shsV (pre ++ us) (pre.length + k) ss = shsV us k ss
 | [], _ => rfl
 | s :: ss, k => by
  unfold shsV; rw [shval_app, Nat.add_assoc, shsV_app pre us ss]
theorem at_pre (us post : List U) (k : Nat) (h : k < us.length) : at_ (us ++ post) k = at_ us k := by
 unfold at_; simp [List.getElem?_append, h]
theorem val1_pre (us post : List U) (l : Lf) (k : Nat) (h : k + l.ar ≤ us.length) : l.val1 (us ++ post) k = l.val1 us k := by
 cases l <;> simp only [Lf.val1] <;> simp only [Lf.ar] at h
 case slc => rw [at_pre _ _ _ (by omega), at_pre _ _ _ (by omega), at_pre _ _ _ (by omega)]
 all_goals rw [at_pre _ _ _ (by omega)]
theorem lfsV_pre (us post : List U) : ∀ (ls : List Lf) (k : Nat), k + lfsAr ls ≤ us.length → lfsV (us ++ post) k ls = lfsV us k ls
 | [], _, _ => rfl
 | l :: ls, k, h => by
  unfold lfsAr at h; unfold lfsV; rw [val1_pre _ _ _ _ (by omega), lfsV_pre us post ls _ (by omega)]
theorem shval_pre (us post : List U) (s : Sh) (k : Nat) (h : k + lfsAr s.lfs ≤ us.length) : s.val1 (us ++ post) k = s.val1 us k := by
 cases s with
 | one l =>
  simp only [Sh.lfs, lfsAr] at h; exact val1_pre _ _ _ _ (by omega)
 | agg ls => simp only [Sh.val1, lfsV_pre us post ls k h]
theorem dens_append (ρ : Nat → U) (a b : List X) : dens ρ (a ++ b) = dens ρ a ++ dens ρ b := by simp [dens]
section
variable {S : St} {β : Beta} {ρ : Nat → U}
theorem lf_den {c : C1} {f : Lf} {xs : List X} (h : c.lf = some (f, xs)) : f.val1 (dens ρ xs) 0 = c.den β ρ ∧ xs.length = f.ar := by
 unfold C1.lf at h; split at h <;> first | (injection h with h; injection h with h1 h2; subst h1; subst h2; exact ⟨rfl, rfl⟩) | cases h
theorem flat_den (hex : Exd S β ρ) : ∀ (l : List C1) (fs : List Lf) (xs : List X), flat S l = some (fs, xs) → lfsV (dens ρ xs) 0 fs = l.map (C1.den β ρ) ∧ xs.length = lfsAr fs
 | [], fs, xs, h => by
  injection h with h; injection h with h1 h2; subst h1; subst h2
  exact ⟨rfl, rfl⟩
 | c :: l, fs, xs, h => by
  unfold flat at h; split at h
  ·next f ys fs' zs hc hl =>
   injection h with h; injection h with h1 h2; subst h1; subst h2
   rw [Option.bind_eq_some_iff] at hc; obtain ⟨c', hc', hlf⟩ := hc; obtain ⟨h1, h2⟩ := lf_den (β := β) (ρ := ρ) hlf; obtain ⟨i1, i2⟩ := flat_den hex l fs' zs hl; refine ⟨?_, by simp [lfsAr, h2, i2]⟩; rw [dens_append, List.map_cons, ← expd_den hex hc', ← h1, ← i1]; rw [show lfsV (dens ρ ys ++ dens ρ zs) 0 (f :: fs') = f.val1 (dens ρ ys ++ dens ρ zs) 0 :: lfsV (dens ρ ys ++ dens ρ zs) (0 + f.ar) fs' from rfl]; have hlen : (dens ρ ys).length = f.ar := by simp [dens, h2]
   rw [val1_pre _ _ _ _ (by omega), Nat.zero_add]
   congr 1
   have := lfsV_app (dens ρ ys) (dens ρ zs) fs' 0; rw [hlen, Nat.add_zero] at this; exact this
  ·cases h
theorem sflat_den (hex : Exd S β ρ) {v : SV1} {s : Sh} {xs : List X} (h : v.flat S = some (s, xs)) : s.val1 (dens ρ xs) 0 = v.den β ρ ∧ xs.length = lfsAr s.lfs := by
 cases v with
 | one c =>
  unfold SV1.flat at h; simp only at h; split at h
  ·next f ys hc =>
   injection h with h; injection h with h1 h2; subst h1; subst h2
   rw [Option.bind_eq_some_iff] at hc; obtain ⟨c', hc', hlf⟩ := hc; obtain ⟨h1, h2⟩ := lf_den (β := β) (ρ := ρ) hlf; exact ⟨h1.trans (expd_den hex hc'), by simp [Sh.lfs, lfsAr, h2]⟩
  ·cases h
 | agg l =>
  unfold SV1.flat at h; simp only at h; split at h
  ·next fs ys hl =>
   injection h with h; injection h with h1 h2; subst h1; subst h2
   obtain ⟨i1, i2⟩ := flat_den hex l fs ys hl; exact ⟨by simp only [Sh.val1, SV1.den, i1], i2⟩
  ·cases h
theorem flats_den (hex : Exd S β ρ) : ∀ (l : List SV1) (ss : List Sh) (xs : List X), flats S l = some (ss, xs) → shsV (dens ρ xs) 0 ss = l.map (SV1.den β ρ) ∧ xs.length = lfsAr (shsLfs ss)
 | [], ss, xs, h => by
  injection h with h; injection h with h1 h2; subst h1; subst h2
  exact ⟨rfl, rfl⟩
 | v :: l, ss, xs, h => by
  unfold flats at h; split at h
  ·next f ys fs' zs hc hl =>
   injection h with h; injection h with h1 h2; subst h1; subst h2
   obtain ⟨h1, h2⟩ := sflat_den hex hc; obtain ⟨i1, i2⟩ := flats_den hex l fs' zs hl; have ar_app : ∀ a b : List Lf, lfsAr (a ++ b) = lfsAr a + lfsAr b := by
    intro a b
    induction a with
    | nil => simp [lfsAr]
    | cons x a ih => simp only [List.cons_append, lfsAr, ih, Nat.add_assoc]
   refine ⟨?_, by simp only [List.length_append, shsLfs, List.flatMap_cons, ar_app, h2]; rw [i2]; rfl⟩; rw [dens_append, List.map_cons, ← h1, ← i1]; rw [show shsV (dens ρ ys ++ dens ρ zs) 0 (f :: fs') = f.val1 (dens ρ ys ++ dens ρ zs) 0 :: shsV (dens ρ ys ++ dens ρ zs) (0 + lfsAr f.lfs) fs' from rfl]; have hlen : (dens ρ ys).length = lfsAr f.lfs := by simp [dens, h2]
   rw [shval_pre _ _ _ _ (by omega), Nat.zero_add]
   congr 1
   have := shsV_app (dens ρ ys) (dens ρ zs) fs' 0; rw [hlen, Nat.add_zero] at this; exact this
  ·cases h
theorem vars_at {n : Nat} : ∀ {k : Nat} {us : List U}, dens ρ (vars n k) = us → ∀ j, j < k → ρ (n + j) = at_ us j := by
 intro k us h j hj; subst h; have : ∀ (k n j : Nat), j < k → at_ (dens ρ (vars n k)) j = ρ (n + j) := by
  intro k
  induction k with
  | zero => intro _ _ h; omega
  | succ k ih =>
   intro n j hj; cases j with
   | zero => rfl
   | succ j =>
    show at_ (dens ρ (vars (n + 1) k)) j = _; rw [ih (n + 1) j (by omega)]
    congr 1
    omega
 exact (this k n j hj).symm
theorem fresh_den {n : Nat} {us : List U} {N k : Nat} (hv : ∀ j, j < N → ρ (n + j) = at_ us j) (l : Lf) (hk : k + l.ar ≤ N) : (l.fresh (n + k)).den β ρ = l.val1 us k := by
 cases l <;> simp only [Lf.fresh, C1.den, Lf.val1, X.den, Nat.add_assoc] <;> simp only [Lf.ar] at hk
 case slc => rw [hv _ (by omega), hv _ (by omega), hv _ (by omega)]
 all_goals rw [hv _ (by omega)]
theorem freshs_den {n : Nat} {us : List U} {N : Nat} (hv : ∀ j, j < N → ρ (n + j) = at_ us j) : ∀ (ls : List Lf) (k : Nat), k + lfsAr ls ≤ N → (freshs (n + k) ls).map (C1.den β ρ) = lfsV us k ls
 | [], _, _ => rfl
 | l :: ls, k, h => by
  unfold lfsAr at h; unfold freshs lfsV; rw [List.map_cons, fresh_den hv l (by omega), Nat.add_assoc, freshs_den hv ls _ (by omega)]
theorem sfresh_den {n : Nat} {us : List U} {N k : Nat} (hv : ∀ j, j < N → ρ (n + j) = at_ us j) (s : Sh) (hk : k + lfsAr s.lfs ≤ N) : (s.fresh (n + k)).den β ρ = s.val1 us k := by
 cases s with
 | one l =>
  simp only [Sh.lfs, lfsAr] at hk; exact fresh_den hv l (by omega)
 | agg ls => simp only [Sh.fresh, SV1.den, Sh.val1, freshs_den hv ls k hk]
theorem lfsAr_app (a b : List Lf) : lfsAr (a ++ b) = lfsAr a + lfsAr b := by
 induction a with
 | nil => simp [lfsAr]
 | cons x a ih => simp only [List.cons_append, lfsAr, ih, Nat.add_assoc]
theorem shsfresh_den {n : Nat} {us : List U} {N : Nat} (hv : ∀ j, j < N → ρ (n + j) = at_ us j) : ∀ (ss : List Sh) (k : Nat), k + lfsAr (shsLfs ss) ≤ N → (shsFresh (n + k) ss).map (SV1.den β ρ) = shsV us k ss
 | [], _, _ => rfl
 | s :: ss, k, h => by
  simp only [shsLfs, List.flatMap_cons, lfsAr_app] at h; unfold shsFresh shsV; rw [List.map_cons, sfresh_den hv s (by omega), Nat.add_assoc, shsfresh_den hv ss _ (by unfold shsLfs; omega)]
end
theorem lf_typed {c : C1} {f : Lf} {xs : List X} (ρ : Nat → U) (h : c.lf = some (f, xs)) : (dens ρ xs).map U.srt = f.srts := by
 unfold C1.lf at h; split at h <;> first | (injection h with h; injection h with h1 h2; subst h1; subst h2; rfl) | cases h
theorem flat_typed {S : St} (ρ : Nat → U) : ∀ (l : List C1) (fs : List Lf) (xs : List X), flat S l = some (fs, xs) → (dens ρ xs).map U.srt = lfsSrts fs
 | [], fs, xs, h => by
  injection h with h; injection h with h1 h2; subst h1; subst h2
  rfl
 | c :: l, fs, xs, h => by
  unfold flat at h; split at h
  ·next f ys fs' zs hc hl =>
   injection h with h; injection h with h1 h2; subst h1; subst h2
   rw [Option.bind_eq_some_iff] at hc; obtain ⟨c', hc', hlf⟩ := hc; rw [dens_append, List.map_append, lf_typed ρ hlf, flat_typed ρ l fs' zs hl]; rfl
  ·cases h
theorem sflat_typed {S : St} (ρ : Nat → U) {v : SV1} {s : Sh} {xs : List X} (h : v.flat S = some (s, xs)) : (dens ρ xs).map U.srt = lfsSrts s.lfs := by
 cases v with
 | one c =>
  unfold SV1.flat at h; simp only at h; split at h
  ·next f ys hc =>
   injection h with h; injection h with h1 h2; subst h1; subst h2
   rw [Option.bind_eq_some_iff] at hc; obtain ⟨c', hc', hlf⟩ := hc; rw [lf_typed ρ hlf]; simp [Sh.lfs, lfsSrts]
  ·cases h
 | agg l =>
  unfold SV1.flat at h; simp only at h; split at h
  ·next fs ys hl =>
   injection h with h; injection h with h1 h2; subst h1; subst h2
   exact flat_typed ρ l fs ys hl
  ·cases h
theorem flats_typed {S : St} (ρ : Nat → U) : ∀ (l : List SV1) (ss : List Sh) (xs : List X), flats S l = some (ss, xs) → (dens ρ xs).map U.srt = lfsSrts (shsLfs ss)
 | [], ss, xs, h => by
  injection h with h; injection h with h1 h2; subst h1; subst h2
  rfl
 | v :: l, ss, xs, h => by
  unfold flats at h; split at h
  ·next f ys fs' zs hc hl =>
   injection h with h; injection h with h1 h2; subst h1; subst h2
   rw [dens_append, List.map_append, sflat_typed ρ hc, flats_typed ρ l fs' zs hl]; unfold shsLfs lfsSrts; simp
  ·cases h
theorem upd_self (ρ : Nat → U) (n : Nat) (u : U) : upd ρ n u n = u := by
 unfold upd; rw [show Nat.beq n n = true from Nat.beq_refl _]; rfl
theorem alls_den {σ : Sm} : ∀ (l : List Srt) (S : St) (ρ : Nat → U) (k : St → VC) (us : List U), us.map U.srt = l → (alls l S k).den σ ρ → ∃ ρ', Alike S.nv ρ ρ' ∧ dens ρ' (vars S.nv l.length) = us ∧ (k { S with nv := S.nv + l.length }).den σ ρ'
 | [], S, ρ, k, us, hu, h => by
  have : us = [] := by simpa using hu
  subst this; exact ⟨ρ, Alike.refl _ _, rfl, h⟩
 | so :: l, S, ρ, k, us, hu, h => by
  cases us with
  | nil => cases hu
  | cons u us =>
   rw [List.map_cons] at hu; injection hu with h1 h2
   subst h1; unfold alls at h; have h := VC.all_inst h u rfl; obtain ⟨ρ', g1, g2, g3⟩ := alls_den l { S with nv := S.nv + 1 } (upd ρ S.nv u) k us h2 h
   refine ⟨ρ', (Alike.upd S.nv ρ u).trans g1 (Nat.le_succ _), ?_, ?_⟩
   ·show ρ' S.nv :: dens ρ' (vars (S.nv + 1) l.length) = _; have g2 : dens ρ' (vars (S.nv + 1) l.length) = us := g2; rw [g2]; have := g1 S.nv (Nat.lt_succ_self _); rw [this, upd_self]
   ·simp only [List.length_cons] at g3 ⊢
    rw [show S.nv + (l.length + 1) = S.nv + 1 + l.length by omega]; exact g3
section
variable {σ : Sm} {S : St} {β : Beta} {ρ : Nat → U} {w0 : World} {a : Act} {w : World}
theorem expose_den : ∀ (ms : List Nat) (S : St) (ρ : Nat → U) (k : St → VC), Den σ S β ρ w0 a w → (expose ms S k).den σ ρ → ∃ (S' : St) (ρ' : Nat → U), (k S').den σ ρ' ∧ Den σ S' β ρ' w0 a w ∧ Alike S.nv ρ ρ' ∧ S.nv ≤ S'.nv ∧ S'.fr = S.fr ∧ S'.blk = S.blk ∧ S'.row = S.row ∧ S'.facts = S.facts ∧ S'.nt = S.nt
 | [], S, ρ, k, d, h => ⟨S, ρ, h, d, Alike.refl _ _, Nat.le_refl _, rfl, rfl, rfl, rfl, rfl⟩
 | m :: ms, S, ρ, k, d, h => by
  unfold expose at h; split at h
  ·exact expose_den ms S ρ k d h
  ·split at h
   ·next hok =>
    have h := h (β.row m).1 (β.row m).2; have a1 : Alike S.nv ρ (upd ρ S.nv (.p (β.row m).1)) := Alike.upd _ _ _; have a2 : Alike (S.nv + 1) (upd ρ S.nv (.p (β.row m).1)) (upd (upd ρ S.nv (.p (β.row m).1)) (S.nv + 1) (.n (β.row m).2)) := Alike.upd _ _ _; have a3 := a1.trans a2 (Nat.le_succ _); have d' := d.alike a3 hok; have d'' : Den σ { S with nv := S.nv + 2, exp := (m, .var S.nv, .var (S.nv + 1)) :: S.exp } β (upd (upd ρ S.nv (.p (β.row m).1)) (S.nv + 1) (.n (β.row m).2)) w0 a w := by
     refine ⟨d'.df, d'.nt, d'.fr, d'.bk, d'.rw, d'.nd, d'.rn, ?_, d'.fx, d'.kn, d'.bl⟩; intro e he
     rcases List.mem_cons.1 he with rfl | he
     ·show β.row m = ((upd (upd ρ S.nv (.p (β.row m).1)) (S.nv + 1) (.n (β.row m).2) S.nv).P, (upd (upd ρ S.nv (.p (β.row m).1)) (S.nv + 1) (.n (β.row m).2) (S.nv + 1)).N); rw [upd_self, a2 S.nv (Nat.lt_succ_self _), upd_self]; rfl
     ·exact d'.ex e he
    obtain ⟨S', ρ', g1, g2, g3, g4, g5⟩ := expose_den ms _ _ k d'' h; exact ⟨S', ρ', g1, g2, a3.trans g3 (by show S.nv ≤ S.nv + 2; omega), Nat.le_trans (by show S.nv ≤ S.nv + 2; omega) g4, g5⟩
   ·exact h.elim
  ·exact h.elim
theorem rowFX_den (d : Den σ S β ρ w0 a w) {m : Nat} {F : FX} (h : rowFX S m = some F) : F.den σ ρ w := by
 unfold rowFX at h; split at h
 ·next r e hr he =>
  injection h with h
  subst h; have h1 := d.rw r (rowOf_mem hr); have h2 := d.ex _ (lookup_mem he); rw [rowOf_m hr] at h1; simp only at h2; rw [h2] at h1; exact h1
 ·cases h
theorem unrowC_den {m : Nat} {x c : X} (h : β.row m = ((x.den ρ).P, (c.den ρ).N)) (v : C1) : (v.unrow m x c).den β ρ = v.den β ρ := by
 unfold C1.unrow; split
 ·next k n =>
  split
  ·next e => subst e; simp only [C1.den, h]
  ·rfl
 ·next k o =>
  split
  ·next e => subst e; simp only [C1.den, h, mkPadd_den]
  ·rfl
 ·rfl
theorem mapC_den {f : C1 → C1} (h : ∀ c, (f c).den β ρ = c.den β ρ) (l : List C1) : (l.map f).map (C1.den β ρ) = l.map (C1.den β ρ) := by
 rw [List.map_map]; exact List.map_congr_left fun c _ => h c
theorem mapS1_den {f : C1 → C1} (h : ∀ c, (f c).den β ρ = c.den β ρ) (v : SV1) : (v.map f).den β ρ = v.den β ρ := by
 cases v with
 | one c => exact h c
 | agg l => simp only [SV1.map, SV1.den, mapC_den h]
theorem mapS_den {f : C1 → C1} (h : ∀ c, (f c).den β ρ = c.den β ρ) (v : SV) : (v.map f).den β ρ = v.den β ρ := by
 cases v with
 | s x => exact mapS1_den h x
 | tup l =>
  simp only [SV.map, SV.den, List.map_map]
  congr 2
  exact List.map_congr_left fun c _ => mapS1_den h c
theorem lookup_map {α γ : Type} (g : α → γ) : ∀ (l : List (Nat × α)) (t : Nat), (l.map fun p => (p.1, g p.2)).lookup t = (l.lookup t).map g
 | [], _ => rfl
 | p :: l, t => by
  rw [List.map_cons, List.lookup_cons, List.lookup_cons]; split
  ·rfl
  ·exact lookup_map g l t
theorem retire_den {m : Nat} {S' : St} (d : Den σ S β ρ w0 a w) (h : retire m S = some S') : Den σ S' β ρ w0 a w ∧ S'.nv = S.nv ∧ S'.nt = S.nt := by
 unfold retire at h; split at h
 ·next F e hF he =>
  injection h with h
  subst h; refine ⟨?_, rfl, rfl⟩; have hx := d.ex _ (lookup_mem he); have hu := fun v => unrowC_den (x := e.1) (c := e.2) hx v
  have hsub : (foot β { S with fr := S.fr.map (fun p => (p.1, p.2.map (C1.unrow m e.1 e.2))), blk := S.blk.map (fun q => (q.1, q.2.1, q.2.2.map (C1.unrow m e.1 e.2))), row := S.row.filter (fun r => r.m != m), exp := S.exp.filter (fun x => x.1 != m), facts := S.facts ++ [F] }).Sublist (foot β S) := by
   unfold foot; simp only [List.map_map]; exact List.Sublist.append (by
    have : (S.blk.map ((fun q : Nat × Nat × List C1 => β.blk q.1) ∘ fun q => (q.1, q.2.1, q.2.2.map (C1.unrow m e.1 e.2)))) = S.blk.map fun q => β.blk q.1 := List.map_congr_left fun q _ => rfl
    rw [this]; exact List.Sublist.refl _) (List.filter_sublist.filterMap _)
  refine ⟨d.df, d.nt, ?_, ?_, ?_, d.nd.sublist hsub, d.rn.sublist (List.filter_sublist.map _), ?_, ?_, d.kn, d.bl⟩
  ·intro t v hv; have hv : (S.fr.map fun p => (p.1, (fun v : SV => v.map (C1.unrow m e.1 e.2)) p.2)).lookup t = some v := hv; rw [lookup_map] at hv; rw [Option.map_eq_some_iff] at hv; obtain ⟨v0, hv0, rfl⟩ := hv; rw [mapS_den hu]; exact d.fr t v0 hv0
  ·intro q hq; obtain ⟨q0, hq0, rfl⟩ := List.mem_map.1 hq; simp only; rw [mapC_den hu]; exact d.bk q0 hq0
  ·intro r hr; exact d.rw r (List.mem_filter.1 hr).1
  ·intro x hx; exact d.ex x (List.mem_filter.1 hx).1
  ·intro G hG u hp hs
   rcases List.mem_append.1 hG with hG | hG
   ·exact d.fx G hG u hp fun b hb hl hn => hs b hb hl fun hm => hn (hsub.subset hm)
   ·have := List.mem_singleton.1 hG; subst this; have hrow := rowFX_den d hF; unfold rowFX at hF; split at hF
    ·next r e' hr he' =>
     injection hF with hF
     subst hF; refine ownsRow_same hrow fun g hg => ?_
     obtain ⟨p, hp, rfl⟩ := ownBlock_slice hg; rw [he] at he'; injection he' with he'
     subst he'; have hA : (β.row m).1 = some p := by rw [hx]; exact hp
     have hin : p.block ∈ foot β S := List.mem_append_right _ (List.mem_filterMap.2 ⟨r, rowOf_mem hr, by rw [rowOf_m hr, hA]; rfl⟩); have hl := d.foot_lt _ hin; refine hs _ (d.row_base (rowOf_mem hr) (by rw [rowOf_m hr]; exact hA)) hl.1 fun hm => ?_
     unfold foot at hm
     rcases List.mem_append.1 hm with hm | hm
     ·obtain ⟨q, hq, e'⟩ := List.mem_map.1 hm; obtain ⟨q0, hq0, rfl⟩ := List.mem_map.1 hq; exact d.row_ne hq0 (rowOf_mem hr) (by rw [rowOf_m hr]; exact hA) e'.symm
     ·obtain ⟨r', hr', e'⟩ := List.mem_filterMap.1 hm; obtain ⟨hr1, hr2⟩ := List.mem_filter.1 hr'; rw [Option.map_eq_some_iff] at e'; obtain ⟨p', hp', e'⟩ := e'; exact d.rows_ne hr1 (rowOf_mem hr) (by rw [rowOf_m hr]; simpa using hr2) hp' (by rw [rowOf_m hr]; exact hA) e'
    ·cases hF
 ·cases h
theorem retires_den : ∀ {ms : List Nat} {S S' : St}, Den σ S β ρ w0 a w → retires ms S = some S' → Den σ S' β ρ w0 a w ∧ S'.nv = S.nv ∧ S'.nt = S.nt
 | [], S, S', d, h => by injection h with h; subst h; exact ⟨d, rfl, rfl⟩
 | m :: ms, S, S', d, h => by
  unfold retires at h; rw [Option.bind_eq_some_iff] at h; obtain ⟨S1, h1, h2⟩ := h; obtain ⟨d1, e1, e2⟩ := retire_den d h1; obtain ⟨d2, e3, e4⟩ := retires_den d1 h2; exact ⟨d2, e3.trans e1, e4.trans e2⟩
theorem Den.below (d : Den σ S β ρ w0 a w) {w' : World} (hb : Below w.heap.size w w') (hbase : σ.base ≤ w.heap.size) : Den σ S β ρ w0 a w' := by
 have hlt := d.foot_lt; refine ⟨d.df, d.nt, d.fr, ?_, ?_, d.nd, d.rn, d.ex, ?_, d.kn, d.bl.trans (hb.mono hbase).kept⟩
 ·intro q hq; have := d.bk q hq; rw [hb.block _ (lt_of_some this.1)]; exact this
 ·intro r hr; refine ownsRow_same (d.rw r hr) fun g hg => ?_
  obtain ⟨p, hp, rfl⟩ := ownBlock_slice hg; exact hb.block _ (hlt _ (List.mem_append_right _ (List.mem_filterMap.2 ⟨r, hr, by rw [hp]; rfl⟩))).1
 ·exact fx_step d.fx hb.size (fun b _ hl _ => hb.block b hl) (fun _ _ h => h)
end
section
variable {P : Program} {Γ : Cfg} {σ : Sm} {S : St} {k : St → VC} {β : Beta} {ρ : Nat → U} {a : Act} {w w0 : World} {K : Act → World → Prop} {Q : Exit → Act → World → Prop}
theorem mapM_eval (hfr : ∀ t v, S.fr.lookup t = some v → a.tmps[t]? = some (v.den β ρ)) : ∀ (l : List Operand) (vs : List SV1), l.mapM (fun x => (S.opd x).bind fun v => match v with | .s v => some v | _ => none) = some vs → l.map a.eval = vs.map (SV1.den β ρ)
 | [], vs, h => by simp at h; subst h; rfl
 | x :: l, vs, h => by
  rw [List.mapM_cons] at h; simp only [Option.bind_eq_bind, Option.bind_eq_some_iff, Option.pure_def, Option.some.injEq] at h; obtain ⟨v, ⟨u, hu, hv⟩, vs', hl, rfl⟩ := h; cases u with
  | tup _ => cases hv
  | s u =>
   injection hv with hv
   subst hv; rw [List.map_cons, List.map_cons, opd_den hfr hu, mapM_eval hfr l vs' hl]; rfl
theorem rowFXs_den (d : Den σ S β ρ w0 a w) : ∀ (ms : List Nat) (fx : List FX), ms.mapM (rowFX S) = some fx → ∀ F ∈ fx, F.den σ ρ w
 | [], fx, h => by simp at h; subst h; simp
 | m :: ms, fx, h => by
  rw [List.mapM_cons] at h; simp only [Option.bind_eq_bind, Option.bind_eq_some_iff, Option.pure_def, Option.some.injEq] at h; obtain ⟨F, hF, fx', hl, rfl⟩ := h; intro G hG
  rcases List.mem_cons.1 hG with rfl | hG
  ·exact rowFX_den d hF
  ·exact rowFXs_den d ms fx' hl G hG
theorem srts_ar : ∀ ls : List Lf, (lfsSrts ls).length = lfsAr ls
 | [] => rfl
 | l :: ls => by
  unfold lfsSrts lfsAr; rw [List.flatMap_cons, List.length_append]; have := srts_ar ls; unfold lfsSrts at this; rw [this]
  congr 1
  cases l <;> rfl
theorem Den.addFact {F : FX} (d : Den σ S β ρ w0 a w) (h : ∀ u, σ.pre0 u → Same σ.base (foot β S) w u → F.den σ ρ u) : Den σ { S with facts := S.facts ++ [F] } β ρ w0 a w :=
 ⟨d.df, d.nt, d.fr, d.bk, d.rw, d.nd, d.rn, d.ex, fun G hG => by
  rcases List.mem_append.1 hG with hG | hG
  ·exact d.fx G hG
  ·have := List.mem_singleton.1 hG; subst this; exact h, d.kn, d.bl⟩
theorem dens_len' (ρ : Nat → U) (l : List X) : (dens ρ l).length = l.length := List.length_map ..
theorem upto_mono {n m : Nat} : ∀ {x : X}, x.upto n = true → n ≤ m → x.upto m = true := by
 intro x
 induction x with
 | var k => intro h hm; simp only [X.upto, Nat.blt_eq] at h ⊢; omega
 | un o x ih => intro h hm; exact ih h hm
 | bin o x y ih1 ih2 => intro h hm; simp only [X.upto, Bool.and_eq_true] at h ⊢; exact ⟨ih1 h.1 hm, ih2 h.2 hm⟩
 | tri o x y z ih1 ih2 ih3 => intro h hm; simp only [X.upto, Bool.and_eq_true] at h ⊢; exact ⟨⟨ih1 h.1.1 hm, ih2 h.1.2 hm⟩, ih3 h.2 hm⟩
 | _ => intro _ _; rfl
theorem vars_upto : ∀ (k n : Nat), (vars n k).all (·.upto (n + k)) = true
 | 0, _ => rfl
 | k + 1, n => by
  show (X.upto (n + (k + 1)) (.var n) && (vars (n + 1) k).all (·.upto (n + (k + 1)))) = true; rw [Bool.and_eq_true]; refine ⟨by simp only [X.upto, Nat.blt_eq]; omega, ?_⟩; have := vars_upto k (n + 1); rw [show n + 1 + k = n + (k + 1) by omega] at this; exact this
theorem shsV_pre (us post : List U) : ∀ (ss : List Sh) (k : Nat), k + lfsAr (shsLfs ss) ≤ us.length → shsV (us ++ post) k ss = shsV us k ss
 | [], _, _ => rfl
 | s :: ss, k, h => by
  simp only [shsLfs, List.flatMap_cons, lfsAr_app] at h; unfold shsV; rw [shval_pre _ _ _ _ (by omega), shsV_pre us post ss _ (by unfold shsLfs; omega)]
theorem exs_typed {σ : Sm} : ∀ (l : List Srt) (S : St) (ρ : Nat → U) (k : St → VC), (exs l S k).den σ ρ → ∃ ρ', Alike S.nv ρ ρ' ∧ (dens ρ' (vars S.nv l.length)).map U.srt = l ∧ (k { S with nv := S.nv + l.length }).den σ ρ'
 | [], S, ρ, k, h => ⟨ρ, Alike.refl _ _, rfl, h⟩
 | so :: l, S, ρ, k, h => by
  unfold exs at h; obtain ⟨x, hx, h⟩ := VC.ex_inst h; obtain ⟨ρ', h1, h2, h3⟩ := exs_typed l { S with nv := S.nv + 1 } (upd ρ S.nv x) k h
  refine ⟨ρ', (Alike.upd S.nv ρ x).trans h1 (Nat.le_succ _), ?_, ?_⟩
  ·show U.srt (ρ' S.nv) :: (dens ρ' (vars (S.nv + 1) l.length)).map U.srt = _; have h2 : (dens ρ' (vars (S.nv + 1) l.length)).map U.srt = l := h2; rw [h2, h1 S.nv (Nat.lt_succ_self _), upd_self, hx]
  ·simp only [List.length_cons] at h3 ⊢
   rw [show S.nv + (l.length + 1) = S.nv + 1 + l.length by omega]; exact h3
theorem given_alike {n : Nat} {ρ ρ' : Nat → U} (h : Alike n ρ ρ') {fs : List FX} (hf : fs.all (·.upto n) = true) {u : World} (hF : ∀ F ∈ fs, F.den σ ρ u) : ∀ F ∈ fs, F.den σ ρ' u := fun F hFm =>
 (FX.den_alike h σ u F (List.all_eq_true.1 hf F hFm)).2 (hF F hFm)
theorem callS_den {f dn : Nat} {o : Oper} {args : List SV1} {av : Array Value} (hcon : ∀ gh, Γ.con.lookup f = some gh → Keeps P f ⟨gh, σ.pre f, σ.post f, σ.fact f, σ.pan f⟩) (hb : σ.base ≤ w.heap.size) (hpre : σ.pre0 w) (d : Den σ S β ρ w0 a w)
  (hrun : ∀ fn, P.funcs[f]? = some fn → fn.body.isNone = false → (fn.name == "runtime.NumGoroutine") = false → (execOp a.eval o).run P w = .ok (.enter f av) w) (hav : ∀ ρ' : Nat → U, (∀ t v, S.fr.lookup t = some v → a.tmps[t]? = some (v.den β ρ')) → av.toList = args.map (SV1.den β ρ'))
  (h : (callS P Γ f dn o.dst args S k).den σ ρ) {tc : List Nat} (hK : ∀ a' w', AOut σ S k β ρ w0 tc a' w' → K a' w') : o.wp P a w K Q := by
 unfold callS at h; split at h
 ·exact h.elim
 ·next fn hfn =>
  split at h
  ·next pin pout hpin hpout =>
   split at h
   ·exact h.elim
   ·next gh hgh =>
    split at h
    ·exact h.elim
    ·next hc =>
     simp only [Bool.or_eq_true, not_or, Bool.not_eq_true] at hc; obtain ⟨hc2, hc3⟩ := hc; dsimp only at h; obtain ⟨S1, ρ1, hx, d1, a1, n1, e1, e2, e3, e4, e5⟩ := expose_den _ S ρ _ d h; clear h; split at hx
     ·next shs us S2 fx hfl hS2 hfx =>
      generalize hfsd : (if Γ.retire.contains dn = true then S2.facts else S2.facts ++ fx) = fs at hx; split at hx
      ·next hok =>
       obtain ⟨rfl, hok2, hus, hfs⟩ := hok; have d2n : Den σ S2 β ρ1 w0 a w ∧ S2.nv = S1.nv ∧ S2.nt = S1.nt := by
        split at hS2
        ·exact retires_den d1 hS2
        ·injection hS2 with hS2; subst hS2; exact ⟨d1, rfl, rfl⟩
       obtain ⟨d2, hnv, hnt⟩ := d2n; obtain ⟨ρg, ag, tg, hx⟩ := exs_typed _ S2 ρ1 _ hx; rw [List.length_replicate] at tg hx; obtain ⟨hp, h⟩ := hx; have hfx' := rowFXs_den d1 _ _ hfx; have facts2 : ∀ F ∈ S2.facts, F.den σ ρ1 w := fun F hF => d2.fx F hF w hpre fun _ _ _ _ => rfl
       have factsw : ∀ F ∈ fs, F.den σ ρ1 w := by
        intro F hF; rw [← hfsd] at hF; split at hF
        ·exact facts2 F hF
        ·rcases List.mem_append.1 hF with hF | hF
         ·exact facts2 F hF
         ·exact hfx' F hF
       have husg : dens ρg us = dens ρ1 us := dens_alike ag us hus; have hpre_f : σ.pre f (dens ρg (us ++ vars S2.nv gh)) w := given_out (hp w) (given_alike ag hfs factsw); obtain ⟨f1, f2⟩ := flats_den (β := β) (ρ := ρ1) d1.ex args _ us hfl; have hvs := hav ρ1 (by rw [← e1]; exact d1.fr); unfold Oper.wp; rw [hrun fn hfn hc2 (by simpa using hc3)]; show Calls P f av w _; have hty : (dens ρg (us ++ vars S2.nv gh)).map U.srt = lfsSrts (shsLfs shs) ++ List.replicate gh .g := by
        rw [dens_append, List.map_append, husg, flats_typed ρ1 args _ us hfl, tg]
       have hcall := hcon gh hgh fn _ pout hfn hpin hpout (dens ρg (us ++ vars S2.nv gh)) w hty hpre_f; have hava : (shsV (dens ρg (us ++ vars S2.nv gh)) 0 shs).toArray = av := by
        apply Array.toList_inj.1; rw [hvs, ← f1, dens_append, husg]; have := shsV_pre (dens ρ1 us) (dens ρg (vars S2.nv gh)) shs 0 (by rw [dens_len', f2]; omega); exact this
       rw [hava] at hcall; refine hcall.mono ?_; rintro e w1 ⟨os, ho, rfl, hpost, hfact, hbel⟩; have d3 := d2.below hbel hb; obtain ⟨ρ2, a2, hvars, h⟩ := alls_den _ { S2 with nv := S2.nv + gh } ρg _ os ho h
       have a12 : Alike S2.nv ρ1 ρ2 := ag.trans a2 (Nat.le_add_right _ _); have d4 := (d3.alike a12 hok2).nv (S2.nv + gh + (lfsSrts (shsLfs pout)).length); rw [srts_ar] at hvars; have husd : dens ρ2 (us ++ vars S2.nv gh) = dens ρg (us ++ vars S2.nv gh) := by
        refine dens_alike a2 _ ?_; rw [List.all_append, Bool.and_eq_true]; refine ⟨List.all_eq_true.2 fun x hx => upto_mono (List.all_eq_true.1 hus x hx) (Nat.le_add_right _ _), vars_upto _ _⟩
       have hval : (shsFresh (S2.nv + gh) pout).map (SV1.den β ρ2) = shsV os 0 pout := shsfresh_den (vars_at hvars) pout 0 (by omega); have hpost' : σ.post f (dens ρ2 (us ++ vars S2.nv gh)) (dens ρ2 (vars (S2.nv + gh) (lfsAr (shsLfs pout)))) := by rw [husd, hvars]; exact hpost
       have hal : Alike S.nv ρ ρ2 := a1.trans a12 (by omega); have fin : ∀ S4 : St, S.nv ≤ S4.nv → (VC.post f (us ++ vars S2.nv gh) (vars (S2.nv + gh) (lfsAr (shsLfs pout))) (match shsFresh (S2.nv + gh) pout with | [v] => k (S4.put o.dst (.s v)) | vs => k (S4.put o.dst (.tup vs)))).den σ ρ2 → Den σ S4 β ρ2 w0 a w1 → K (a.put o.dst (resV os pout)) w1 := by
        intro S4 hnv4 h d5; have h := h hpost'; have one : ∀ v, shsFresh (S2.nv + gh) pout = [v] → K (a.put o.dst (resV os pout)) w1 := by
         intro v hv; rw [hv] at h; have hlen : ∃ s, pout = [s] := by
          cases pout with
          | nil => cases hv
          | cons s ss =>
           cases ss with
           | nil => exact ⟨s, rfl⟩
           | cons s' ss => cases hv
         obtain ⟨s, hs⟩ := hlen; have : resV os pout = (SV.s v).den β ρ2 := by
          rw [hv] at hval; rw [hs] at hval ⊢
          have := List.head_eq_of_cons_eq hval; exact this.symm
         rw [this]; exact hK _ _ ⟨_, β, ρ2, h, d5.put o.dst (.s v), hal, Near.refl _ _ _, by rw [put_nv]; exact hnv4⟩
        have many : (∀ v, shsFresh (S2.nv + gh) pout ≠ [v]) → K (a.put o.dst (resV os pout)) w1 := by
         intro hne; have h' : (k (S4.put o.dst (.tup (shsFresh (S2.nv + gh) pout)))).den σ ρ2 := by
          split at h
          ·next v hv => exact absurd hv (hne v)
          ·exact h
         have : resV os pout = (SV.tup (shsFresh (S2.nv + gh) pout)).den β ρ2 := by
          show _ = Value.tuple ((shsFresh (S2.nv + gh) pout).map (SV1.den β ρ2)).toArray; rw [hval]; unfold resV; split
          ·next s => exact absurd rfl (hne _)
          ·rfl
         rw [this]; exact hK _ _ ⟨_, β, ρ2, h', d5.put o.dst _, hal, Near.refl _ _ _, by rw [put_nv]; exact hnv4⟩
        by_cases hx : ∃ v, shsFresh (S2.nv + gh) pout = [v]
        ·obtain ⟨v, hv⟩ := hx; exact one v hv
        ·exact many fun v hv => hx ⟨v, hv⟩
       refine fin _ ?_ h ?_
       ·split
        ·show S.nv ≤ S2.nv + gh + _; omega
        ·show S.nv ≤ S2.nv + gh + _; omega
       split
       ·next hret =>
        refine d4.addFact fun u hu hs => ?_
        show σ.fact f (dens ρ2 (us ++ vars S2.nv gh)) (dens ρ2 (vars (S2.nv + gh) (lfsAr (shsLfs pout)))) u; rw [husd, hvars]; refine hfact u (fun b h1 h2 => hs b (by omega) h2 fun hm => ?_) ?_
        ·have := (d2.foot_lt b hm).1; omega
        ·have hsame : Same σ.base (foot β S2) w u := fun b h1 h2 h3 => (hs b h1 (by have := hbel.size; omega) h3).trans (hbel.block b h2)
         refine given_out (hp u) (given_alike ag hfs fun F hF => ?_); have f2 : ∀ F ∈ S2.facts, F.den σ ρ1 u := fun F hF => d2.fx F hF u hu hsame
         rw [← hfsd] at hF; split at hF
         ·exact f2 F hF
         ·next hr =>
          rcases List.mem_append.1 hF with hF | hF
          ·exact f2 F hF
          ·have hemp : dedup (args.flatMap SV1.rowNames) = [] := by
            simp only [Bool.or_eq_true] at hret
            rcases hret with hret | hret
            ·exact absurd hret hr
            ·simpa using hret
           rw [hemp] at hfx; simp at hfx; subst hfx; cases hF
       ·exact d4
      ·exact hx.elim
     ·exact hx.elim
  ·exact h.elim
end
section
variable {P : Program} {Γ : Cfg} {σ : Sm} {S : St} {k : St → VC} {β : Beta} {ρ : Nat → U} {a : Act} {w w0 : World} {K : Act → World → Prop} {Q : Exit → Act → World → Prop} {o : Oper}
def Took (S : St) (β : Beta) (vals : List Value) : List (Nat × Nat) → List (Nat × List C1) → Prop
 | [], [] => True
 | p :: L, q :: l => vals[p.1]? = some (.pointer (some ⟨β.blk q.1, 0, none⟩)) ∧ S.block q.1 = some (p.2, q.2) ∧ Took S β vals L l
 | _, _ => False
theorem takeL_len : ∀ (L : List (Nat × Nat)) (j : Nat) (args args' : List SV1) (ls : List (Nat × List C1)), takeL S L j args = some (args', ls) → ls.length = L.length
 | [], _, args, args', ls, h => by
  injection h with h
  injection h with h1 h2
  subst h2; rfl
 | p :: L, j, args, args', ls, h => by
  unfold takeL at h; split at h
  ·next m hm =>
   split at h
   ·next t cs hb =>
    split at h
    ·next ht =>
     rw [Option.map_eq_some_iff] at h; obtain ⟨q, hq, he⟩ := h; injection he with h1 h2
     subst h2; exact congrArg (· + 1) (takeL_len L _ _ _ _ hq)
    ·cases h
   ·cases h
  ·cases h
theorem set_same {α : Type} {l : List α} {i : Nat} {v : α} (h : l[i]? = some v) : l.set i v = l := by
 apply List.ext_getElem?; intro j; rw [List.getElem?_set]; split
 ·next e =>
  subst e; have := (List.getElem?_eq_some_iff.1 h).1; rw [if_pos this, h]
 ·rfl
theorem takeL_spec : ∀ (L : List (Nat × Nat)) (j : Nat) (args args' : List SV1) (ls : List (Nat × List C1)), takeL S L j args = some (args', ls) → (∀ i, i < L.length → ρ (S.nv + j + i) = .p (some ⟨β.blk ((ls.map (·.1)).getD i 0), 0, none⟩)) → args'.map (SV1.den β ρ) = args.map (SV1.den β ρ) ∧ Took S β (args.map (SV1.den β ρ)) L ls
 | [], _, args, args', ls, h, _ => by
  injection h with h
  injection h with h1 h2
  subst h1; subst h2; exact ⟨rfl, trivial⟩
 | p :: L, j, args, args', ls, h, hρ => by
  unfold takeL at h; split at h
  ·next m hm =>
   split at h
   ·next t cs hb =>
    split at h
    ·next ht =>
     subst ht; rw [Option.map_eq_some_iff] at h; obtain ⟨q, hq, he⟩ := h; injection he with h1 h2
     subst h1; subst h2; have h0 := hρ 0 (by simp); have hρ' : ∀ i, i < L.length → ρ (S.nv + (j + 1) + i) = .p (some ⟨β.blk ((q.2.map (·.1)).getD i 0), 0, none⟩) := fun i hi => by
      have := hρ (i + 1) (by simp; omega); rw [show S.nv + j + (i + 1) = S.nv + (j + 1) + i by omega] at this; simpa using this
     obtain ⟨g1, g2⟩ := takeL_spec L (j + 1) _ _ _ hq hρ'; have hg : (args.map (SV1.den β ρ))[p.1]? = some (.pointer (some ⟨β.blk m, 0, none⟩)) := by
      rw [List.getElem?_map, hm]; rfl
     have hset : (args.set p.1 (.one (.ptr (.var (S.nv + j))))).map (SV1.den β ρ) = args.map (SV1.den β ρ) := by
      rw [List.map_set]; have e : SV1.den β ρ (.one (.ptr (.var (S.nv + j)))) = .pointer (some ⟨β.blk m, 0, none⟩) := by
       show Value.pointer (X.den ρ (.var (S.nv + j))).P = _; have : ρ (S.nv + j) = .p (some ⟨β.blk m, 0, none⟩) := by simpa using h0
       show Value.pointer (ρ (S.nv + j)).P = _; rw [this]; rfl
      rw [e]; exact set_same hg
     rw [hset] at g1 g2; exact ⟨g1, hg, hb, g2⟩
    ·cases h
   ·cases h
  ·cases h
theorem catX_cons (x : Option (List Lf × List X)) (l : List (Option (List Lf × List X))) : catX (x :: l) = (match x with | some p => p.2 | none => []) ++ catX l := rfl
theorem lentAt_of (hex : Exd S β ρ) {vals : List Value} : ∀ (L : List (Nat × Nat)) (ls : List (Nat × List C1)) (lls : List (List Lf)) (pre post : List U), Took S β vals L ls → (ls.map fun q : Nat × List C1 => flat S q.2).map (Option.map (·.1)) = lls.map some → (∀ q ∈ ls, ∀ t, S.block q.1 = some (t, q.2) → w.heap[β.blk q.1]? = some (.cells (q.2.map (C1.den β ρ)).toArray t (0, 0))) →
  LentAt w vals (pre ++ (dens ρ (catX (ls.map fun q : Nat × List C1 => flat S q.2)) ++ post)) pre.length L lls (ls.map fun q => β.blk q.1)
 | [], [], lls, pre, post, _, hf, _ => by
  cases lls with
  | nil => trivial
  | cons x l => cases hf
 | [], _ :: _, _, _, _, h, _, _ => h.elim
 | _ :: _, [], _, _, _, h, _, _ => h.elim
 | p :: L, q :: ls, lls, pre, post, ht, hf, hw => by
  cases lls with
  | nil => cases hf
  | cons lf lls =>
   simp only [List.map_cons, List.cons.injEq] at hf; obtain ⟨hf1, hf2⟩ := hf; obtain ⟨t1, t2, t3⟩ := ht; rw [Option.map_eq_some_iff] at hf1; obtain ⟨⟨lf', ys⟩, hfl, rfl⟩ := hf1; obtain ⟨d1, d2⟩ := flat_den (β := β) (ρ := ρ) hex q.2 lf' ys hfl; have ih := lentAt_of hex L ls lls (pre ++ dens ρ ys) post t3 hf2 (fun q' hq' => hw q' (List.mem_cons_of_mem _ hq')); simp only [List.map_cons, hfl, catX_cons, dens_append]; refine ⟨t1, ?_, ?_⟩
   ·rw [hw q (List.mem_cons_self ..) _ t2]
    congr 3
    show _ = lfsV _ _ lf'; rw [show pre.length = pre.length + 0 from rfl, lfsV_app, List.append_assoc, lfsV_pre _ _ _ _ (by rw [dens_len', d2]; omega), d1]
   ·rw [List.length_append, dens_len', d2] at ih; simpa [List.append_assoc] using ih
theorem inj_map {α γ : Type} {f : α → γ} : ∀ {l : List α}, (l.map f).Nodup → ∀ {x y : α}, x ∈ l → y ∈ l → f x = f y → x = y
 | z :: l, h, x, y, hx, hy, e => by
  rw [List.map_cons, List.nodup_cons] at h
  rcases List.mem_cons.1 hx with h1 | h1
  ·rcases List.mem_cons.1 hy with h2 | h2
   ·rw [h1, h2]
   ·exact (h.1 (List.mem_map.2 ⟨y, h2, by rw [← e, h1]⟩)).elim
  ·rcases List.mem_cons.1 hy with h2 | h2
   ·exact (h.1 (List.mem_map.2 ⟨x, h1, by rw [e, h2]⟩)).elim
   ·exact inj_map h.2 h1 h2 e
theorem blk_nodup (hb : (S.blk.map fun q => β.blk q.1).Nodup) : ∀ ls : List (Nat × List C1), (ls.map (·.1)).Nodup → (∀ q ∈ ls, ∃ t, S.block q.1 = some (t, q.2)) → (ls.map fun q => β.blk q.1).Nodup
 | [], _, _ => List.nodup_nil
 | q :: ls, h, hn => by
  rw [List.map_cons, List.nodup_cons] at h ⊢
  refine ⟨fun hm => ?_, blk_nodup hb ls h.2 fun x hx => hn x (List.mem_cons_of_mem _ hx)⟩; obtain ⟨x, hx, e⟩ := List.mem_map.1 hm; obtain ⟨t, ht⟩ := hn q (List.mem_cons_self ..); obtain ⟨t', ht'⟩ := hn x (List.mem_cons_of_mem _ hx); have := inj_map hb (lookup_mem ht) (lookup_mem ht') e.symm; injection this with h1 h2
  exact h.1 (List.mem_map.2 ⟨x, hx, h1.symm⟩)
theorem backL_spec {S0 : St} {w1 : World} {vals : List Value} {os : List U} {n0 N : Nat} (hv : ∀ j, j < N → ρ (n0 + j) = at_ os j) : ∀ (L : List (Nat × Nat)) (ls : List (Nat × List C1)) (lls : List (List Lf)) (k : Nat) (S : St), Took S0 β vals L ls → LentAt w1 vals os k L lls (ls.map fun q => β.blk q.1) → k + lfsAr lls.flatten ≤ N → (ls.map (·.1)).Nodup →
  ∃ g : Nat × Nat × List C1 → Nat × Nat × List C1, backL S ls lls (n0 + k) = { S with blk := S.blk.map g } ∧ (∀ b, (g b).1 = b.1 ∧ (g b).2.1 = b.2.1) ∧ (∀ b, b.1 ∉ ls.map (·.1) → g b = b) ∧ ∀ b, b.1 ∈ ls.map (·.1) → ∃ t cs, S0.block b.1 = some (t, cs) ∧ w1.heap[β.blk b.1]? = some (.cells ((g b).2.2.map (C1.den β ρ)).toArray t (0, 0))
 | [], [], lls, k, S, _, _, _, _ => by
  refine ⟨id, ?_, fun _ => ⟨rfl, rfl⟩, fun _ _ => rfl, fun b hb => by cases hb⟩; cases lls <;> simp [backL]
 | [], _ :: _, _, _, _, h, _, _, _ => h.elim
 | _ :: _, [], _, _, _, h, _, _, _ => h.elim
 | p :: L, q :: ls, [], k, S, _, h, _, _ => h.elim
 | p :: L, q :: ls, lf :: lls, k, S, ht, hl, hN, hnd => by
  obtain ⟨t1, t2, t3⟩ := ht; obtain ⟨l1, l2, l3⟩ := hl; rw [List.map_cons, List.nodup_cons] at hnd; rw [List.flatten_cons, lfsAr_app] at hN; obtain ⟨g', e1, e2, e3, e4⟩ := backL_spec hv L ls lls (k + lfsAr lf) { S with blk := S.blk.map fun b => if b.1 = q.1 then (b.1, b.2.1, freshs (n0 + k) lf) else b } t3 l3 (by omega) hnd.2
  refine ⟨fun b => g' (if b.1 = q.1 then (b.1, b.2.1, freshs (n0 + k) lf) else b), ?_, fun b => ?_, fun b hb => ?_, fun b hb => ?_⟩
  ·unfold backL; rw [Nat.add_assoc, e1]; simp only [List.map_map]; rfl
  ·have := e2 (if b.1 = q.1 then (b.1, b.2.1, freshs (n0 + k) lf) else b); dsimp only; rw [this.1, this.2]; split <;> exact ⟨rfl, rfl⟩
  ·rw [List.map_cons, List.mem_cons, not_or] at hb; dsimp only; rw [if_neg hb.1]; exact e3 b hb.2
  ·dsimp only
   by_cases hq : b.1 = q.1
   ·rw [if_pos hq, e3 _ (by show b.1 ∉ _; rw [hq]; exact hnd.1), hq]; refine ⟨_, _, t2, ?_⟩; show w1.heap[β.blk q.1]? = some (.cells ((freshs (n0 + k) lf).map (C1.den β ρ)).toArray p.2 (0, 0)); rw [l2, freshs_den (β := β) hv lf k (by omega)]
   ·rw [if_neg hq]; rw [List.map_cons, List.mem_cons] at hb; exact e4 b (hb.resolve_left hq)
theorem Den.back (d : Den σ S β ρ w0 a w) {names : List Nat} {w1 : World} (hk : Kept (· ∈ names.map β.blk) w.heap.size w w1) (hbase : σ.base ≤ w.heap.size) {g : Nat × Nat × List C1 → Nat × Nat × List C1} (hn : ∀ m ∈ names, ∃ t cs, S.block m = some (t, cs)) (hg1 : ∀ b, (g b).1 = b.1 ∧ (g b).2.1 = b.2.1) (hg2 : ∀ b, b.1 ∉ names → g b = b)
  (hg3 : ∀ b, b.1 ∈ names → ∃ t cs, S.block b.1 = some (t, cs) ∧ w1.heap[β.blk b.1]? = some (.cells ((g b).2.2.map (C1.den β ρ)).toArray t (0, 0))) : Den σ { S with blk := S.blk.map g } β ρ w0 a w1 := by
 have hfoot : foot β { S with blk := S.blk.map g } = foot β S := by
  unfold foot; simp only [List.map_map]
  congr 1
  refine List.map_congr_left fun q _ => ?_
  simp only [Function.comp_apply, (hg1 q).1]
 have hnd := List.nodup_append.1 d.nd; have hin : ∀ m ∈ names, β.blk m ∈ S.blk.map fun q => β.blk q.1 := fun m hm => by
  obtain ⟨t, cs, h⟩ := hn m hm; exact List.mem_map.2 ⟨_, lookup_mem h, rfl⟩
 have hL : ∀ b, b ∈ names.map β.blk → b ∈ foot β S := fun b hb => by
  obtain ⟨m, hm, rfl⟩ := List.mem_map.1 hb; exact List.mem_append_left _ (hin m hm)
 have hlt := d.foot_lt; refine ⟨d.df, d.nt, d.fr, ?_, ?_, by rw [hfoot]; exact d.nd, d.rn, d.ex, ?_, d.kn, d.bl.trans (hk.mono hbase fun b hb hl => ?_)⟩
 ·intro q hq; obtain ⟨b, hb, rfl⟩ := List.mem_map.1 hq; have hb0 := d.bk b hb; obtain ⟨g1, g2⟩ := hg1 b
  by_cases hm : b.1 ∈ names
  ·obtain ⟨t, cs, h1, h2⟩ := hg3 b hm; have : b = (b.1, t, cs) := inj_map hnd.1 hb (lookup_mem h1) rfl; have ht : b.2.1 = t := by rw [this]
   rw [g1, g2, ht]; exact ⟨h2, hb0.2⟩
  ·rw [hg2 b hm]; refine ⟨(hk.block _ (lt_of_some hb0.1) fun hl => ?_).trans hb0.1, hb0.2⟩; obtain ⟨m, hm', e⟩ := List.mem_map.1 hl; obtain ⟨t, cs, h⟩ := hn m hm'; have : (m, t, cs) = b := inj_map hnd.1 (lookup_mem h) hb e; exact hm (by rw [← this]; exact hm')
 ·intro r hr; refine ownsRow_same (d.rw r hr) fun j hj => ?_
  obtain ⟨p, hp, rfl⟩ := ownBlock_slice hj; have hrow : p.block ∈ S.row.filterMap fun r => (β.row r.m).1.map Addr.block := List.mem_filterMap.2 ⟨r, hr, by rw [hp]; rfl⟩
  refine hk.block _ (hlt _ (List.mem_append_right _ hrow)).1 fun hl => ?_
  obtain ⟨m, hm, e⟩ := List.mem_map.1 hl; exact hnd.2.2 _ (hin m hm) _ hrow e
 ·refine fx_step d.fx hk.size (fun b _ h2 h3 => hk.block b h2 fun hl => h3 (hL b hl)) fun b _ hb => ?_
  rw [hfoot] at hb; exact hb
 ·rcases (hlt b (hL b hl)).2 with h | h
  ·omega
  ·exact h
theorem foldSrts (lls : List (List Lf)) (pout : List Sh) : (lfsSrts (shsLfs pout) ++ lfsSrts lls.flatten).length = lfsAr (shsLfs pout) + lfsAr lls.flatten := by
 rw [List.length_append, srts_ar, srts_ar]
theorem catX_typed (ρ : Nat → U) : ∀ (ls : List (Nat × List C1)) (lls : List (List Lf)), (ls.map fun q : Nat × List C1 => flat S q.2).map (Option.map (·.1)) = lls.map some → (dens ρ (catX (ls.map fun q : Nat × List C1 => flat S q.2))).map U.srt = lfsSrts lls.flatten
 | [], lls, h => by
  cases lls with
  | nil => rfl
  | cons x l => cases h
 | q :: ls, lls, h => by
  cases lls with
  | nil => cases h
  | cons lf lls =>
   simp only [List.map_cons, List.cons.injEq] at h; obtain ⟨h1, h2⟩ := h; rw [Option.map_eq_some_iff] at h1; obtain ⟨⟨lf', ys⟩, hfl, rfl⟩ := h1; simp only [List.map_cons, hfl, catX_cons, dens_append, List.map_append, List.flatten_cons]; rw [flat_typed ρ q.2 lf' ys hfl, catX_typed ρ ls lls h2]; unfold lfsSrts; rw [List.flatMap_append]
theorem keepOk_den (hlk : ∀ q ∈ Γ.keepB, ∃ b, σ.lnames.lookup q.1 = some b) (d : Den σ S β ρ w0 a w) (h : keepOk Γ S = true) {w1 : World} {ms : List Nat} (hms : Γ.keepB.all (fun q => !ms.contains q.1) = true) (hk : ∀ b, b < w.heap.size → (∀ m ∈ ms, b ≠ β.blk m) → w1.heap[b]? = w.heap[b]?) (hms2 : ∀ m ∈ ms, ∃ t cs, S.block m = some (t, cs)) : KeepB Γ σ a w1 := by
 intro q hq; have h1 := List.all_eq_true.1 h q hq; simp only [Bool.and_eq_true, decide_eq_true_eq] at h1; obtain ⟨h1, h2⟩ := h1; split at h1
 ·next t cs hb =>
  simp only [Bool.and_eq_true, beq_iff_eq] at h1; obtain ⟨rfl, hlen⟩ := h1; obtain ⟨b, hb1⟩ := hlk q hq; have hd := d.bk _ (lookup_mem hb); have hbb : β.blk q.1 = b := by
   have := hd.2; unfold Sm.mineAt at this; rw [hb1] at this; exact this
  refine ⟨b, (cs.map (C1.den β ρ)).toArray, hb1, ?_, ?_, by simpa using hlen⟩
  ·have := d.fr _ _ h2; rw [this]; show some (Value.pointer (some ⟨β.blk q.1, 0, none⟩)) = _; rw [hbb]
  ·rw [← hbb, hk _ (lt_of_some hd.1) fun m hm e => ?_]
   ·exact hd.1
   ·have hne : m ≠ q.1 := fun e' => by
     have := List.all_eq_true.1 hms q hq; rw [← e'] at this; simp [List.contains_iff_mem, hm] at this
    obtain ⟨t', cs', hm'⟩ := hms2 m hm; exact d.blk_ne (lookup_mem hb) (lookup_mem hm') (fun e => hne e.symm) e
 ·cases h1
theorem panN_den {f : Nat} {us : List X} {v : VC} {ρ : Nat → U} {ms : List Nat} (h : (panN Γ S ms f us v).den σ ρ) : (∀ ch, (if Γ.pans.contains f = true then σ.pan f else fun _ _ => False) (dens ρ us) ch → Γ.np = false ∧ σ.pan0 ch ∧ keepOk Γ S = true ∧ Γ.keepB.all (fun q => !ms.contains q.1) = true) ∧ v.den σ ρ := by
 unfold panN at h; split at h
 ·next hc =>
  split at h
  ·exact h.elim
  ·next hn =>
   split at h
   ·next hk =>
    simp only [Bool.and_eq_true] at hk; refine ⟨fun ch hp => ⟨by simpa using hn, h.1 ch ?_, hk.1, hk.2⟩, h.2⟩; rw [if_pos hc] at hp; exact hp
   ·exact h.elim
 ·next hc =>
  refine ⟨fun ch hp => ?_, h⟩; rw [if_neg hc] at hp; exact hp.elim
theorem callL_den {f : Nat} {L : List (Nat × Nat)} {args : List SV1} {av : Array Value} (hcon : ∀ gh, Γ.con.lookup f = some gh → KeepsL P f ⟨gh, σ.pre f, σ.post f, σ.fact f, if Γ.pans.contains f = true then σ.pan f else fun _ _ => False⟩ L) (hlk : ∀ q ∈ Γ.keepB, ∃ b, σ.lnames.lookup q.1 = some b) (hQ : Γ.np = false → ∀ ch w', σ.pan0 ch → Kept σ.lent σ.base w0 w' → KeepB Γ σ a w' → Q (.panic ch) a w') (hb : σ.base ≤ w.heap.size) (hpre : σ.pre0 w) (d : Den σ S β ρ w0 a w)
  (hrun : ∀ fn, P.funcs[f]? = some fn → fn.body.isNone = false → (fn.name == "runtime.NumGoroutine") = false → (execOp a.eval o).run P w = .ok (.enter f av) w) (hav : ∀ ρ' : Nat → U, (∀ t v, S.fr.lookup t = some v → a.tmps[t]? = some (v.den β ρ')) → av.toList = args.map (SV1.den β ρ'))
  (h : (callL P Γ f L o.dst args S k).den σ ρ) {tc : List Nat} (hK : ∀ a' w', AOut σ S k β ρ w0 tc a' w' → K a' w') : o.wp P a w K Q := by
 unfold callL at h; split at h
 ·exact h.elim
 ·next fn hfn =>
  split at h
  ·next pin pout lls args' ls hpin hpout hlls htk =>
   split at h
   ·exact h.elim
   ·next gh hgh =>
    split at h
    ·exact h.elim
    ·next hc =>
     simp only [Bool.or_eq_true, not_or, Bool.not_eq_true] at hc; obtain ⟨hc2, hc3⟩ := hc; split at h
     ·next shs us hfl =>
      dsimp only at h; split at h
      ·next hok =>
       obtain ⟨rfl, hfl2, hnd, hSok, hus, hxs⟩ := hok; have hlen := takeL_len L 0 args args' ls htk; obtain ⟨ρ1, a1, hv1, h⟩ := alls_den _ S ρ _ (ls.map fun q => .p (some ⟨β.blk q.1, 0, none⟩)) (by
        rw [List.map_map, ← hlen]; clear htk hfl2 hnd hxs hlen h
        induction ls with
        | nil => rfl
        | cons q l ih => rw [List.map_cons, List.length_cons, List.replicate_succ, ih]; rfl) h
       rw [List.length_replicate] at hv1 h; have hρ : ∀ i, i < L.length → ρ1 (S.nv + 0 + i) = .p (some ⟨β.blk ((ls.map (·.1)).getD i 0), 0, none⟩) := fun i hi => by
        rw [Nat.add_zero, vars_at hv1 i hi]; unfold at_; rw [List.getD_eq_getElem?_getD, List.getD_eq_getElem?_getD, List.getElem?_map, List.getElem?_map, List.getElem?_eq_getElem (by omega)]; rfl
       obtain ⟨hargs, htook⟩ := takeL_spec (β := β) (ρ := ρ1) L 0 args args' ls htk hρ; have d1 := d.alike a1 hSok; obtain ⟨ρg, ag, tg, hx⟩ := exs_typed _ { S with nv := S.nv + L.length } ρ1 _ h
       rw [List.length_replicate] at tg hx; obtain ⟨hpan, hx⟩ := panN_den hx; obtain ⟨hp, h⟩ := hx; have agS : Alike S.nv ρ1 ρg := fun k hk => ag k (by show k < S.nv + L.length; omega)
       have facts1 : ∀ F ∈ S.facts, F.den σ ρ1 w := fun F hF => d1.fx F hF w hpre fun _ _ _ _ => rfl
       have hfu : S.facts.all (·.upto S.nv) = true := by
        unfold St.ok St.upto at hSok; simp only [Bool.and_eq_true] at hSok; exact hSok.1.1.2
       have husg : dens ρg us = dens ρ1 us := dens_alike ag us hus; have hxsg : dens ρg (catX (ls.map fun q : Nat × List C1 => flat S q.2)) = dens ρ1 (catX (ls.map fun q : Nat × List C1 => flat S q.2)) := dens_alike agS _ hxs; have hpre_f := given_out (hp w) (given_alike agS hfu facts1); obtain ⟨f1, f2⟩ := flats_den (β := β) (ρ := ρ1) d1.ex args' _ us hfl; have hvs := hav ρ1 d1.fr; unfold Oper.wp; rw [hrun fn hfn hc2 (by simpa using hc3)]; show Calls P f av w _; have hU : dens ρg (us ++ (catX (ls.map fun q : Nat × List C1 => flat S q.2) ++ vars (S.nv + L.length) gh)) = dens ρ1 us ++ (dens ρ1 (catX (ls.map fun q : Nat × List C1 => flat S q.2)) ++ dens ρg (vars (S.nv + L.length) gh)) := by
        rw [dens_append, dens_append, husg, hxsg]
       have hty : (dens ρg (us ++ (catX (ls.map fun q : Nat × List C1 => flat S q.2) ++ vars (S.nv + L.length) gh))).map U.srt = lfsSrts (shsLfs shs) ++ (lfsSrts lls.flatten ++ List.replicate gh .g) := by
        rw [hU, List.map_append, List.map_append, flats_typed ρ1 args' _ us hfl, tg]; rw [catX_typed (S := S) ρ1 ls lls hfl2]
       have hval : shsV (dens ρg (us ++ (catX (ls.map fun q : Nat × List C1 => flat S q.2) ++ vars (S.nv + L.length) gh))) 0 shs = args.map (SV1.den β ρ1) := by
        rw [hU, shsV_pre _ _ shs 0 (by rw [dens_len', f2]; omega), f1, hargs]
       have hava : (shsV (dens ρg (us ++ (catX (ls.map fun q : Nat × List C1 => flat S q.2) ++ vars (S.nv + L.length) gh))) 0 shs).toArray = av := by
        apply Array.toList_inj.1; rw [hvs, hval]
       have hnames : ∀ q ∈ ls, ∃ t, S.block q.1 = some (t, q.2) := by
        have : ∀ (L : List (Nat × Nat)) (l : List (Nat × List C1)), Took S β (args.map (SV1.den β ρ1)) L l → ∀ q ∈ l, ∃ t, S.block q.1 = some (t, q.2) := by
         intro L
         induction L with
         | nil => intro l h; cases l with
          | nil => intro q hq; cases hq
          | cons x l => exact h.elim
         | cons p L ih => intro l h; cases l with
          | nil => exact h.elim
          | cons x l =>
           intro q hq
           rcases List.mem_cons.1 hq with rfl | hq
           ·exact ⟨_, h.2.1⟩
           ·exact ih l h.2.2 q hq
        exact this L ls htook
       have hlent : LentAt w (args.map (SV1.den β ρ1)) (dens ρg (us ++ (catX (ls.map fun q : Nat × List C1 => flat S q.2) ++ vars (S.nv + L.length) gh))) (lfsAr (shsLfs shs)) L lls (ls.map fun q => β.blk q.1) := by
        have := lentAt_of (w := w) d1.ex L ls lls (dens ρ1 us) (dens ρg (vars (S.nv + L.length) gh)) htook hfl2 fun q hq t ht => (d1.bk _ (lookup_mem ht)).1
        rw [dens_len', f2] at this; rw [hU]; exact this
       have hbs : (ls.map fun q => β.blk q.1).Nodup := blk_nodup (List.nodup_append.1 d.nd).1 ls hnd hnames; have hcall := hcon gh hgh fn _ pout lls hfn hpin hpout hlls (dens ρg (us ++ (catX (ls.map fun q : Nat × List C1 => flat S q.2) ++ vars (S.nv + L.length) gh))) w (ls.map fun q => β.blk q.1) hty hbs (by rw [hval]; exact hlent) hpre_f; rw [hava, hval] at hcall; refine hcall.mono ?_; rintro e w1 (⟨os, ho, rfl, hpost, hlent1, hfact, hkept⟩ | ⟨ch, rfl, hch, hkept⟩)
       case inr =>
        obtain ⟨q1, q2, q3, q4⟩ := hpan ch hch; refine hQ q1 ch w1 q2 (d.bl.trans (hkept.mono hb fun k hk hm => ?_)) (keepOk_den hlk d q3 q4 (fun b hlt hne => hkept.block b hlt fun hm => ?_) fun m hm => ?_)
        rotate_left
        ·obtain ⟨q, hq, rfl⟩ := List.mem_map.1 hm; exact hne q.1 (List.mem_map.2 ⟨q, hq, rfl⟩) rfl
        ·obtain ⟨q, hq, rfl⟩ := List.mem_map.1 hm; obtain ⟨t, ht⟩ := hnames q hq; exact ⟨t, _, ht⟩
        obtain ⟨q, hq, rfl⟩ := List.mem_map.1 hm; obtain ⟨t, ht⟩ := hnames q hq
        rcases Sm.mine_or (d.bk _ (lookup_mem ht)).2 with h' | h'
        ·exact absurd hk (by have h' : σ.base ≤ β.blk q.1 := h'; omega)
        ·exact h'
       have hkept' : Kept (· ∈ (ls.map (·.1)).map β.blk) w.heap.size w w1 := by rw [List.map_map]; exact hkept
       obtain ⟨ρ2, a2, hvars, h⟩ := alls_den _ { S with nv := S.nv + L.length + gh } ρg _ os ho h
       rw [foldSrts] at hvars; have hv := vars_at hvars; obtain ⟨g, e1, e2, e3, e4⟩ := backL_spec (S0 := S) (β := β) (ρ := ρ2) hv L ls lls (lfsAr (shsLfs pout)) { { S with nv := S.nv + L.length + gh + (lfsSrts (shsLfs pout) ++ lfsSrts lls.flatten).length } with facts := S.facts ++ [FX.fact f (us ++ (catX (ls.map fun q : Nat × List C1 => flat S q.2) ++ vars (S.nv + L.length) gh)) (vars (S.nv + L.length + gh) (lfsAr (shsLfs pout) + lfsAr lls.flatten))] } htook hlent1 (Nat.le_refl _) hnd
       have a12 : Alike S.nv ρ1 ρ2 := agS.trans (fun k hk => a2 k (by show k < S.nv + L.length + gh; omega)) (Nat.le_refl _); have d2 := d1.alike a12 hSok; have d3 := d2.back (names := ls.map (·.1)) hkept' hb (fun m hm => by
        obtain ⟨q, hq, rfl⟩ := List.mem_map.1 hm; obtain ⟨t, ht⟩ := hnames q hq; exact ⟨t, _, ht⟩) e2 e3 e4
       have hfoot : foot β { S with blk := S.blk.map g } = foot β S := by
        unfold foot; simp only [List.map_map]
        congr 1
        refine List.map_congr_left fun q _ => ?_
        simp only [Function.comp_apply, (e2 q).1]
       have hUd : dens ρ2 (us ++ (catX (ls.map fun q : Nat × List C1 => flat S q.2) ++ vars (S.nv + L.length) gh)) = dens ρg (us ++ (catX (ls.map fun q : Nat × List C1 => flat S q.2) ++ vars (S.nv + L.length) gh)) := by
        refine dens_alike a2 _ ?_; rw [List.all_append, List.all_append, Bool.and_eq_true, Bool.and_eq_true]; exact ⟨List.all_eq_true.2 fun x hx => upto_mono (List.all_eq_true.1 hus x hx) (Nat.le_add_right _ _), List.all_eq_true.2 fun x hx => upto_mono (List.all_eq_true.1 hxs x hx) (by show S.nv ≤ S.nv + L.length + gh; omega), vars_upto _ _⟩
       have hbsf : ∀ b, b ∈ (ls.map (·.1)).map β.blk → b ∈ foot β S := fun b hb => by
        obtain ⟨m, hm, rfl⟩ := List.mem_map.1 hb; obtain ⟨q, hq, rfl⟩ := List.mem_map.1 hm; obtain ⟨t, ht⟩ := hnames q hq; exact List.mem_append_left _ (List.mem_map.2 ⟨_, lookup_mem ht, rfl⟩)
       have d4 := (d3.nv (S.nv + L.length + gh + (lfsSrts (shsLfs pout) ++ lfsSrts lls.flatten).length)).addFact (F := .fact f (us ++ (catX (ls.map fun q : Nat × List C1 => flat S q.2) ++ vars (S.nv + L.length) gh)) (vars (S.nv + L.length + gh) (lfsAr (shsLfs pout) + lfsAr lls.flatten))) fun u hu hs => by
        have hs : Same σ.base (foot β S) w1 u := by
         rw [← hfoot]; exact hs
        show σ.fact f (dens ρ2 _) (dens ρ2 _) u; rw [hUd, hvars]; refine hfact u (fun b h1 h2 => hs b (by omega) h2 fun hm => ?_) ?_
        ·have := (d.foot_lt b hm).1; omega
        ·have hsame : Same σ.base (foot β S) w u := fun b h1 h2 h3 => (hs b h1 (by have := hkept.size; omega) h3).trans (hkept'.block b h2 fun hl => h3 (hbsf b hl))
         exact given_out (hp u) (given_alike agS hfu fun F hF => d1.fx F hF u hu hsame)
       have hvalr : (shsFresh (S.nv + L.length + gh) pout).map (SV1.den β ρ2) = shsV os 0 pout := shsfresh_den hv pout 0 (by omega); have h := h (by show σ.post f (dens ρ2 _) (dens ρ2 _); rw [hUd, hvars]; exact hpost); rw [e1] at h; have hal : Alike S.nv ρ ρ2 := a1.trans a12 (Nat.le_refl _); have fin : ∀ v : SV, v.den β ρ2 = resV os pout → (k ({ { { S with blk := S.blk.map g } with nv := S.nv + L.length + gh + (lfsSrts (shsLfs pout) ++ lfsSrts lls.flatten).length } with facts := S.facts ++ [FX.fact f (us ++ (catX (ls.map fun q : Nat × List C1 => flat S q.2) ++ vars (S.nv + L.length) gh)) (vars (S.nv + L.length + gh) (lfsAr (shsLfs pout) + lfsAr lls.flatten))] }.put o.dst v)).den σ ρ2 → K (a.put o.dst (resV os pout)) w1 := by
        intro v hv2 hk2; rw [← hv2]; exact hK _ _ ⟨_, β, ρ2, hk2, d4.put o.dst v, hal, Near.refl _ _ _, by rw [put_nv]; show S.nv ≤ S.nv + L.length + gh + _; omega⟩
       by_cases hone : ∃ v, shsFresh (S.nv + L.length + gh) pout = [v]
       ·obtain ⟨v, hv2⟩ := hone; rw [hv2] at h; refine fin (.s v) ?_ h; have hlen1 : ∃ s, pout = [s] := by
         cases pout with
         | nil => cases hv2
         | cons s ss =>
          cases ss with
          | nil => exact ⟨s, rfl⟩
          | cons s' ss => cases hv2
        obtain ⟨s, hs⟩ := hlen1; rw [hv2] at hvalr; rw [hs] at hvalr ⊢
        exact List.head_eq_of_cons_eq hvalr
       ·have h' : (k ({ { { S with blk := S.blk.map g } with nv := S.nv + L.length + gh + (lfsSrts (shsLfs pout) ++ lfsSrts lls.flatten).length } with facts := S.facts ++ [FX.fact f (us ++ (catX (ls.map fun q : Nat × List C1 => flat S q.2) ++ vars (S.nv + L.length) gh)) (vars (S.nv + L.length + gh) (lfsAr (shsLfs pout) + lfsAr lls.flatten))] }.put o.dst (.tup (shsFresh (S.nv + L.length + gh) pout)))).den σ ρ2 := by
         split at h
         ·next v hv2 => exact absurd ⟨v, hv2⟩ hone
         ·exact h
        refine fin (.tup (shsFresh (S.nv + L.length + gh) pout)) ?_ h'; show Value.tuple ((shsFresh (S.nv + L.length + gh) pout).map (SV1.den β ρ2)).toArray = _; rw [hvalr]; unfold resV; split
        ·next s => exact absurd ⟨_, rfl⟩ hone
        ·rfl
      ·exact h.elim
     ·exact h.elim
  ·exact h.elim
end
section
variable {P : Program} {Γ : Cfg} {σ : Sm} {S : St} {k : St → VC} {β : Beta} {ρ : Nat → U} {a : Act} {w w0 : World} {dst : Option Nat} {type : Nat} {pos : String} {after : Array Edge} {guard : Option (Nat × Bool)} {K : Act → World → Prop} {Q : Exit → Act → World → Prop}
def sizeOr (P : Program) (t : Nat) : Nat := ((P.info? t).map (·.size)).getD 0
theorem run_places (w : World) : ∀ l : List Field, l.all (fun f => (P.info? f.type).isSome) = true → (l.mapM fun f => (do pure (f.offset, ← sizeOf f.type) : Sem (Nat × Nat))).run P w = .ok (l.map fun f => (f.offset, sizeOr P f.type)) w
 | [], _ => rfl
 | f :: l, h => by
  simp only [List.all_cons, Bool.and_eq_true] at h; obtain ⟨i, hi⟩ := Option.isSome_iff_exists.1 h.1; rw [List.mapM_cons]; simp only [Sem.run_bind, run_size hi, Result.andThen_ok, Sem.run_pure, run_places w l h.2]; simp [sizeOr, hi]
theorem fillS_den {fs : Array Field} (hfr : ∀ t v, S.fr.lookup t = some v → a.tmps[t]? = some (v.den β ρ)) : ∀ (parts : List (Nat × Operand)) (cs cs' : List C1) (arr : Array Value), fillS P fs S cs parts = some cs' → arr.toList = cs.map (C1.den β ρ) → ∃ arr', Instr.fill (fun i => (fs.map fun f => (f.offset, sizeOr P f.type))[i]?) arr (parts.map fun p => (p.1, a.eval p.2)) = some arr' ∧ arr'.toList = cs'.map (C1.den β ρ)
 | [], cs, cs', arr, h, ha => by
  injection h with h
  subst h; exact ⟨arr, rfl, ha⟩
 | p :: l, cs, cs', arr, h, ha => by
  unfold fillS at h; split at h
  ·next f v hf hx =>
   split at h
   ·next i hi =>
    split at h
    ·next hc =>
     obtain ⟨h1, h2, h3⟩ := hc; have hv : (a.eval p.2).cells = (v.cells.map (C1.den β ρ)).toArray := by
      rw [opd_den hfr hx]; exact cells_of h3
     have hsz : arr.size = cs.length := by
      have := congrArg List.length ha; simpa using this
     have hvl : (a.eval p.2).cells.size = i.size := by rw [hv]; simpa using h1
     have hfold : ((a.eval p.2).cells.zipIdx.foldl (fun cs (x : Value × Nat) => cs.setIfInBounds (f.offset + x.2) x.1) arr).toList = (splice cs f.offset v.cells).map (C1.den β ρ) := by
      rw [← Array.foldl_toList, Array.toList_zipIdx]; have := lay_cells (a.eval p.2).cells.toList arr f.offset 0 (by simp [hvl]; omega); rw [splice_den, ← ha]; rw [hv] at this ⊢
      simpa using this
     obtain ⟨arr', g1, g2⟩ := fillS_den hfr l _ cs' _ h hfold; refine ⟨arr', ?_, g2⟩; rw [List.map_cons]; unfold Instr.fill; have hp : (fs.map fun f => (f.offset, sizeOr P f.type))[p.1]? = some (f.offset, i.size) := by
      rw [Array.getElem?_map, hf]; simp [sizeOr, hi]
     simp only [hp]; rw [if_neg (by simp [hvl]; omega)]; exact g1
    ·cases h
   ·cases h
  ·cases h
theorem a_build {t : Nat} {parts : Array (Nat × Operand)} (d : Den σ S β ρ w0 a w) (h : (act P Γ ⟨dst, .build t parts, type, pos, after, guard⟩ S k).den σ ρ) (hK : ∀ a' w', AOut σ S k β ρ w0 (touch ⟨dst, .build t parts, type, pos, after, guard⟩ S) a' w' → K a' w') : Oper.wp P ⟨dst, .build t parts, type, pos, after, guard⟩ a w K Q := by
 unfold act at h; simp only at h; split at h
 ·next fs z ht hz =>
  rw [Option.bind_eq_some_iff] at hz; obtain ⟨i, hi, hz⟩ := hz; split at h
  ·next cs hcs =>
   split at h
   ·next cs' hcs' =>
    split at hcs'
    ·next hall =>
     have hzc : (cs.map (C1.den β ρ)).toArray = z.cells := (constS_cells (β := β) (ρ := ρ) hcs).symm; obtain ⟨arr', g1, g2⟩ := fillS_den (P := P) (β := β) (ρ := ρ) d.fr parts.toList cs cs' z.cells hcs' (by rw [← hzc]); have hr : (execOp a.eval ⟨dst, .build t parts, type, pos, after, guard⟩).run P w = .ok (.value (.agg arr')) w := by
      show (do pure (.value (← Instr.build t (parts.map fun (i, x) => (i, a.eval x)))) : Sem Next).run P w = _; refine run_v ?_; unfold Instr.build zeroValue; have hl : (parts.map fun (i, x) => (i, a.eval x)).toList = parts.toList.map fun p => (p.1, a.eval p.2) := by simp
      have hm : (fs.mapM fun f => (do pure (f.offset, ← sizeOf f.type) : Sem (Nat × Nat))).run P w = .ok (fs.map fun f => (f.offset, sizeOr P f.type)) w := by
       rw [Array.mapM_eq_mapM_toList]; simp only [Sem.run_bind, Sem.run_map, run_places w fs.toList hall, Result.andThen_ok, Sem.run_pure]
       congr 1
       apply Array.toList_inj.1; simp
      simp only [Sem.run_bind, run_info hi, Result.andThen_ok, hz, Sem.run_pure, run_und w ht, hm, hl, g1]
     have e : (SV.s (.agg cs')).den β ρ = .agg arr' := by
      show Value.agg (cs'.map (C1.den β ρ)).toArray = _; rw [← g2]
     refine wp_value hr (hK _ _ ⟨_, β, ρ, h, ?_, Alike.refl _ _, Near.refl _ _ _, by rw [put_nv]; exact Nat.le_refl _⟩); have := d.put dst (.s (.agg cs')); rw [e] at this; exact this
    ·cases hcs'
   ·exact h.elim
  ·exact h.elim
 ·exact h.elim
end
end Go.Proofs.YtjhaafbbdgjagaaGreat.Vc
