/- Of the texts VcL, VcM, VcN. -/
import Derived.Test.YtgjbcahpgkchfaaG19
set_option linter.unusedSimpArgs false
set_option linter.unusedVariables false
namespace Go.Proofs.Ytgjbcahpgkchfaa.Vc
open Go Go.RowKit
theorem headOf_spec {A : LoopA} {body : Code} {S : St} {H : Head} (h : headOf A body S = some H) : ∃ s0 s1 s2, havocR S S.nv A.rows = some (H.row, s0) ∧ havocS (H.row ++ S.row.filter fun r => !A.rows.contains r.m) S (S.nv + s0.length) A.slots = some (H.fr, s1) ∧ havocB (H.row ++ S.row.filter fun r => !A.rows.contains r.m) S (S.nv + s0.length + s1.length) A.blks = some (H.blk, s2) ∧ H.srts = s0 ++ s1 ++ s2 ∧ H.S.nt = S.nt ∧ H.S.nv = S.nv ∧ H.S.fr.Sublist S.fr ∧ H.S.blk.Sublist S.blk ∧ H.S.row = (S.row.filter fun r => !A.rows.contains r.m) ∧ H.S.facts = S.facts ∧ H.S.exp.Sublist S.exp ∧ H.S.known = S.known := by
 unfold headOf at h; split at h
 ·cases h
 ·next rs s0 h0 =>
  dsimp only at h; split at h
  ·cases h
  ·next fs s1 h1 =>
   split at h
   ·cases h
   ·next bs s2 h2 =>
    injection h with h
    subst h; exact ⟨s0, s1, s2, h0, h1, h2, rfl, rfl, rfl, List.filter_sublist, List.filter_sublist, rfl, rfl, List.filter_sublist, rfl⟩
theorem fits_spec {H : Head} {T : St} {vs : List X} (h : fits H T = some vs) : T.nt = H.S.nt ∧ (∀ p ∈ H.S.fr, T.get p.1 = some p.2) ∧ (∀ q ∈ H.S.blk, T.blk.lookup q.1 = some q.2) ∧ (∀ r ∈ H.S.row, T.rowOf r.m = some r) ∧ (∀ F ∈ H.S.facts, F ∈ T.facts) ∧ (∀ e ∈ H.S.exp, T.exp.lookup e.1 = some e.2) ∧ ∃ a b c, H.row.mapM (fitR T) = some a ∧ H.fr.mapM (fitF T) = some b ∧ H.blk.mapM (fitB T) = some c ∧ vs = a.flatten ++ b.flatten ++ c.flatten := by
 unfold fits at h; dsimp only at h; split at h
 ·next a b c h0 h1 h2 h3 =>
  injection h with h
  subst h; simp only [Bool.and_eq_true, List.all_eq_true, beq_iff_eq] at h0; obtain ⟨⟨⟨⟨⟨g0, g1⟩, g2⟩, g3⟩, g4⟩, g5⟩ := h0; exact ⟨g0, g1, g2, g3, fun F hF => by simpa using g4 F hF, g5, a, b, c, h1, h2, h3, rfl⟩
 ·cases h
theorem nodup_names {α : Type} {g f : α → Nat} : ∀ {l : List α}, (l.map f).Nodup → (∀ x ∈ l, ∀ y ∈ l, f x ≠ f y → g x ≠ g y) → (l.map g).Nodup
 | [], _, _ => List.nodup_nil
 | x :: l, h, hi => by
  rw [List.map_cons, List.nodup_cons] at h ⊢
  refine ⟨fun hm => ?_, nodup_names h.2 fun y hy z hz => hi y (List.mem_cons_of_mem _ hy) z (List.mem_cons_of_mem _ hz)⟩; obtain ⟨y, hy, e⟩ := List.mem_map.1 hm; exact hi y (List.mem_cons_of_mem _ hy) x (List.mem_cons_self ..) (fun e' => h.1 (List.mem_map.2 ⟨y, hy, e'⟩)) e
theorem nodup_rows {β : Beta} : ∀ {l : List RowS}, (l.map RowS.m).Nodup → (∀ x ∈ l, ∀ y ∈ l, x.m ≠ y.m → ∀ A B, (β.row x.m).1 = some A → (β.row y.m).1 = some B → A.block ≠ B.block) → (l.filterMap fun r => (β.row r.m).1.map Addr.block).Nodup
 | [], _, _ => List.nodup_nil
 | x :: l, h, hi => by
  rw [List.map_cons, List.nodup_cons] at h; have ih := nodup_rows h.2 fun y hy z hz => hi y (List.mem_cons_of_mem _ hy) z (List.mem_cons_of_mem _ hz)
  rw [List.filterMap_cons]; split
  ·exact ih
  ·next b hb =>
   refine List.nodup_cons.2 ⟨fun hm => ?_, ih⟩; obtain ⟨y, hy, e⟩ := List.mem_filterMap.1 hm; rw [Option.map_eq_some_iff] at e hb; obtain ⟨B, hB, e⟩ := e; obtain ⟨A, hA, e'⟩ := hb; exact hi y (List.mem_cons_of_mem _ hy) x (List.mem_cons_self ..) (fun e' => h.1 (List.mem_map.2 ⟨y, hy, e'⟩)) B A hB hA (e.trans e'.symm)
section
variable {σ : Sm} {S T : St} {β : Beta} {ρ ρT ρ' : Nat → U} {w0 : World} {a : Act} {w : World}
theorem head_den {A : LoopA} {body : Code} {H : Head} {vs : List X} {nv r : Nat} {hv : List X} (d : Den σ T β ρT w0 a w) (hH : headOf A body S = some H) (hf : fits H T = some vs) (hS : S.ok = true) (h0 : Alike S.nv ρ ρT) (h1 : Alike S.nv ρ ρ')
  (hvs : dens ρ' (vars S.nv H.srts.length) = dens ρT vs) (hn1 : ((H.at_ nv r hv).blk.map (·.1)).Nodup) (hn2 : ((H.at_ nv r hv).row.map (·.m)).Nodup)
  (hkS : ∀ c ∈ S.known, c.holds ρ) (hI : ∀ u, σ.pre0 u → (∀ F ∈ T.facts, F.den σ ρT u) → (FX.inv r hv).den σ ρ' u) : Den σ (H.at_ nv r hv) β ρ' w0 a w := by
 obtain ⟨s0, s1, s2, hr, hs, hb, hsr, e1, e2, e3, e4, e5, e6, e7, e8⟩ := headOf_spec hH; obtain ⟨f1, f2, f3, f4, f5, f6, va, vb, vc, m1, m2, m3, rfl⟩ := fits_spec hf; have h01 : Alike S.nv ρT ρ' := fun k hk => (h1 k hk).trans (h0 k hk).symm
 have hu := hS; unfold St.ok St.upto at hu; simp only [Bool.and_eq_true, List.all_eq_true] at hu; obtain ⟨⟨⟨⟨⟨u1, u2⟩, u3⟩, u4⟩, u5⟩, u6⟩ := hu; obtain ⟨r1, r2⟩ := havocR_spec (ρ := ρT) (ρ' := ρ') hr m1; rw [hsr] at hvs; have hlab : (va.flatten ++ vb.flatten).length = (s0 ++ s1).length := by
  obtain ⟨q1, _⟩ := havocS_spec (β := β) (ρ := ρT) (ρ' := ρ') hs m2; rw [List.length_append, List.length_append, terms_len r1, terms_len q1]
 obtain ⟨v12, v3⟩ := split_vars hvs hlab; obtain ⟨v1, v2⟩ := split_vars v12 (terms_len r1); have r2 := r2 v1; have hall : ∀ x ∈ H.row ++ S.row.filter (fun r => !A.rows.contains r.m), ∀ r', T.rowOf x.m = some r' → (x.n.den ρ').N = (r'.n.den ρT).N := by
  intro x hx r' hr'
  rcases List.mem_append.1 hx with hx | hx
  ·obtain ⟨q, hq, _, _, _, hn, _⟩ := r2 x hx; rw [hq] at hr'; injection hr' with hr'
   subst hr'; exact hn
  ·have hx' : x ∈ H.S.row := by rw [e5]; exact hx
   have := f4 x hx'; rw [this] at hr'; injection hr' with hr'
   subst hr'; rw [X.den_alike h01 _ (u3 x (List.mem_filter.1 hx).1).1]
 obtain ⟨q1, q2⟩ := havocS_spec (β := β) (ρ := ρT) (ρ' := ρ') hs m2; have q2 := q2 hall v2; obtain ⟨p1, p2⟩ := havocB_spec (β := β) (ρ := ρT) (ρ' := ρ') hb m3; rw [List.length_append, ← Nat.add_assoc] at v3; have p2 := p2 hall v3
 -- every block, every row of the head is one of the state's
 have inB : ∀ q ∈ (H.at_ nv r hv).blk, ∃ cs, (q.1, q.2.1, cs) ∈ T.blk ∧ q.2.2.map (C1.den β ρ') = cs.map (C1.den β ρT) := by
  intro q hq
  rcases List.mem_append.1 hq with hq | hq
  ·obtain ⟨cs, hc, he⟩ := p2 q hq; exact ⟨cs, lookup_blk hc, he⟩
  ·have := f3 q hq; exact ⟨q.2.2, lookup_mem this, cells_alike h01 β _ (List.all_eq_true.2 (u2 q (e4.subset hq)))⟩
 have inR : ∀ x ∈ (H.at_ nv r hv).row, ∃ q ∈ T.row, q.m = x.m ∧ q.e = x.e ∧ q.size = x.size ∧ (x.n.den ρ').N = (q.n.den ρT).N ∧ (x.xs.den ρ').L = (q.xs.den ρT).L := by
  intro x hx
  rcases List.mem_append.1 hx with hx | hx
  ·obtain ⟨q, hq, g1, g2, _, g3, g4⟩ := r2 x hx; exact ⟨q, rowOf_mem hq, rowOf_m hq, g1, g2, g3, g4⟩
  ·have := f4 x hx; have hxS : x ∈ S.row := by rw [e5] at hx; exact (List.mem_filter.1 hx).1
   have := u3 x hxS; exact ⟨x, rowOf_mem (f4 x hx), rfl, rfl, rfl, by rw [X.den_alike h01 _ this.1], by rw [X.den_alike h01 _ this.2]⟩
 have hft : ∀ b ∈ foot β (H.at_ nv r hv), b ∈ foot β T := by
  intro b hbm
  rcases List.mem_append.1 hbm with hbm | hbm
  ·obtain ⟨q, hq, rfl⟩ := List.mem_map.1 hbm; obtain ⟨cs, hc, _⟩ := inB q hq; exact List.mem_append_left _ (List.mem_map.2 ⟨_, hc, rfl⟩)
  ·obtain ⟨x, hx, he⟩ := List.mem_filterMap.1 hbm; obtain ⟨q, hq, hm, _⟩ := inR x hx; exact List.mem_append_right _ (List.mem_filterMap.2 ⟨q, hq, by rw [hm]; exact he⟩)
 refine ⟨d.df, d.nt.trans f1, ?_, ?_, ?_, ?_, hn2, ?_, ?_, (fun c hc => by
  have hc : c ∈ H.S.known := hc; rw [e8] at hc; exact (X.holds_alike h1 c (u6 c hc)).2 (hkS c hc)), d.bl⟩
 ·intro t v hvv
  rcases List.mem_append.1 (lookup_mem hvv) with hm | hm
  ·obtain ⟨b, hb1, hb2⟩ := q2 _ hm; rw [hb2]; exact d.fr t b hb1
  ·rw [SV.den_alike h01 β v (u1 _ (e3.subset hm))]; exact d.fr t v (f2 _ hm)
 ·intro q hq; obtain ⟨cs, hc, he⟩ := inB q hq; rw [he]; exact d.bk _ hc
 ·intro x hx; obtain ⟨q, hq, g1, g2, g3, g4, g5⟩ := inR x hx; rw [← g1, ← g2, ← g3, g4, g5]; exact d.rw q hq
 ·refine List.nodup_append.2 ⟨?_, ?_, ?_⟩
  ·refine nodup_names (f := fun q : Nat × Nat × List C1 => q.1) hn1 fun x hx y hy hne => ?_
   obtain ⟨cx, hcx, _⟩ := inB x hx; obtain ⟨cy, hcy, _⟩ := inB y hy; exact d.blk_ne (q := (x.1, x.2.1, cx)) (q' := (y.1, y.2.1, cy)) hcx hcy hne
  ·refine nodup_rows hn2 fun x hx y hy hne A B hA hB => ?_
   obtain ⟨qx, hqx, gx, _⟩ := inR x hx; obtain ⟨qy, hqy, gy, _⟩ := inR y hy; exact d.rows_ne hqx hqy (by rw [gx, gy]; exact hne) (by rw [gx]; exact hA) (by rw [gy]; exact hB)
  ·intro x hx y hy e; subst e; obtain ⟨q, hq, rfl⟩ := List.mem_map.1 hx; obtain ⟨z, hz, he⟩ := List.mem_filterMap.1 hy; obtain ⟨cs, hc, _⟩ := inB q hq; obtain ⟨y, hy', gy, _⟩ := inR z hz; rw [Option.map_eq_some_iff] at he; obtain ⟨B, hB, he⟩ := he; exact d.row_ne hc hy' (by rw [gy]; exact hB) he
 ·intro e he; have := f6 e he; have hup := u5 e (e7.subset he); rw [X.den_alike h01 _ hup.1, X.den_alike h01 _ hup.2]; exact d.ex _ (lookup_mem this)
 ·intro F hF u hp hsm; have hTf : ∀ F ∈ T.facts, F.den σ ρT u := fun F hF => d.fx F hF u hp fun b hb hl hn => hsm b hb hl fun hm => hn (hft b hm)
  rcases List.mem_append.1 hF with hF | hF
  ·have hFS : F ∈ S.facts := by rw [e6] at hF; exact hF
   exact (FX.den_alike h01 σ u F (u4 F hFS)).2 (hTf F (f5 F hF))
  ·have := List.mem_singleton.1 hF; subst this; exact hI u hp hTf
theorem head_terms {A : LoopA} {body : Code} {H : Head} {vs : List X} (hH : headOf A body S = some H) (hf : fits H T = some vs) (ρ : Nat → U) : (dens ρ vs).map U.srt = H.srts := by
 obtain ⟨s0, s1, s2, hr, hs, hb, hsr, _⟩ := headOf_spec hH; obtain ⟨_, _, _, _, _, _, va, vb, vc, m1, m2, m3, rfl⟩ := fits_spec hf; rw [hsr, dens_append, dens_append, List.map_append, List.map_append, (havocR_spec (ρ' := ρ) hr m1).1, (havocS_spec (β := ⟨fun _ => 0, fun _ => (none, 0), fun _ => undef⟩) (ρ' := ρ) hs m2).1, (havocB_spec (β := ⟨fun _ => 0, fun _ => (none, 0), fun _ => undef⟩) (ρ' := ρ) hb m3).1]
end
section
variable {P : Program} {Γ : Cfg} {σ : Sm} {w0 : World}
theorem rounds_den {code : Code} {f : St → (Ex → St → VC) → VC} (Q : Exit → Act → World → Prop) (k : Ex → St → VC) (n0 : Nat) (ρ0 : Nat → U)
  (hf : ∀ (Q' : Exit → Act → World → Prop), (∀ ch a w, Q (.panic ch) a w → Q' (.panic ch) a w) → ∀ (S : St) (k' : Ex → St → VC) (β : Beta) (ρ : Nat → U) (a : Act) (w : World), Den σ S β ρ w0 a w → (f S k').den σ ρ → (∀ e S' β' ρ' a' w', (k' e S').den σ ρ' → Den σ S' β' ρ' w0 a' w' → Alike S.nv ρ ρ' → S.nv ≤ S'.nv → Q' e.x a' w') → code.wp P Q' a w)
  (hK : ∀ e S' β' ρ' a' w', (k e S').den σ ρ' → Den σ S' β' ρ' w0 a' w' → Alike n0 ρ0 ρ' → n0 ≤ S'.nv → Q e.x a' w') :
  ∀ (n : Nat) (S : St) (β : Beta) (ρ : Nat → U) (a : Act) (w : World), Den σ S β ρ w0 a w → Alike n0 ρ0 ρ → n0 ≤ S.nv → (rounds f n S k).den σ ρ → Code.rounds P code Q n a w
 | 0, _, _, _, _, _, _, _, _, h => h.elim
 | n + 1, S, β, ρ, a, w, d, hal, hn, h => by
  rw [rounds_succ]; refine hf (Exit.then (Code.rounds P code Q n) Q) (fun ch a w h => h) S _ β ρ a w d h ?_; intro e S' β' ρ' a' w' g1 g2 g3 g4; cases e with
  | normal => exact rounds_den Q k n0 ρ0 hf hK n S' β' ρ' a' w' g2 (hal.trans g3 hn) (Nat.le_trans hn g4) g1
  | exit id => exact hK (.exit id) S' β' ρ' a' w' g1 g2 (hal.trans g3 hn) (Nat.le_trans hn g4)
  | ret => exact hK .ret S' β' ρ' a' w' g1 g2 (hal.trans g3 hn) (Nat.le_trans hn g4)
theorem exec_den (c : Ctx P Γ σ w0) : ∀ (code : Code) (Q : Exit → Act → World → Prop) (hQ : ∀ ch a w', σ.pan0 ch → a.defers = σ.df → Kept σ.lent σ.base w0 w' → KeepB Γ σ a w' → Q (.panic ch) a w') (S : St) (k : Ex → St → VC) (β : Beta) (ρ : Nat → U) (a : Act) (w : World), Den σ S β ρ w0 a w → (exec P Γ code S k).den σ ρ →
  (∀ e S' β' ρ' a' w', (k e S').den σ ρ' → Den σ S' β' ρ' w0 a' w' → Alike S.nv ρ ρ' → S.nv ≤ S'.nv → Q e.x a' w') → code.wp P Q a w := by
 intro code
 induction code with
 | skip => intro Q _ S k β ρ a w d h hK; exact wp_skip (hK .normal S β ρ a w h d (Alike.refl _ _) (Nat.le_refl _))
 | label l => intro Q _ S k β ρ a w d h hK; exact wp_label (hK .normal S β ρ a w h d (Alike.refl _ _) (Nat.le_refl _))
 | region id ops draw =>
  intro Q hQ S k β ρ a w d h hK; exact region_den c hQ d h fun S' β' ρ' a' w' g1 g2 g3 g4 => hK .normal S' β' ρ' a' w' g1 g2 g3 g4
 | seq x y ihx ihy =>
  intro Q hQ S k β ρ a w d h hK; unfold exec at h; split at h
  ·refine wp_seq (ihx (Exit.then (y.wp P Q) Q) (fun ch a w => hQ ch a w) S _ β ρ a w d h ?_); intro e S' β' ρ' a' w' g1 g2 g3 g4; cases e with
   | normal => exact ihy Q hQ S' k β' ρ' a' w' g2 g1 fun e S'' β'' ρ'' a'' w'' f1 f2 f3 f4 => hK e S'' β'' ρ'' a'' w'' f1 f2 (g3.trans f3 g4) (Nat.le_trans g4 f4)
   | exit id => exact hK (.exit id) S' β' ρ' a' w' g1 g2 g3 g4
   | ret => exact hK .ret S' β' ρ' a' w' g1 g2 g3 g4
  ·next r A _ =>
   split at h
   ·exact h.elim
   ·next H hH =>
    dsimp only at h; split at h
    ·next hc =>
     obtain ⟨hok, hex⟩ := hc; obtain ⟨h1, h2⟩ := h; refine wp_seq (ihx (Exit.then (y.wp P Q) Q) (fun ch a w => hQ ch a w) S _ β ρ a w d h1 ?_); intro e T β' ρT a' w' g1 g2 hal g4; cases e with
     | normal =>
      dsimp only at g1; split at g1
      ·next vs hT =>
       obtain ⟨hi1, hf1, _⟩ := g1; obtain ⟨ρ', a2, hvars, h⟩ := alls_den H.srts S ρ _ (dens ρT vs) (head_terms hH hT ρT) h2; have hexd : dens ρ' A.extra = dens ρT A.extra := (dens_alike a2 _ hex).trans (dens_alike hal _ hex).symm; have hhv : dens ρ' (vars S.nv H.srts.length ++ A.extra) = dens ρT (vs ++ A.extra) := by rw [dens_append, dens_append, hvars, hexd]
       have h := h (by rw [hhv]; exact hi1); split at h
       ·next hck =>
        simp only [Bool.and_eq_true, decide_eq_true_eq] at hck; obtain ⟨⟨k1, k2⟩, k3⟩ := hck; have d2 := head_den g2 hH hT hok hal a2 hvars k2 k3 d.kn fun u hp hF => by
         show σ.invF r (dens ρ' (vars S.nv H.srts.length ++ A.extra)) u; rw [hhv]; exact given_out (hf1 u) hF
        have hnv : S.nv ≤ (H.at_ (S.nv + H.srts.length) r (vars S.nv H.srts.length ++ A.extra)).nv := Nat.le_add_right _ _; exact ihy Q hQ _ k β' ρ' a' w' d2 h fun e S'' β'' ρ'' a'' w'' f1 f2 f3 f4 => hK e S'' β'' ρ'' a'' w'' f1 f2 (a2.trans f3 hnv) (Nat.le_trans hnv f4)
       ·exact h.elim
      ·exact g1.elim
     | exit id => exact hK (.exit id) T β' ρT a' w' g1 g2 hal g4
     | ret => exact hK .ret T β' ρT a' w' g1 g2 hal g4
    ·exact h.elim
 | cond x t f iht ihf =>
  intro Q hQ S k β ρ a w d h hK; unfold exec at h; split at h
  ·next hx => exact wp_cond (t := true) (opd_den d.fr hx) (iht Q hQ S k β ρ a w d h hK)
  ·next hx => exact wp_cond (t := false) (opd_den d.fr hx) (ihf Q hQ S k β ρ a w d h hK)
  ·next q _ _ hx =>
   have hv : a.eval x = .bool (q.den ρ).B := opd_den d.fr hx; split at h
   ·next hk =>
    have hq : (q.den ρ).B = true := (X.holds_iff ρ q).1 (d.kn q (by simpa using hk)); exact wp_cond (t := true) (by rw [hv, hq]) (iht Q hQ S k β ρ a w d h hK)
   split at h
   ·next hk =>
    have hq := (X.holds_iff ρ (X.not q)).1 (d.kn _ (by simpa using hk)); rw [not_den] at hq; have hq : (q.den ρ).B = false := by
     cases e : (q.den ρ).B with
     | false => rfl
     | true => rw [e] at hq; cases hq
    exact wp_cond (t := false) (by rw [hv, hq]) (ihf Q hQ S k β ρ a w d h hK)
   obtain ⟨h1, h2⟩ := h; refine wp_cond_split hv (fun hb => ?_) (fun hb => ?_)
   ·exact iht Q hQ (S.know q) k β ρ a w (d.know ((X.holds_iff ρ q).2 hb)) (h1 ((X.holds_iff ρ q).2 hb)) hK
   ·have hn : (X.not q).holds ρ := (X.holds_iff ρ _).2 (by rw [not_den, hb]; rfl); exact ihf Q hQ (S.know (X.not q)) k β ρ a w (d.know hn) (h2 hn) hK
  ·exact h.elim
 | block id b ih =>
  intro Q hQ S k β ρ a w d h hK; unfold exec at h; refine wp_block (ih (Exit.inBlock id Q) (fun ch a w => hQ ch a w) S _ β ρ a w d h ?_); intro e S' β' ρ' a' w' g1 g2 g3 g4; cases e with
  | normal => exact hK .normal S' β' ρ' a' w' g1 g2 g3 g4
  | exit j =>
   show Exit.inBlock id Q (.exit j) a' w'; dsimp only at g1; unfold Exit.inBlock; simp only; split at g1
   ·next e => rw [if_pos e]; exact hK .normal S' β' ρ' a' w' g1 g2 g3 g4
   ·next e => rw [if_neg e]; exact hK (.exit j) S' β' ρ' a' w' g1 g2 g3 g4
  | ret => exact hK .ret S' β' ρ' a' w' g1 g2 g3 g4
 | loop b ih =>
  intro Q hQ S k β ρ a w d h hK; unfold exec at h; split at h
  ·next n _ =>
   refine wp_loop_rounds n (rounds_den (σ := σ) (w0 := w0) (f := exec P Γ b) Q k S.nv ρ (fun Q' hp => ih Q' fun ch a w h1 h2 h3 h4 => hp _ _ _ (hQ ch a w h1 h2 h3 h4)) ?_ n S β ρ a w d (Alike.refl _ _) (Nat.le_refl _) h); exact fun e S' β' ρ' a' w' g1 g2 g3 g4 => hK e S' β' ρ' a' w' g1 g2 g3 g4
  split at h
  ·exact h.elim
  ·next r A _ =>
   split at h
   ·exact h.elim
   ·next H hH =>
    split at h
    ·exact h.elim
    ·next us hus =>
     split at h
     ·next hc =>
      obtain ⟨hok, hlen, hex⟩ := hc; dsimp only at h; obtain ⟨ρ0, al0, tg, h⟩ := exs_typed _ { S with nv := S.nv + H.srts.length } ρ _ h
      rw [List.length_replicate] at tg; obtain ⟨hi, hf, h⟩ := h; have al0 : Alike S.nv ρ ρ0 := fun k hk => al0 k (Nat.lt_of_lt_of_le hk (Nat.le_add_right _ _))
      have d0 := d.alike al0 hok; have hkn := d0.kn; generalize hG : dens ρ0 (vars (S.nv + H.srts.length) A.gh) = gl0 at tg; have hgl : ∀ vs, dens ρ0 (vs ++ (A.extra ++ vars (S.nv + H.srts.length) A.gh)) = dens ρ0 vs ++ (dens ρ0 A.extra ++ gl0) := fun vs => by rw [dens_append, dens_append, hG]
      have tg : gl0.map U.srt = List.replicate A.gh .g := by rw [← hG] at tg ⊢; exact tg
      rw [hgl] at hi; have hf : ∀ u, given σ ρ0 u S.facts (σ.invF r (dens ρ0 us ++ (dens ρ0 A.extra ++ gl0)) u) := fun u => by
       have := hf u; rw [hgl] at this; exact this
      clear hgl hG; refine wp_loop_rel (fun n a w => ∃ (T : St) (β' : Beta) (ρT : Nat → U) (vs : List X) (gl : List U), Den σ T β' ρT w0 a w ∧ fits H T = some vs ∧ Alike S.nv ρ0 ρT ∧ gl.map U.srt = List.replicate A.gh .g ∧ σ.inv r (dens ρT vs ++ (dens ρT A.extra ++ gl)) ∧ (∀ u, given σ ρT u T.facts (σ.invF r (dens ρT vs ++ (dens ρT A.extra ++ gl)) u)) ∧ n = σ.mea r (dens ρT vs ++ (dens ρT A.extra ++ gl))) ⟨_, S, β, ρ0, us, gl0, d0, hus, Alike.refl _ _, tg, hi, hf, rfl⟩ ?_; rintro n a1 w1 ⟨T, β', ρT, vs, gl, d1, hT, hal, tg1, hi1, hf1, rfl⟩; have htv := head_terms hH hT ρT; obtain ⟨ρ', a2, hvars, h⟩ := alls_den (H.srts ++ List.replicate A.gh .g) S ρ0 _ (dens ρT vs ++ gl) (by rw [List.map_append, htv, tg1]) h; rw [List.length_append, List.length_replicate] at hvars h; have hexd : dens ρ' A.extra = dens ρT A.extra := (dens_alike a2 _ hex).trans (dens_alike hal _ hex).symm; rw [vars_app, dens_append] at hvars; obtain ⟨hv1, hv2⟩ := List.append_inj hvars (by
       rw [dens_len', vars_len]; have := congrArg List.length htv; rw [List.length_map] at this; exact this.symm)
      have hhv : dens ρ' (vars S.nv H.srts.length ++ (A.extra ++ vars (S.nv + H.srts.length) A.gh)) = dens ρT vs ++ (dens ρT A.extra ++ gl) := by rw [dens_append, dens_append, hv1, hexd, hv2]
      have h := h (by rw [hhv]; exact hi1); split at h
      ·next hck =>
       simp only [Bool.and_eq_true, decide_eq_true_eq] at hck; obtain ⟨⟨k1, k2⟩, k3⟩ := hck; have d2 := head_den d1 hH hT hok hal a2 hv1 k2 k3 hkn fun u hp hF => by
        show σ.invF r (dens ρ' (vars S.nv H.srts.length ++ (A.extra ++ vars (S.nv + H.srts.length) A.gh))) u; rw [hhv]; exact given_out (hf1 u) hF
       have hnv : S.nv ≤ (H.at_ (S.nv + (H.srts.length + A.gh)) r (vars S.nv H.srts.length ++ (A.extra ++ vars (S.nv + H.srts.length) A.gh))).nv := Nat.le_add_right _ _; refine ih (Exit.then _ Q) (fun ch a w => hQ ch a w) _ _ β' ρ' a1 w1 d2 h ?_; intro e T' β'' ρ'' a' w' g1 g2 g3 g4; have g5' : Alike S.nv ρ0 ρ'' := a2.trans g3 hnv; have g5 : Alike S.nv ρ ρ'' := al0.trans g5' (Nat.le_refl _); have g6 : S.nv ≤ T'.nv := Nat.le_trans hnv g4; cases e with
       | normal =>
        dsimp only at g1; split at g1
        ·next vs' hvs' =>
         split at g1
         ·next hup =>
          rw [Bool.and_eq_true] at hup; obtain ⟨ρ3, al3, tg3, g1⟩ := exs_typed _ T' ρ'' _ g1; rw [List.length_replicate] at tg3; obtain ⟨i1, i2, i3, _⟩ := g1; have hvx : dens ρ3 vs' = dens ρ3 vs' := rfl; have al4 : Alike S.nv ρ0 ρ3 := g5'.trans al3 g6; have hd : ∀ l, dens ρ3 (l ++ (A.extra ++ vars T'.nv A.gh)) = dens ρ3 l ++ (dens ρ3 A.extra ++ dens ρ3 (vars T'.nv A.gh)) := fun l => by rw [dens_append, dens_append]
          rw [hd] at i1; have i2 : ∀ u, given σ ρ3 u T'.facts (σ.invF r (dens ρ3 vs' ++ (dens ρ3 A.extra ++ dens ρ3 (vars T'.nv A.gh))) u) := fun u => by
           have := i2 u; rw [hd] at this; exact this
          refine ⟨_, ?_, T', β'', ρ3, vs', dens ρ3 (vars T'.nv A.gh), g2.alike al3 hup.1, hvs', al4, tg3, i1, i2, rfl⟩; have : dens ρ3 (vars S.nv H.srts.length ++ (A.extra ++ vars (S.nv + H.srts.length) A.gh)) = dens ρT vs ++ (dens ρT A.extra ++ gl) := by
           rw [← hhv]; unfold St.ok at k1; have hF : (H.at_ (S.nv + (H.srts.length + A.gh)) r (vars S.nv H.srts.length ++ (A.extra ++ vars (S.nv + H.srts.length) A.gh))).upto (H.at_ (S.nv + (H.srts.length + A.gh)) r (vars S.nv H.srts.length ++ (A.extra ++ vars (S.nv + H.srts.length) A.gh))).nv = true := k1; unfold St.upto at hF; simp only [Bool.and_eq_true, List.all_eq_true] at hF; have := hF.1.1.2 (.inv r (vars S.nv H.srts.length ++ (A.extra ++ vars (S.nv + H.srts.length) A.gh))) (List.mem_append_right _ (List.mem_singleton.2 rfl)); exact dens_alike (g3.trans al3 g4) _ this
          rw [← this]; rw [hd] at i3; exact i3
         ·exact g1.elim
        ·exact g1.elim
       | exit id => exact hK (.exit id) T' β'' ρ'' a' w' g1 g2 g5 g6
       | ret => exact hK .ret T' β'' ρ'' a' w' g1 g2 g5 g6
      ·exact h.elim
     ·exact h.elim
 | exit id => intro Q _ S k β ρ a w d h hK; exact wp_exit (hK (.exit id) S β ρ a w h d (Alike.refl _ _) (Nat.le_refl _))
 | ret => intro Q _ S k β ρ a w d h hK; exact wp_ret (hK .ret S β ρ a w h d (Alike.refl _ _) (Nat.le_refl _))
 | rangeFunc => intro Q _ S k β ρ a w d h hK; exact h.elim
 | scope => intro Q _ S k β ρ a w d h hK; exact h.elim
 | goto => intro Q _ S k β ρ a w d h hK; exact h.elim
 | refuse => intro Q _ S k β ρ a w d h hK; exact h.elim
def resF (tm : Array Value) : ResultVar → Sem Value
 | .tmp t => pure (tm.getD t undef)
 | .cell a t => do loadVar t (← asAddr (tm.getD a undef))
theorem results_eq (fn : Func) (tm : Array Value) : results fn tm = (do let vs ← fn.results.mapM (resF tm); pure (if h : vs.size = 1 then vs[0] else .tuple vs)) := by
 unfold results
 first
  | rfl
  | (congr 1)
theorem resS_den {S : St} {β : Beta} {ρ : Nat → U} {a : Act} {w : World} (d : Den σ S β ρ w0 a w) : ∀ (l : List ResultVar) (vs : List SV1), resS P S l = some vs → (l.mapM (resF a.tmps)).run P w = .ok (vs.map (SV1.den β ρ)) w
 | [], vs, h => by
  injection h with h; subst h
  rfl
 | .tmp t :: l, vs, h => by
  unfold resS at h; split at h
  ·next v vs' hv hl =>
   injection h with h; subst h
   have e : (resF a.tmps (.tmp t)).run P w = .ok (v.den β ρ) w := by
    have := d.fr t _ hv; show (pure (a.tmps.getD t undef) : Sem Value).run P w = _; rw [Array.getD_eq_getD_getElem?, this]; rfl
   rw [List.mapM_cons]; simp only [Sem.run_bind, e, Result.andThen_ok, resS_den d l vs' hl, Sem.run_pure]; rfl
  ·cases h
 | .cell x t :: l, vs, h => by
  unfold resS at h; split at h
  ·next m off vs' hv hl =>
   split at h
   ·next bt cs hb =>
    rw [Option.map_eq_some_iff] at h; obtain ⟨v, hp, rfl⟩ := h; have e : (resF a.tmps (.cell x t)).run P w = .ok (v.den β ρ) w := by
     have := d.fr x _ hv; show (do loadVar t (← asAddr (a.tmps.getD x undef)) : Sem Value).run P w = _; rw [Array.getD_eq_getD_getElem?, this]; have e2 : (SV.s (.one (.own m off))).den β ρ = .pointer (some ⟨β.blk m, off, none⟩) := rfl; rw [e2]; simp only [Option.getD_some, asAddr, Sem.run_bind, Sem.run_pure, Result.andThen_ok]; exact load_own β ρ hp (d.bk _ (lookup_blk hb)).1
    rw [List.mapM_cons]; simp only [Sem.run_bind, e, Result.andThen_ok, resS_den d l vs' hl, Sem.run_pure]; rfl
   ·cases h
  ·cases h
def noBeta : Beta := { blk := fun _ => 0, row := fun _ => (none, 0), junk := fun _ => undef }
def Srt.norm : Srt → U → U
 | .i, x => .i x.I | .n, x => .n x.N | .b, x => .b x.B | .s, x => .s x.S | .p, x => .p x.P | .l, x => .l x.L | .v, x => .v x.V | .g, x => x
def rhoOf (us : List U) (l : List Srt) : Nat → U := fun j => (l.getD j .i).norm (at_ us j)
theorem getD_app {a b : List Srt} {k : Nat} : (a ++ b).getD (a.length + k) .i = b.getD k .i := by
 rw [List.getD_eq_getElem?_getD, List.getD_eq_getElem?_getD, List.getElem?_append_right (by omega)]
 congr 2
 omega
theorem rho_fresh {us : List U} (l : Lf) (pre post : List Srt) : (l.fresh pre.length).den noBeta (rhoOf us (pre ++ l.srts ++ post)) = l.val1 us pre.length := by
 have h : ∀ j, (pre ++ l.srts ++ post).getD (pre.length + j) .i = (l.srts ++ post).getD j .i := fun j => by rw [List.append_assoc]; exact getD_app
 have h0 := h 0; have h1 := h 1; have h2 := h 2; rw [Nat.add_zero] at h0; cases l <;> simp only [Lf.fresh, C1.den, Lf.val1, X.den, rhoOf, h0, h1, h2] <;> rfl
theorem srts_len (l : Lf) : l.srts.length = l.ar := by cases l <;> rfl
theorem rho_freshs {us : List U} : ∀ (ls : List Lf) (pre post : List Srt), (freshs pre.length ls).map (C1.den noBeta (rhoOf us (pre ++ lfsSrts ls ++ post))) = lfsV us pre.length ls
 | [], _, _ => rfl
 | l :: ls, pre, post => by
  have h1 := rho_fresh (us := us) l pre (lfsSrts ls ++ post); have h2 := rho_freshs (us := us) ls (pre ++ l.srts) post; have e : pre ++ lfsSrts (l :: ls) ++ post = pre ++ l.srts ++ (lfsSrts ls ++ post) := by unfold lfsSrts; simp
  have e2 : pre ++ l.srts ++ lfsSrts ls ++ post = pre ++ l.srts ++ (lfsSrts ls ++ post) := by simp
  rw [e]; rw [e2, List.length_append, srts_len] at h2; unfold freshs lfsV; rw [List.map_cons, h1, h2]
theorem rho_sh {us : List U} (s : Sh) (pre post : List Srt) : (s.fresh pre.length).den noBeta (rhoOf us (pre ++ lfsSrts s.lfs ++ post)) = s.val1 us pre.length := by
 cases s with
 | one l =>
  have := rho_fresh (us := us) l pre post; simp only [Sh.lfs, lfsSrts, List.flatMap_cons, List.flatMap_nil, List.append_nil]; exact this
 | agg ls =>
  have := rho_freshs (us := us) ls pre post; simp only [Sh.fresh, SV1.den, Sh.val1, Sh.lfs, this]
theorem rho_shs {us : List U} : ∀ (ss : List Sh) (pre post : List Srt), (shsFresh pre.length ss).map (SV1.den noBeta (rhoOf us (pre ++ lfsSrts (shsLfs ss) ++ post))) = shsV us pre.length ss
 | [], _, _ => rfl
 | s :: ss, pre, post => by
  have h1 := rho_sh (us := us) s pre (lfsSrts (shsLfs ss) ++ post); have h2 := rho_shs (us := us) ss (pre ++ lfsSrts s.lfs) post; have e : pre ++ lfsSrts (shsLfs (s :: ss)) ++ post = pre ++ lfsSrts s.lfs ++ (lfsSrts (shsLfs ss) ++ post) := by unfold lfsSrts shsLfs; simp
  have e2 : pre ++ lfsSrts s.lfs ++ lfsSrts (shsLfs ss) ++ post = pre ++ lfsSrts s.lfs ++ (lfsSrts (shsLfs ss) ++ post) := by simp
  rw [e]; rw [e2, List.length_append, srts_ar] at h2; unfold shsFresh shsV; rw [List.map_cons, h1, h2]
theorem fresh_beta (β : Beta) (ρ : Nat → U) (l : Lf) (n : Nat) : (l.fresh n).den β ρ = (l.fresh n).den noBeta ρ := by cases l <;> rfl
theorem freshs_beta (β : Beta) (ρ : Nat → U) : ∀ (ls : List Lf) (n : Nat), (freshs n ls).map (C1.den β ρ) = (freshs n ls).map (C1.den noBeta ρ)
 | [], _ => rfl
 | l :: ls, n => by
  unfold freshs; rw [List.map_cons, List.map_cons, fresh_beta, freshs_beta β ρ ls]
theorem sfresh_beta (β : Beta) (ρ : Nat → U) (s : Sh) (n : Nat) : (s.fresh n).den β ρ = (s.fresh n).den noBeta ρ := by
 cases s with
 | one l => exact fresh_beta β ρ l n
 | agg ls => simp only [Sh.fresh, SV1.den, freshs_beta β ρ ls]
theorem shsfresh_beta (β : Beta) (ρ : Nat → U) : ∀ (ss : List Sh) (n : Nat), (shsFresh n ss).map (SV1.den β ρ) = (shsFresh n ss).map (SV1.den noBeta ρ)
 | [], _ => rfl
 | s :: ss, n => by
  unfold shsFresh; rw [List.map_cons, List.map_cons, sfresh_beta, shsfresh_beta β ρ ss]
def betaOf (ln : List (Nat × Nat)) : Beta := { blk := fun m => (ln.lookup m).getD 0, row := fun _ => (none, 0), junk := fun _ => undef }
theorem zipn_lookup : ∀ (ns : List Nat) (bs : List Nat), ns.Nodup → ∀ (i : Nat) (m : Nat) (b : Nat), ns[i]? = some m → bs[i]? = some b → (ns.zip bs).lookup m = some b
 | [], _, _, i, p, b, h, _ => by simp at h
 | q :: M, [], _, i, p, b, _, h => by simp at h
 | q :: M, c :: bs, hn, 0, p, b, h, h' => by
  simp only [List.getElem?_cons_zero, Option.some.injEq] at h h'; subst h; subst h'; simp
 | q :: M, c :: bs, hn, i + 1, p, b, h, h' => by
  rw [List.nodup_cons] at hn; simp only [List.getElem?_cons_succ] at h h'; have hm : p ∈ M := List.mem_of_getElem? h; have hne : p ≠ q := fun e => hn.1 (e ▸ hm)
  rw [List.zip_cons_cons, List.lookup_cons]; have hb : (p == q) = false := by simpa using hne
  simp only [hb]; exact zipn_lookup M bs hn.2 i p b h h'
theorem zip_lookup_none : ∀ (l : List Nat) (bs : List Nat) (m : Nat), l.contains m = false → (l.zip bs).lookup m = none
 | [], _, _, _ => rfl
 | x :: l, [], _, _ => rfl
 | x :: l, b :: bs, m, h => by
  simp only [List.contains_cons, Bool.or_eq_false_iff] at h; rw [List.zip_cons_cons, List.lookup_cons]; simp only [h.1]; exact zip_lookup_none l bs m h.2
theorem lent_start {us : List U} {w : World} {vals : List Value} {post : List Srt} {ln : List (Nat × Nat)} {ρ : Nat → U} : ∀ (M : List (Nat × Nat)) (lls : List (List Lf)) (bs : List Nat) (pre : List Srt), LentAt w vals us pre.length M lls bs → (∀ (i : Nat) (p : Nat × Nat) (b : Nat), M[i]? = some p → bs[i]? = some b → ln.lookup p.1 = some b) → ρ = rhoOf us (pre ++ lfsSrts lls.flatten ++ post) →
  (∀ q ∈ lentB M lls pre.length, w.heap[(betaOf ln).blk q.1]? = some (.cells (q.2.2.map (C1.den (betaOf ln) ρ)).toArray q.2.1 (0, 0)) ∧ ln.lookup q.1 = some ((betaOf ln).blk q.1)) ∧ (lentB M lls pre.length).map (fun q => (betaOf ln).blk q.1) = bs ∧ ∀ p ∈ M, vals[p.1]? = some (.pointer (some ⟨(betaOf ln).blk p.1, 0, none⟩))
 | [], [], [], pre, _, _, _ => ⟨(fun q hq => by cases hq), rfl, (fun p hp => by cases hp)⟩
 | [], [], _ :: _, _, h, _, _ => h.elim
 | [], _ :: _, _, _, h, _, _ => h.elim
 | _ :: _, [], _, _, h, _, _ => h.elim
 | _ :: _, _ :: _, [], _, h, _, _ => h.elim
 | p :: M, lf :: lls, b :: bs, pre, h, hln, hρ => by
  obtain ⟨h1, h2, h3⟩ := h; have hb : (betaOf ln).blk p.1 = b := by
   show (ln.lookup p.1).getD 0 = b; rw [hln 0 p b rfl rfl]; rfl
  have hlen : (pre ++ lfsSrts lf).length = pre.length + lfsAr lf := by rw [List.length_append, srts_ar]
  have hρ2 : ρ = rhoOf us ((pre ++ lfsSrts lf) ++ lfsSrts lls.flatten ++ post) := by
   rw [hρ, List.flatten_cons]; unfold lfsSrts; rw [List.flatMap_append]; simp only [List.append_assoc]
  obtain ⟨g1, g2, g3⟩ := lent_start M lls bs (pre ++ lfsSrts lf) (by rw [hlen]; exact h3) (fun i q c hq hc => hln (i + 1) q c (by simpa using hq) (by simpa using hc)) hρ2; rw [hlen] at g1 g2; have hv : (freshs pre.length lf).map (C1.den (betaOf ln) ρ) = lfsV us pre.length lf := by
   rw [freshs_beta, hρ2]; have := rho_freshs (us := us) lf pre (lfsSrts lls.flatten ++ post); rw [← List.append_assoc] at this; exact this
  refine ⟨fun q hq => ?_, ?_, fun q hq => ?_⟩
  ·rcases List.mem_cons.1 hq with rfl | hq
   ·exact ⟨by rw [hb, h2, ← hv], by rw [hb]; exact hln 0 p b rfl rfl⟩
   ·exact g1 q hq
  ·show (betaOf ln).blk p.1 :: _ = _; rw [hb, g2]
  ·rcases List.mem_cons.1 hq with rfl | hq
   ·rw [hb]; exact h1
   ·exact g3 q hq
theorem start_den {fn : Func} {pin : List Sh} {us : List U} {own : Nat} {M : List (Nat × Nat)} {nr : Nat} {lls : List (List Lf)} {bs : List Nat} {gs : List Srt} (hdf : σ.df = []) (hpin : pin.length = fn.params.size) (hb : σ.base = w0.heap.size) (hpre : ∀ u, Kept σ.lent σ.base w0 u → σ.pre0 u)
  (hbs : bs.Nodup) (hln : ∀ (i : Nat) (p : Nat × Nat) (b : Nat), M[i]? = some p → bs[i]? = some b → σ.lnames.lookup p.1 = some b) (hlent : LentAt w0 (shsV us 0 pin) us (lfsAr (shsLfs pin) + nr) M lls bs) :
  foot (betaOf σ.lnames) (start fn pin own M nr lls) = bs ∧ Den σ (start fn pin own M nr lls) (betaOf σ.lnames) (rhoOf us (lfsSrts (shsLfs pin) ++ (List.replicate nr .l ++ (lfsSrts lls.flatten ++ gs)))) w0 { tmps := (shsV us 0 pin).toArray ++ Array.replicate (fn.ntmps - (shsV us 0 pin).toArray.size) undef, defers := [] } w0 := by
 have hlen : ∀ (ss : List Sh) (k : Nat), (shsV us k ss).length = ss.length := by
  intro ss
  induction ss with
  | nil => intro _; rfl
  | cons s ss ih => intro k; show (shsV us _ ss).length + 1 = _; rw [ih]; rfl
 have hpl : (lfsSrts (shsLfs pin) ++ List.replicate nr Srt.l).length = lfsAr (shsLfs pin) + nr := by rw [List.length_append, srts_ar, List.length_replicate]
 obtain ⟨l1, l2, l3⟩ := lent_start (ρ := rhoOf us (lfsSrts (shsLfs pin) ++ (List.replicate nr Srt.l ++ (lfsSrts lls.flatten ++ gs)))) (post := gs) (ln := σ.lnames) M lls bs (lfsSrts (shsLfs pin) ++ List.replicate nr Srt.l) (by rw [hpl]; exact hlent) hln (by simp only [List.append_assoc]); rw [hpl] at l1 l2; have hval : (shsFresh 0 pin).map (SV1.den (betaOf σ.lnames) (rhoOf us (lfsSrts (shsLfs pin) ++ (List.replicate nr Srt.l ++ (lfsSrts lls.flatten ++ gs))))) = shsV us 0 pin := by
  rw [shsfresh_beta]; have := rho_shs (us := us) pin [] (List.replicate nr Srt.l ++ (lfsSrts lls.flatten ++ gs)); simpa using this
 have hfoot : foot (betaOf σ.lnames) (start fn pin own M nr lls) = bs := by
  show (lentB M lls (lfsAr (shsLfs pin) + nr)).map (fun q : Nat × Nat × List C1 => (betaOf σ.lnames).blk q.1) ++ [] = bs; rw [l2, List.append_nil]
 refine ⟨hfoot, hdf.symm, ?_, ?_, (fun q hq => ⟨(l1 q hq).1, ?_⟩), (fun q hq => by cases hq), by rw [hfoot]; exact hbs, List.nodup_nil, (fun q hq => by cases hq), ?_, (fun q hq => by cases hq), Kept.refl _ _ _⟩
 ·rw [Array.size_append, Array.size_replicate, List.size_toArray, hlen, hpin]; show _ = max _ _; omega
 ·intro t v hvv; have hvv : ((shsFresh 0 pin).zipIdx.map fun p => (p.2, SV.s (if (M.map (·.1)).contains p.2 then .one (.own p.2 0) else p.1))).lookup t = some v := hvv; have hm := lookup_mem hvv; obtain ⟨p, hp, he⟩ := List.mem_map.1 hm; injection he with h1 h2
  subst h1; subst h2; have hg := List.mem_zipIdx_iff_getElem?.1 hp; have hv0 : (shsV us 0 pin)[p.2]? = some (p.1.den (betaOf σ.lnames) (rhoOf us (lfsSrts (shsLfs pin) ++ (List.replicate nr Srt.l ++ (lfsSrts lls.flatten ++ gs))))) := by
   rw [← hval, List.getElem?_map, hg]; rfl
  have hlt : p.2 < (shsV us 0 pin).length := by
   rcases Nat.lt_or_ge p.2 (shsV us 0 pin).length with h | h
   ·exact h
   ·rw [List.getElem?_eq_none h] at hv0; cases hv0
  show ((shsV us 0 pin).toArray ++ _)[p.2]? = _; rw [Array.getElem?_append_left (by simpa using hlt)]; split
  ·next hc =>
   rw [List.contains_iff_mem] at hc; obtain ⟨x, hx, hxe⟩ := List.mem_map.1 hc; have := l3 x hx; rw [hxe] at this; simpa [SV.den, SV1.den, C1.den] using this
  ·simpa [SV.den] using hv0
 ·unfold Sm.mineAt; rw [(l1 q hq).2]
 ·intro F hF u hp _; have : F = .pre := List.mem_singleton.1 hF; subst this; exact hp
theorem rows_start {nb : Nat → Option Nat} {β : Beta} {ρ : Nat → U} {us : List U} {w : World} (hb : ∀ m b, nb m = some b → β.blk m = b) : ∀ (R : List (Nat × Nat × Nat)) (As : List (Option Addr)) (k : Nat), RowsAt P w us nb k R As → (∀ i, i < R.length → (ρ (k + i)).L = (at_ us (k + i)).L) → (∀ (i : Nat) (q : Nat × Nat × Nat) (p : Addr), R[i]? = some q → As[i]? = some (some p) → σ.rowAt (cname q.1 q.2.1) p.block) → ClaimsAt P σ β ρ w (mclaims R) (vars k R.length) As
 | [], [], _, _, _, _ => trivial
 | [], _ :: _, _, h, _, _ => h.elim
 | _ :: _, [], _, h, _, _ => h.elim
 | q :: R, A :: As, k, h, hρ, hat => by
  obtain ⟨⟨b, i, n, c, h1, h2, h3, h4⟩, h⟩ := h; refine ⟨⟨⟨i, n, c, h2, ?_, ?_⟩, fun p hp => hat 0 q p rfl (by rw [hp]; rfl)⟩, rows_start hb R As (k + 1) h (fun j hj => ?_) fun j q' p h5 h6 => hat (j + 1) q' p (by simpa using h5) (by simpa using h6)⟩
  ·show w.cell? ⟨β.blk q.1, q.2.1, none⟩ = _; rw [hb _ _ h1]; exact h3
  ·show w.ownsRow 0 q.2.2 i.size _ n (ρ k).L; have := hρ 0 (by simp); rw [Nat.add_zero] at this; rw [this]; exact h4
  ·have := hρ (j + 1) (by simp; omega); rw [show k + 1 + j = k + (j + 1) by omega]; exact this
theorem catX_typedL {S : St} (ρ : Nat → U) : ∀ (ls : List (List C1)) (lls : List (List Lf)), (ls.map (flat S)).map (Option.map (·.1)) = lls.map some → (dens ρ (catX (ls.map (flat S)))).map U.srt = lfsSrts lls.flatten
 | [], lls, h => by
  cases lls with
  | nil => rfl
  | cons x l => cases h
 | q :: ls, lls, h => by
  cases lls with
  | nil => cases h
  | cons lf lls =>
   simp only [List.map_cons, List.cons.injEq] at h; obtain ⟨h1, h2⟩ := h; rw [Option.map_eq_some_iff] at h1; obtain ⟨⟨lf', ys⟩, hfl, rfl⟩ := h1; simp only [List.map_cons, hfl, catX_cons, dens_append, List.map_append, List.flatten_cons]; rw [flat_typed ρ q lf' ys hfl, catX_typedL ρ ls lls h2]; unfold lfsSrts; rw [List.flatMap_append]
theorem lent_final {S : St} {β : Beta} {ρ : Nat → U} {a : Act} {w : World} (d : Den σ S β ρ w0 a w) {vals : List Value} {us : List U} : ∀ (M : List (Nat × Nat)) (lls : List (List Lf)) (bs : List Nat) (l : List (List C1)) (k : Nat) (pre : List U), LentAt w0 vals us k M lls bs → lentS S M = some l → (l.map (flat S)).map (Option.map (·.1)) = lls.map some → (∀ (i : Nat) (p : Nat × Nat) (b : Nat), M[i]? = some p → bs[i]? = some b → σ.lnames.lookup p.1 = some b) →
  LentAt w vals (pre ++ dens ρ (catX (l.map (flat S)))) pre.length M lls bs
 | [], [], [], l, k, pre, _, _, _, _ => trivial
 | [], [], _ :: _, _, _, _, h, _, _, _ => h.elim
 | [], _ :: _, _, _, _, _, h, _, _, _ => h.elim
 | _ :: _, [], _, _, _, _, h, _, _, _ => h.elim
 | _ :: _, _ :: _, [], _, _, _, h, _, _, _ => h.elim
 | p :: M, lf :: lls, b :: bs, l, k, pre, h, hl, hf, hln => by
  obtain ⟨h1, h2, h3⟩ := h; unfold lentS at hl; split at hl
  ·next t cs l' hb hl' =>
   split at hl
   ·next ht =>
    subst ht; injection hl with hl
    subst hl; simp only [List.map_cons, List.cons.injEq] at hf; obtain ⟨hf1, hf2⟩ := hf; rw [Option.map_eq_some_iff] at hf1; obtain ⟨⟨lf', ys⟩, hfl, rfl⟩ := hf1; obtain ⟨d1, d2⟩ := flat_den (β := β) (ρ := ρ) d.ex cs lf' ys hfl; have ih := lent_final d M lls bs l' _ (pre ++ dens ρ ys) h3 hl' hf2 fun i q c hq hc => hln (i + 1) q c (by simpa using hq) (by simpa using hc)
    have hbk := d.bk _ (lookup_mem hb); have hbb : β.blk p.1 = b := by
     have := hbk.2; unfold Sm.mineAt at this; rw [hln 0 p b rfl rfl] at this; exact this
    simp only [List.map_cons, hfl, catX_cons, dens_append]; refine ⟨h1, ?_, ?_⟩
    ·rw [← hbb, hbk.1]
     congr 3
     show _ = lfsV _ _ lf'; rw [show pre.length = pre.length + 0 from rfl, lfsV_app, lfsV_pre _ _ _ _ (by rw [dens_len', d2]; omega), d1]
    ·rw [List.length_append, dens_len', d2] at ih; simpa [List.append_assoc] using ih
   ·cases hl
  ·cases hl
theorem retires_row {r : RowS} : ∀ {ms : List Nat} {S S' : St}, r.m ∉ ms → retires ms S = some S' → r ∈ S.row → r ∈ S'.row
 | [], S, S', _, h, hr => by injection h with h; subst h; exact hr
 | m :: ms, S, S', hm, h, hr => by
  unfold retires at h; rw [Option.bind_eq_some_iff] at h; obtain ⟨S1, h1, h2⟩ := h; refine retires_row (fun h => hm (List.mem_cons_of_mem _ h)) h2 ?_; unfold retire at h1; split at h1
  ·injection h1 with h1
   subst h1; exact List.mem_filter.2 ⟨hr, by simpa using fun e : r.m = m => hm (by rw [e]; exact List.mem_cons_self ..)⟩
  ·cases h1
theorem lookup_bOf {M : List (Nat × Nat)} {bs : List Nat} (hln : ∀ (i : Nat) (p : Nat × Nat) (b : Nat), M[i]? = some p → bs[i]? = some b → σ.lnames.lookup p.1 = some b) {m b : Nat} (h : bOf M bs m = some b) : σ.lnames.lookup m = some b := by
 unfold bOf at h; have hm := lookup_mem h; obtain ⟨i, hi⟩ := List.mem_iff_getElem?.1 hm; rw [List.getElem?_zip_eq_some] at hi; obtain ⟨h1, h2⟩ := hi; rw [List.getElem?_map, Option.map_eq_some_iff] at h1; obtain ⟨p, hp, e⟩ := h1; have e : p.1 = m := e; rw [← e]; exact hln i p b hp h2
theorem lent_blks {S : St} {β : Beta} {ρ : Nat → U} {a : Act} {w : World} (d : Den σ S β ρ w0 a w) {vals : List Value} {us : List U} : ∀ {M : List (Nat × Nat)} {lls : List (List Lf)} {bs : List Nat} {l : List (List C1)} {k : Nat}, LentAt w0 vals us k M lls bs → lentS S M = some l → (∀ (i : Nat) (p : Nat × Nat) (b : Nat), M[i]? = some p → bs[i]? = some b → σ.lnames.lookup p.1 = some b) → ∀ b ∈ bs, ∃ q ∈ S.blk, β.blk q.1 = b
 | [], [], [], l, k, _, _, _, b, hb => by cases hb
 | [], [], _ :: _, _, _, h, _, _, _, _ => h.elim
 | [], _ :: _, _, _, _, h, _, _, _, _ => h.elim
 | _ :: _, [], _, _, _, h, _, _, _, _ => h.elim
 | _ :: _, _ :: _, [], _, _, h, _, _, _, _ => h.elim
 | p :: M, lf :: lls, b :: bs, l, k, h, hl, hln, x, hx => by
  unfold lentS at hl; split at hl
  ·next t cs l' hb hl' =>
   rcases List.mem_cons.1 hx with rfl | hx
   ·refine ⟨_, lookup_mem hb, ?_⟩; have := (d.bk _ (lookup_mem hb)).2; unfold Sm.mineAt at this; rw [hln 0 p x rfl rfl] at this; exact this
   ·exact lent_blks d h.2.2 hl' (fun i q c hq hc => hln (i + 1) q c (by simpa using hq) (by simpa using hc)) x hx
  ·cases hl
theorem rows_final {S : St} {β : Beta} {ρ : Nat → U} {a : Act} {w : World} (d : Den σ S β ρ w0 a w) {us0 : List U} {nb : Nat → Option Nat} (hlk : ∀ m b, nb m = some b → σ.lnames.lookup m = some b) : ∀ (R : List (Nat × Nat × Nat)) (As : List (Option Addr)) (rx : List X) (k : Nat) (pre post : List U), RowsAt P w0 us0 nb k R As → rowsS P S R = some rx →
  RowsAt P w (pre ++ (dens ρ rx ++ post)) nb pre.length R (R.map fun q => (β.row (cname q.1 q.2.1)).1) ∧ (dens ρ rx).map U.srt = List.replicate R.length .l ∧ ∀ q ∈ R, ∃ r, S.rowOf (cname q.1 q.2.1) = some r
 | [], [], rx, k, pre, post, _, h => by
  unfold rowsS at h; injection h with h
  subst h; exact ⟨trivial, rfl, fun _ h => by cases h⟩
 | [], _ :: _, _, _, _, _, h, _ => h.elim
 | _ :: _, [], _, _, _, _, h, _ => h.elim
 | q :: R, A :: As, rx, k, pre, post, h0, h => by
  obtain ⟨⟨b, i0, n0, c0, g1, g2, g3, g4⟩, h0⟩ := h0; unfold rowsS at h; split at h
  ·next t cs r i l hb hr hi hl =>
   split at h
   ·next hc =>
    obtain ⟨hc1, hc2, hc3⟩ := hc; injection h with h
    subst h; obtain ⟨f1, f2, f3⟩ := rows_final d hlk R As l (k + 1) (pre ++ [.l (r.xs.den ρ).L]) post h0 hl; have hbk := d.bk _ (lookup_mem hb); have hbb : β.blk q.1 = b := by
     have := hbk.2; unfold Sm.mineAt at this; rw [hlk _ _ g1] at this; exact this
    have hrow := (d.rw r (rowOf_mem hr)).1; rw [rowOf_m hr, hc2, hc3] at hrow; refine ⟨⟨⟨b, i, (r.n.den ρ).N, (β.row (cname q.1 q.2.1)).2, g1, hi, ?_, ?_⟩, ?_⟩, ?_, fun x hx => ?_⟩
    ·rw [← hbb, cell_of_row w _ _ _ _ _ hbk.1, cells_get, hc1]; rfl
    ·have : at_ (pre ++ (dens ρ (.un (.co .l) r.xs :: l) ++ post)) pre.length = .l (r.xs.den ρ).L := by
      rw [show pre.length = pre.length + 0 from rfl, at_app]; rfl
     rw [this]; exact hrow
    ·rw [List.length_append, List.append_assoc] at f1; exact f1
    ·show Srt.l :: (dens ρ l).map U.srt = _; rw [f2]; rfl
    ·rcases List.mem_cons.1 hx with rfl | hx
     ·exact ⟨r, hr⟩
     ·exact f3 x hx
   ·cases h
  ·cases h
theorem moved_final {S : St} {β : Beta} {ρ : Nat → U} {a : Act} {w : World} (d : Den σ S β ρ w0 a w) (hbase : σ.base = w0.heap.size) {bs : List Nat} (hbb : ∀ b ∈ bs, ∃ q ∈ S.blk, β.blk q.1 = b) {R0 : List (Nat × Nat × Nat)} {As0 : List (Option Addr)} {us0 : List U} {nb : Nat → Option Nat}
  (hrn : ∀ (i : Nat) (q : Nat × Nat × Nat) (A : Option Addr), R0[i]? = some q → As0[i]? = some A → ∃ b, σ.lnames.lookup (cname q.1 q.2.1) = some b ∧ ((∃ p, A = some p ∧ p.block = b) ∨ b ∈ bs)) :
  ∀ (R : List (Nat × Nat × Nat)) (As : List (Option Addr)) (k : Nat), RowsAt P w0 us0 nb k R As → (∀ q ∈ R, ∃ r, S.rowOf (cname q.1 q.2.1) = some r) → (∀ i : Nat, ∃ j : Nat, (∀ q, R[i]? = some q → R0[j]? = some q) ∧ ∀ A, As[i]? = some A → As0[j]? = some A) → Moved w0.heap.size As (R.map fun q => (β.row (cname q.1 q.2.1)).1)
 | [], [], _, _, _, _ => trivial
 | [], _ :: _, _, h, _, _ => h.elim
 | _ :: _, [], _, h, _, _ => h.elim
 | q :: R, A :: As, k, h, hr, hj => by
  obtain ⟨⟨b, i, n, c, g1, g2, g3, g4⟩, h⟩ := h; refine ⟨?_, moved_final d hbase hbb hrn R As (k + 1) h (fun x hx => hr x (List.mem_cons_of_mem _ hx)) fun i => ?_⟩
  ·obtain ⟨r, hr⟩ := hr q (List.mem_cons_self ..); show (β.row (cname q.1 q.2.1)).1 = A ∨ ∀ p, (β.row (cname q.1 q.2.1)).1 = some p → w0.heap.size ≤ p.block; generalize hp : (β.row (cname q.1 q.2.1)).1 = B; cases B with
   | none => exact .inr fun p h => by cases h
   | some p =>
    rcases d.row_at (rowOf_mem hr) (by rw [rowOf_m hr]; exact hp) with e | e
    ·exact .inr fun p' h' => by injection h' with h'; subst h'; omega
    ·obtain ⟨j, j1, j2⟩ := hj 0; obtain ⟨b', e1, e2⟩ := hrn j q A (j1 q rfl) (j2 A rfl); rw [rowOf_m hr, e1] at e; injection e with e
     subst e
     rcases e2 with ⟨p0, rfl, e3⟩ | e2
     ·left; have hown := (d.rw r (rowOf_mem hr)).1; rw [rowOf_m hr] at hown; have z1 : p = ⟨p.block, 0, none⟩ := by
       rcases hown.2 with ⟨e', _⟩ | ⟨g, _, _, e', _⟩
       ·injection e' with e' _ _; rw [hp] at e'; cases e'
       ·injection e' with e' _ _; rw [hp] at e'; injection e' with e'; rw [e']
      have z2 : p0 = ⟨p0.block, 0, none⟩ := by
       rcases g4.2 with ⟨e', _⟩ | ⟨g, _, _, e', _⟩
       ·injection e' with e' _ _; cases e'
       ·injection e' with e' _ _; injection e' with e'; rw [e']
      rw [z1, z2, e3]
     ·obtain ⟨x, hx, e3⟩ := hbb _ e2; exact absurd e3.symm (d.row_ne hx (rowOf_mem hr) (by rw [rowOf_m hr]; exact hp))
  ·obtain ⟨j, j1, j2⟩ := hj (i + 1); exact ⟨j, fun q hq => j1 q (by simpa using hq), fun A hA => j2 A (by simpa using hA)⟩
theorem final_den (c : Ctx P Γ σ w0) {fn : Func} {pout : List Sh} {S : St} {β : Beta} {ρ : Nat → U} {a : Act} {w : World} {M : List (Nat × Nat)} {R : List (Nat × Nat × Nat)} {lls : List (List Lf)} {bs : List Nat} {As : List (Option Addr)} {vals : List Value} {us0 : List U} {k0 k1 : Nat} (hR : (R.map fun q => cname q.1 q.2.1).Nodup) (hbs : bs.Nodup) (hrow0 : RowsAt P w0 us0 (bOf M bs) k1 R As) (hrn : ∀ (i : Nat) (q : Nat × Nat × Nat) (A : Option Addr), R[i]? = some q → As[i]? = some A → ∃ b, σ.lnames.lookup (cname q.1 q.2.1) = some b ∧ ((∃ p, A = some p ∧ p.block = b) ∨ b ∈ bs)) {N : List Nat} (hns : ∀ m, N.contains m = false → σ.lnames.lookup m = none) (hRN : ∀ q ∈ R, cname q.1 q.2.1 ∈ N) (hlent : LentAt w0 vals us0 k0 M lls bs) (hln : ∀ (i : Nat) (p : Nat × Nat) (b : Nat), M[i]? = some p → bs[i]? = some b → σ.lnames.lookup p.1 = some b) (d : Den σ S β ρ w0 a w) (h : (final P N fn pout M R lls S).den σ ρ) : ∃ (os : List U) (Bs : List (Option Addr)), os.map U.srt = lfsSrts (shsLfs pout) ++ (List.replicate R.length .l ++ lfsSrts lls.flatten) ∧ (results fn a.tmps).run P w = .ok (resV os pout) w ∧ σ.post0 os ∧ LentAt w vals os (lfsAr (shsLfs pout) + R.length) M lls bs ∧ RowsAt P w os (bOf M bs) (lfsAr (shsLfs pout)) R Bs ∧ (bs ++ blocksOf Bs).Nodup ∧ Moved w0.heap.size As Bs ∧ (∀ u, σ.pre0 u → (∀ b, σ.base ≤ b → b < w.heap.size → b ∉ blocksOf Bs → u.heap[b]? = w.heap[b]?) → σ.fact0 os u) ∧ Kept σ.lent σ.base w0 w := by
  unfold final at h
  split at h
  · exact h.elim
  · next vs hvs =>
    dsimp only at h
    split at h
    · exact h.elim
    next hms =>
    rw [Bool.not_eq_true, List.any_eq_false] at hms
    have hms : ∀ m ∈ dedup (vs.flatMap SV1.rowNames), N.contains m = false := fun m hm => by simpa using hms m hm
    obtain ⟨S1, ρ1, hx, d1, a1, n1, e1, e2, e3, e4, e5⟩ := expose_den _ S ρ _ d h
    clear h
    split at hx
    · next shs us S2 rx hfl hS2 hrx =>
      split at hx
      · next fl hflm =>
       rw [Option.map_eq_some_iff] at hflm
       obtain ⟨ll, hll, rfl⟩ := hflm
       split at hx
       · next he =>
        obtain ⟨rfl, hef⟩ := he
        obtain ⟨d2, _, _⟩ := retires_den (fun m hm => hns m (hms m hm)) d1 hS2
        obtain ⟨f1, f2⟩ := flats_den (β := β) (ρ := ρ1) d1.ex vs _ us hfl
        have hvs1 : resS P S1 fn.results.toList = some vs := by
          rw [← hvs]
          have : ∀ l : List ResultVar, resS P S1 l = resS P S l := by
            intro l
            induction l with
            | nil => rfl
            | cons x l ih =>
              cases x with
              | tmp t => unfold resS; rw [ih]; unfold St.get; rw [e1]
              | cell x t => unfold resS; rw [ih]; unfold St.get St.block; rw [e1, e2]
          exact this _
        have hr := resS_den d1 fn.results.toList vs hvs1
        have hre : resV (dens ρ1 (us ++ (rx ++ catX (ll.map (flat S1))))) shs = resV (dens ρ1 us) shs := by
          rw [dens_append]
          unfold resV
          have h0 : lfsAr (shsLfs shs) ≤ (dens ρ1 us).length := by rw [dens_len', f2]; omega
          split
          · next s => exact shval_pre _ _ s 0 (by simpa [shsLfs] using h0)
          · rw [shsV_pre _ _ _ 0 (by omega)]
        obtain ⟨w1, w2, w3⟩ := rows_final d1 (hlk := fun m b hm => lookup_bOf hln hm) R As rx k1 (dens ρ1 us) (dens ρ1 (catX (ll.map (flat S1)))) hrow0 hrx
        have hrs : ∀ q ∈ mclaims R, ∃ r, S1.rowOf q.1 = some r := fun q hq => by
          obtain ⟨x, hx, rfl⟩ := List.mem_map.1 hq
          exact w3 x hx
        have hBs : (mclaims R).map (fun q => (β.row q.1).1) = R.map fun q => (β.row (cname q.1 q.2.1)).1 := by unfold mclaims; rw [List.map_map]; rfl
        have hnb : (blocksOf (R.map fun q => (β.row (cname q.1 q.2.1)).1)).Nodup := by
          rw [← hBs]
          exact rows_nodup d1 (by unfold mclaims; rw [List.map_map]; exact hR) hrs
        have hbb : ∀ b ∈ bs, ∃ q ∈ S1.blk, β.blk q.1 = b := lent_blks d1 hlent hll hln
        have hrb : ∀ g ∈ blocksOf (R.map fun q => (β.row (cname q.1 q.2.1)).1), ∃ r ∈ S1.row, r.m ∈ R.map (fun q => cname q.1 q.2.1) ∧ ∃ p, (β.row r.m).1 = some p ∧ p.block = g := fun g hg => by
          rw [← hBs] at hg
          obtain ⟨q, hq, p, hp, he⟩ := rows_blocks hg
          obtain ⟨r, hr⟩ := hrs q hq
          obtain ⟨x, hx, rfl⟩ := List.mem_map.1 hq
          exact ⟨r, rowOf_mem hr, by rw [rowOf_m hr]; exact List.mem_map.2 ⟨x, hx, rfl⟩, p, by rw [rowOf_m hr]; exact hp, he⟩
        have hty : (dens ρ1 (us ++ (rx ++ catX (ll.map (flat S1))))).map U.srt = lfsSrts (shsLfs shs) ++ (List.replicate R.length .l ++ lfsSrts lls.flatten) := by rw [dens_append, dens_append, List.map_append, List.map_append, flats_typed ρ1 vs _ us hfl, catX_typedL ρ1 ll lls hef, w2]
        have hpo : σ.post0 (dens ρ1 (us ++ (rx ++ catX (ll.map (flat S1))))) := hx.1
        have hnd : (bs ++ blocksOf (R.map fun q => (β.row (cname q.1 q.2.1)).1)).Nodup := by
          refine List.nodup_append.2 ⟨hbs, hnb, fun x hx y hy e => ?_⟩
          subst e
          obtain ⟨q, hq, e1⟩ := hbb x hx
          obtain ⟨r, hr, _, p, hp, e2⟩ := hrb x hy
          exact d1.row_ne hq hr hp (e2.trans e1.symm)
        have hmv := moved_final d1 c.base hbb hrn R As k1 hrow0 w3 fun i => ⟨i, fun _ h => h, fun _ h => h⟩
        refine ⟨_, _, hty, ?_, hpo, ?_, ?_, hnd, hmv, ?_, d.bl⟩
        · rw [hre, results_eq, Array.mapM_eq_mapM_toList]
          simp only [Sem.run_bind, Sem.run_map, hr, Result.andThen_ok, Sem.run_pure]
          rw [← f1]
          have hlen : ∀ (ss : List Sh) (k : Nat), (shsV (dens ρ1 us) k ss).length = ss.length := by
            intro ss
            induction ss with
            | nil => intro _; rfl
            | cons s ss ih => intro k; show (shsV (dens ρ1 us) _ ss).length + 1 = _; rw [ih]; rfl
          cases shs with
          | nil => rfl
          | cons s l =>
            cases l with
            | nil => rfl
            | cons s' l =>
              rw [dif_neg (by rw [List.size_toArray, hlen]; simp)]
              rfl
        · have := lent_final d1 M lls bs ll k0 (dens ρ1 us ++ dens ρ1 rx) hlent hll hef hln
          have hl2 : (dens ρ1 rx).length = R.length := by
            have := congrArg List.length w2
            simpa using this
          rw [List.length_append, hl2, dens_len', f2] at this
          rw [dens_append, dens_append]
          simpa only [List.append_assoc] using this
        · rw [dens_append, dens_append]
          have := w1
          rw [dens_len', f2] at this
          exact this
        · intro u hp hs
          refine given_out (hx.2 u) fun F hF => d2.fx F hF u hp fun b h1 h2 h3 => hs b h1 h2 fun h4 => h3 ?_
          obtain ⟨r, hr, hm, p, hp, e2⟩ := hrb b h4
          refine List.mem_append_right _ (List.mem_filterMap.2 ⟨r, retires_row (fun hm' => ?_) hS2 hr, by rw [hp]; exact congrArg some e2⟩)
          have := hms _ hm'
          rw [← Bool.not_eq_true, List.contains_iff_mem] at this
          obtain ⟨q, hq, e⟩ := List.mem_map.1 hm
          exact this (by rw [← e]; exact hRN q hq)
       · exact hx.elim
      · exact hx.elim
    · exact hx.elim
def rowBs (bs : List Nat) (As : List (Option Addr)) : List Nat := As.map fun A => match A with | some p => p.block | none => bs.headD 0
theorem lentAt_len {w : World} {vals : List Value} {vs : List U} : ∀ {k : Nat} {L : List (Nat × Nat)} {lls : List (List Lf)} {bs : List Nat}, LentAt w vals vs k L lls bs → bs.length = L.length
 | _, [], [], [], _ => rfl
 | _, [], [], _ :: _, h => h.elim
 | _, [], _ :: _, _, h => h.elim
 | _, _ :: _, [], _, h => h.elim
 | _, _ :: _, _ :: _, [], h => h.elim
 | k, p :: L, lf :: lls, b :: bs, h => by rw [List.length_cons, List.length_cons, lentAt_len h.2.2]
theorem calls_of_vc (c : Ctx P Γ σ w0) (hdf : σ.df = []) {f : Nat} {fn : Func} {pin pout : List Sh} (hfn : P.funcs[f]? = some fn) (hpin : shsOf P fn.params = some pin) (hpout : shsOf P fn.resultTypes = some pout) {lls : List (List Lf)} (hlls : lentsLfs P Γ.mine = some lls) (us : List U) (gs : List Srt) {bs : List Nat} {As : List (Option Addr)} (hbs : (bs ++ blocksOf As).Nodup) (hln : σ.lnames = Γ.lnm.zip (bs ++ rowBs bs As)) (hlent : LentAt w0 (shsV us 0 pin) us (lfsAr (shsLfs pin) + Γ.mrows.length) Γ.mine lls bs) (hrows : RowsAt P w0 us (bOf Γ.mine bs) (lfsAr (shsLfs pin)) Γ.mrows As) (h : (vcOf P Γ f).den σ (rhoOf us (lfsSrts (shsLfs pin) ++ (List.replicate Γ.mrows.length .l ++ (lfsSrts lls.flatten ++ gs))))) :
  Calls P f (shsV us 0 pin).toArray w0 fun e w' => (∃ (os : List U) (Bs : List (Option Addr)), os.map U.srt = lfsSrts (shsLfs pout) ++ (List.replicate Γ.mrows.length .l ++ lfsSrts lls.flatten) ∧ e = .returned (resV os pout) ∧ σ.post0 os ∧ LentAt w' (shsV us 0 pin) os (lfsAr (shsLfs pout) + Γ.mrows.length) Γ.mine lls bs ∧ RowsAt P w' os (bOf Γ.mine bs) (lfsAr (shsLfs pout)) Γ.mrows Bs ∧ (bs ++ blocksOf Bs).Nodup ∧ Moved w0.heap.size As Bs ∧ (∀ u, σ.pre0 u → (∀ b, σ.base ≤ b → b < w'.heap.size → b ∉ blocksOf Bs → u.heap[b]? = w'.heap[b]?) → σ.fact0 os u) ∧ Kept σ.lent w0.heap.size w0 w') ∨ (∃ ch, e = .panicked ch ∧ σ.pan0 ch ∧ Kept σ.lent w0.heap.size w0 w') := by
 unfold vcOf at h; rw [hfn] at h; dsimp only at h; rw [hpin, hpout, hlls] at h; split at h
 ·next pin' pout' lls' body e1 e2 e3 hbody =>
  injection e1 with e1
  injection e2 with e2
  injection e3 with e3
  subst e1; subst e2; subst e3; split at h
  ·next hM =>
   split at h
   ·exact h.elim
   next S0 hS0 =>
   refine calls_of_wp hfn hbody ?_; have hlen : pin.length = fn.params.size := by
    unfold shsOf at hpin; have : ∀ (l : List Nat) (ss : List Sh), l.mapM (shOf P) = some ss → ss.length = l.length := by
     intro l
     induction l with
     | nil => intro ss h; simp at h; subst h; rfl
     | cons x l ih =>
      intro ss h; obtain ⟨v, vs', _, hl, rfl⟩ := mapM_cons h; simp [ih _ hl]
    simpa using this _ _ hpin
   have hbl := lentAt_len hlent; have hM' : Γ.lnm.Nodup := hM; unfold Cfg.lnm at hM'; obtain ⟨_, hMR, _⟩ := List.nodup_append.1 hM'; have hln' : ∀ (i : Nat) (p : Nat × Nat) (b : Nat), Γ.mine[i]? = some p → bs[i]? = some b → σ.lnames.lookup p.1 = some b := fun i p b h1 h2 => by
    rw [hln]; refine zipn_lookup _ _ hM i p.1 b ?_ ?_
    ·unfold Cfg.lnm; rw [List.getElem?_append_left (by have := (List.getElem?_eq_some_iff.1 h1).1; simpa using this), List.getElem?_map, h1]; rfl
    ·rw [List.getElem?_append_left (List.getElem?_eq_some_iff.1 h2).1, h2]
   have hrl : ∀ (i : Nat) (q : Nat × Nat × Nat) (A : Option Addr), Γ.mrows[i]? = some q → As[i]? = some A → σ.lnames.lookup (cname q.1 q.2.1) = some (match A with | some p => p.block | none => bs.headD 0) := fun i q A h1 h2 => by
    rw [hln]; refine zipn_lookup _ _ hM (bs.length + i) _ _ ?_ ?_
    ·unfold Cfg.lnm; rw [hbl, List.getElem?_append_right (by simp), List.length_map, Nat.add_sub_cancel_left, List.getElem?_map, h1]; rfl
    ·rw [List.getElem?_append_right (by simp), Nat.add_sub_cancel_left]; unfold rowBs; rw [List.getElem?_map, h2]; rfl
   have hne : ∀ (i : Nat) (q : Nat × Nat × Nat), Γ.mrows[i]? = some q → bs.headD 0 ∈ bs := fun i q h1 => by
    cases bs with
    | nil =>
     exfalso; cases hR : Γ.mrows with
     | nil => rw [hR] at h1; simp at h1
     | cons x R =>
      rw [hR] at hrows; cases As with
      | nil => exact hrows.elim
      | cons A As =>
       obtain ⟨⟨b, _, _, _, g1, _⟩, _⟩ := hrows; unfold bOf at g1; rw [List.zip_nil_right] at g1; cases g1
    | cons b bs => exact List.mem_cons_self ..
   have hrn : ∀ (i : Nat) (q : Nat × Nat × Nat) (A : Option Addr), Γ.mrows[i]? = some q → As[i]? = some A → ∃ b, σ.lnames.lookup (cname q.1 q.2.1) = some b ∧ ((∃ p, A = some p ∧ p.block = b) ∨ b ∈ bs) := fun i q A h1 h2 => by
    refine ⟨_, hrl i q A h1 h2, ?_⟩; cases A with
    | some p => exact .inl ⟨p, rfl, rfl⟩
    | none => exact .inr (hne i q h1)
   have hRN : ∀ q ∈ Γ.mrows, cname q.1 q.2.1 ∈ Γ.lnm := fun q hq => List.mem_append_right _ (List.mem_map.2 ⟨q, hq, rfl⟩)
   obtain ⟨b1, b2, b3⟩ := List.nodup_append.1 hbs; obtain ⟨hft, ds⟩ := start_den (own := Γ.own) (gs := gs) hdf hlen c.base c.pre b1 hln' hlent; obtain ⟨β0, _, ds0, _, _, _⟩ := claims_den (mclaims Γ.mrows) (vars (lfsAr (shsLfs pin)) Γ.mrows.length) As _ S0 _ ds hS0 (rows_start (fun m b h => by
     show (σ.lnames.lookup m).getD 0 = b; rw [lookup_bOf hln' h]; rfl) Γ.mrows As _ hrows (fun i hi => by
     show (Srt.norm _ _).L = _; have : (lfsSrts (shsLfs pin) ++ (List.replicate Γ.mrows.length Srt.l ++ (lfsSrts lls.flatten ++ gs))).getD (lfsAr (shsLfs pin) + i) .i = .l := by
      have := getD_app (a := lfsSrts (shsLfs pin)) (b := List.replicate Γ.mrows.length Srt.l ++ (lfsSrts lls.flatten ++ gs)) (k := i); rw [srts_ar] at this; rw [this, List.getD_eq_getElem?_getD, List.getElem?_append_left (by simpa using hi), List.getElem?_replicate, if_pos hi]; rfl
     rw [this]; rfl) fun i q p h1 h2 => .inr (hrl i q (some p) h1 h2)) b2 (fun g hg hf => by
     rw [hft] at hf; exact b3 g hf g hg rfl) fun F hF u hp _ => by
     have : F = .pre := List.mem_singleton.1 hF; subst this; exact hp
   refine exec_den c body _ (fun ch a w hq hd hk _ => ?_) _ _ _ _ _ _ ds0 h ?_
   ·exact ⟨hd.trans hdf, .inr ⟨ch, rfl, hq, by rw [← c.base]; exact hk⟩⟩
   ·intro e S' β' ρ' a' w' g1 g2 _ _; cases e with
    | normal =>
     obtain ⟨os, Bs, h1, h2, h3, h6, h7, h8, h9, h4, h5⟩ := final_den c hMR b1 hrows hrn c.lnm hRN hlent hln' g2 g1; exact ⟨g2.df.trans hdf, _, h2,   .inl ⟨os, Bs, h1, rfl, h3, h6, h7, h8, h9, h4, by rw [← c.base]; exact h5⟩⟩
    | ret =>
     obtain ⟨os, Bs, h1, h2, h3, h6, h7, h8, h9, h4, h5⟩ := final_den c hMR b1 hrows hrn c.lnm hRN hlent hln' g2 g1; exact ⟨g2.df.trans hdf, _, h2,   .inl ⟨os, Bs, h1, rfl, h3, h6, h7, h8, h9, h4, by rw [← c.base]; exact h5⟩⟩
    | exit id => exact g1.elim
  ·exact h.elim
 ·exact h.elim
end
structure Inv where
 inv : List U → Prop
 fact : List U → World → Prop := fun _ _ => True
 mea : List U → Nat
def noCtr : Ctr := { pre := fun _ _ => False, post := fun _ _ => True, fact := fun _ _ _ => True }
def noInv : Inv := { inv := fun _ => False, mea := fun _ => 0 }
def ctrOf (l : List (Nat × Ctr)) (f : Nat) : Ctr := (l.lookup f).getD noCtr
def invOf (l : List (Nat × Inv)) (j : Nat) : Inv := (l.lookup j).getD noInv
def KeepsX (P : Program) (lsp : List (Nat × List (Nat × Nat))) (lrs : List (Nat × List (Nat × Nat × Nat))) (pans : List Nat) (f : Nat) (s : Ctr) : Prop :=
 match lsp.lookup f with
 | none => Keeps P f s
 | some L => match freshOf L with
  | some e => KeepsF P f s e
  | none => KeepsR P f ⟨s.gh, s.pre, s.post, s.fact, if pans.contains f = true then s.pan else fun _ _ => False⟩ L ((lrs.lookup f).getD [])
def KeepAll (P : Program) (lsp : List (Nat × List (Nat × Nat))) (lrs : List (Nat × List (Nat × Nat × Nat))) (pans : List Nat) : List (Nat × Ctr) → Prop
 | [] => True
 | p :: l => KeepsX P lsp lrs pans p.1 p.2 ∧ KeepAll P lsp lrs pans l
def conOf (l : List (Nat × Ctr)) : List (Nat × Nat) := l.map fun p => (p.1, p.2.gh)
theorem KeepAll.get {P : Program} {lsp : List (Nat × List (Nat × Nat))} {lrs : List (Nat × List (Nat × Nat × Nat))} {pans : List Nat} : ∀ {l : List (Nat × Ctr)}, KeepAll P lsp lrs pans l → ∀ f gh, (conOf l).lookup f = some gh → KeepsX P lsp lrs pans f (ctrOf l f) ∧ (ctrOf l f).gh = gh
 | [], _, f, gh, h => by cases h
 | p :: l, hk, f, gh, h => by
  unfold ctrOf; unfold conOf at h; rw [List.map_cons, List.lookup_cons] at h; rw [List.lookup_cons]; split at h
  ·next hb =>
   injection h with h
   have hb' : (f == p.1) = true := hb; have e : f = p.1 := by simpa using hb'
   rw [e]; exact ⟨hk.1, h⟩
  ·next hb =>
   have hb' : (f == p.1) = false := hb; exact KeepAll.get hk.2 f gh h
def smOf (specs : List (Nat × Ctr)) (s : Ctr) (invs : List (Nat × Inv)) (us : List U) (base : Nat) (ln : List (Nat × Nat) := []) : Sm :=
 { base := base, lnames := ln, pre0 := s.pre us, post0 := s.post us, fact0 := s.fact us, pre := fun f => (ctrOf specs f).pre, post := fun f => (ctrOf specs f).post, fact := fun f => (ctrOf specs f).fact, inv := fun j => (invOf invs j).inv, invF := fun j => (invOf invs j).fact, mea := fun j => (invOf invs j).mea, pan0 := s.pan us, pan := fun f => (ctrOf specs f).pan }
theorem ctx_of {P : Program} (hm : P.follows .mixedOrders = true) {s : Ctr} {specs : List (Nat × Ctr)} {Γ : Cfg} (hs : KeepAll P Γ.lents Γ.lrows Γ.pans specs) (hΓ : Γ.con = conOf specs) (hkb : Γ.keepB = []) (hnew : NewsOk P Γ.news) {invs : List (Nat × Inv)} {us : List U} {w : World} {bs : List Nat}
  (hpre : ∀ u, Kept (smOf specs s invs us w.heap.size (Γ.lnm.zip bs)).lent w.heap.size w u → s.pre us u) : Ctx P Γ (smOf specs s invs us w.heap.size (Γ.lnm.zip bs)) w :=
 ⟨fun g gh hg => by
  rw [hΓ] at hg; obtain ⟨h1, h2⟩ := hs.get g gh hg; unfold CallOk; rw [← h2]; exact h1, rfl, hpre, fun m h => zip_lookup_none _ _ m h, hm, (fun q hq => by rw [hkb] at hq; cases hq), hnew⟩
theorem keeps_of {P : Program} (hm : P.follows .mixedOrders = true) {f : Nat} {fn : Func} {pin pout : List Sh} (hfn : P.funcs[f]? = some fn) (hpin : shsOf P fn.params = some pin) (hpout : shsOf P fn.resultTypes = some pout)
  (s : Ctr) (specs : List (Nat × Ctr)) (Γ : Cfg) (hs : KeepAll P Γ.lents Γ.lrows Γ.pans specs) (hΓ : Γ.con = conOf specs) (mono : ∀ us w w', s.pre us w → Below w.heap.size w w' → s.pre us w')
  (vc : ∀ us w, us.map U.srt = lfsSrts (shsLfs pin) ++ List.replicate s.gh .g → s.pre us w → ∃ invs, (vcOf P Γ f).den (smOf specs s invs us w.heap.size) (rhoOf us (lfsSrts (shsLfs pin) ++ List.replicate s.gh .g))) (hmine : Γ.mine = [] := by rfl) (hmr : Γ.mrows = [] := by rfl) (hpan : ∀ us ch, ¬ s.pan us ch := by exact fun _ _ h => h) (hkb : Γ.keepB = [] := by rfl) (hnew : NewsOk P Γ.news := by exact newsOk_nil) : Keeps P f s := by
 intro fn' pin' pout' h1 h2 h3 us w ht hp; rw [hfn] at h1; injection h1 with h1
 subst h1; rw [hpin] at h2; injection h2 with h2
 subst h2; rw [hpout] at h3; injection h3 with h3
 subst h3; obtain ⟨invs, hvc⟩ := vc us w ht hp; have hz : Γ.lnm.zip ([] : List Nat) = [] := List.zip_nil_right; have c := ctx_of (us := us) (w := w) (invs := invs) (bs := []) (s := s) hm hs hΓ hkb hnew fun u hu => mono us w u hp (hu.below fun b hb => by
  obtain ⟨m, hm⟩ := hb; have hm : (Γ.lnm.zip ([] : List Nat)).lookup m = some b := hm; rw [hz] at hm; cases hm)
 rw [hz] at c; refine (calls_of_vc (lls := []) (bs := []) (As := []) c rfl hfn hpin hpout (by rw [hmine]; rfl) us _ List.nodup_nil (by show [] = Γ.lnm.zip []; rw [hz]) (by rw [hmine]; trivial) (by rw [hmr]; trivial) (by rw [hmr]; exact hvc)).mono ?_; rw [hmr]; rintro e w' (⟨os, Bs, g1, g2, g3, _, gR, _, _, g4, g5⟩ | ⟨ch, _, g, _⟩)
 case inr => exact absurd g (hpan _ _)
 cases Bs with
 | cons B Bs => exact gR.elim
 | nil =>
 refine ⟨os, by rw [g1]; exact List.append_nil _, g2, g3, fun u hu hpu => g4 u hpu fun b h1 h2 _ => hu b h1 h2, g5.below fun b hb => ?_⟩; obtain ⟨m, hm⟩ := hb; cases hm
end Go.Proofs.Ytgjbcahpgkchfaa.Vc
