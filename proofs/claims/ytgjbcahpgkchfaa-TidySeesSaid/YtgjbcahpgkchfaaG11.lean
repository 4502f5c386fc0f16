/- Of the texts Vc3. -/
import Derived.Test.YtgjbcahpgkchfaaG05
import Derived.Test.YtgjbcahpgkchfaaG07
set_option linter.unusedSimpArgs false
set_option linter.unusedVariables false
namespace Go.Proofs.Ytgjbcahpgkchfaa.Vc
open Go Go.RowKit
theorem dens_alike {n : Nat} {ρ ρ' : Nat → U} (h : Alike n ρ ρ') : ∀ l : List X, l.all (·.upto n) = true → dens ρ' l = dens ρ l
 | [], _ => rfl
 | x :: l, hl => by
  simp only [List.all_cons, Bool.and_eq_true] at hl; show X.den ρ' x :: dens ρ' l = X.den ρ x :: dens ρ l; rw [X.den_alike h x hl.1, dens_alike h l hl.2]
theorem X.holds_alike {n : Nat} {ρ ρ' : Nat → U} (h : Alike n ρ ρ') (x : X) (hx : x.upto n = true) : x.holds ρ' ↔ x.holds ρ := by
 rw [X.holds_iff, X.holds_iff, X.den_alike h x hx]
theorem C1.den_alike {n : Nat} {ρ ρ' : Nat → U} (h : Alike n ρ ρ') (β : Beta) : ∀ c : C1, c.upto n = true → c.den β ρ' = c.den β ρ := by
 intro c hc; cases c <;> simp only [C1.upto, Bool.and_eq_true] at hc <;> simp only [C1.den]
 case slc a m k => rw [X.den_alike h _ hc.1.1, X.den_alike h _ hc.1.2, X.den_alike h _ hc.2]
 all_goals rw [X.den_alike h _ hc]
theorem cells_alike {n : Nat} {ρ ρ' : Nat → U} (h : Alike n ρ ρ') (β : Beta) : ∀ l : List C1, l.all (·.upto n) = true → l.map (C1.den β ρ') = l.map (C1.den β ρ)
 | [], _ => rfl
 | c :: l, hl => by
  simp only [List.all_cons, Bool.and_eq_true] at hl; rw [List.map_cons, List.map_cons, C1.den_alike h β c hl.1, cells_alike h β l hl.2]
theorem SV1.den_alike {n : Nat} {ρ ρ' : Nat → U} (h : Alike n ρ ρ') (β : Beta) : ∀ v : SV1, v.upto n = true → v.den β ρ' = v.den β ρ
 | .one c, hc => C1.den_alike h β c hc
 | .agg l, hl => by simp only [SV1.den, cells_alike h β l hl]
theorem SV.den_alike {n : Nat} {ρ ρ' : Nat → U} (h : Alike n ρ ρ') (β : Beta) : ∀ v : SV, v.upto n = true → v.den β ρ' = v.den β ρ
 | .s x, hx => SV1.den_alike h β x hx
 | .tup l, hl => by
  have : ∀ l : List SV1, l.all (·.upto n) = true → l.map (SV1.den β ρ') = l.map (SV1.den β ρ) := by
   intro l
   induction l with
   | nil => intro _; rfl
   | cons v l ih =>
    intro hl; simp only [List.all_cons, Bool.and_eq_true] at hl; rw [List.map_cons, List.map_cons, SV1.den_alike h β v hl.1, ih hl.2]
  simp only [SV.den, this l hl]
theorem vals_alike {n : Nat} {ρ ρ' : Nat → U} (h : Alike n ρ ρ') : ∀ l : List X, l.all (·.upto n) = true → (l.map fun x => (X.den ρ' x).V) = l.map fun x => (X.den ρ x).V
 | [], _ => rfl
 | x :: l, hl => by
  simp only [List.all_cons, Bool.and_eq_true] at hl; rw [List.map_cons, List.map_cons, X.den_alike h x hl.1, vals_alike h l hl.2]
theorem FX.den_alike {n : Nat} {ρ ρ' : Nat → U} (h : Alike n ρ ρ') (σ : Sm) (w : World) : ∀ F : FX, F.upto n = true → (F.den σ ρ' w ↔ F.den σ ρ w) := by
 intro F hF; cases F <;> simp only [FX.upto, Bool.and_eq_true] at hF <;> simp only [FX.den]
 case fact f us os => rw [dens_alike h us hF.1, dens_alike h os hF.2]
 case inv j us => rw [dens_alike h us hF]
 case row e size a m c xs => rw [X.den_alike h _ hF.1.1.1, X.den_alike h _ hF.1.1.2, X.den_alike h _ hF.1.2, X.den_alike h _ hF.2]
 case blk b t xs => rw [X.den_alike h _ hF.1, vals_alike h _ hF.2]
 case bytes a s => rw [X.den_alike h _ hF.1, X.den_alike h _ hF.2]
def foot (β : Beta) (S : St) : List Nat := S.blk.map (fun q => β.blk q.1) ++ S.row.filterMap fun r => (β.row r.m).1.map Addr.block
def Same (base : Nat) (ft : List Nat) (w w' : World) : Prop := ∀ b, base ≤ b → b < w.heap.size → b ∉ ft → w'.heap[b]? = w.heap[b]?
structure Kept (L : Nat → Prop) (B : Nat) (w w' : World) : Prop where
 os : w'.os = w.os
 tape : w'.tape = w.tape
 output : w'.output = w.output
 size : w.heap.size ≤ w'.heap.size
 block : ∀ k, k < B → ¬ L k → w'.heap[k]? = w.heap[k]?
theorem _root_.Go.RowKit.Below.kept {L : Nat → Prop} {B : Nat} {w w' : World} (h : Below B w w') : Kept L B w w' := ⟨h.os, h.tape, h.output, h.size, fun k hk _ => h.block k hk⟩
theorem Kept.below {L : Nat → Prop} {B : Nat} {w w' : World} (h : Kept L B w w') (hL : ∀ k, ¬ L k) : Below B w w' := ⟨h.os, h.tape, h.output, h.size, fun k hk => h.block k hk (hL k)⟩
theorem Kept.refl (L : Nat → Prop) (B : Nat) (w : World) : Kept L B w w := (Below.refl B w).kept
theorem Kept.trans {L : Nat → Prop} {B : Nat} {a b c : World} (h : Kept L B a b) (k : Kept L B b c) : Kept L B a c :=
 ⟨k.os.trans h.os, k.tape.trans h.tape, k.output.trans h.output, Nat.le_trans h.size k.size, fun i hi hn => (k.block i hi hn).trans (h.block i hi hn)⟩
theorem Kept.mono {L L' : Nat → Prop} {B B' : Nat} {w w' : World} (h : Kept L B w w') (hB : B' ≤ B) (hL : ∀ k, k < B' → L k → L' k) : Kept L' B' w w' := ⟨h.os, h.tape, h.output, h.size, fun k hk hn => h.block k (Nat.lt_of_lt_of_le hk hB) fun hl => hn (hL k hk hl)⟩
theorem Kept.drew {L : Nat → Prop} {B : Nat} {a w : World} (h : Kept L B a w) : Kept L B a w.drew := ⟨h.os, h.tape, h.output, h.size, h.block⟩
theorem Kept.alloc {L : Nat → Prop} {B : Nat} {a w : World} (h : Kept L B a w) (hB : B ≤ w.heap.size) (o : Obj) : Kept L B a (w.alloc o) := h.trans ((Below.refl B w).alloc hB o).kept
theorem Kept.grownL {L : Nat → Prop} {B : Nat} {a w w' : World} {row : Option Nat} (h : Kept L B a w) (hg : w.grownBy w' row) (hB : B ≤ w.heap.size) (hr : ∀ k, row = some k → B ≤ k ∨ L k) : Kept L B a w' :=
 h.trans ⟨hg.os, hg.tape, hg.output, hg.size, fun k hk hn => hg.block k (Nat.lt_of_lt_of_le hk hB) fun e => by rcases hr k e.symm with h | h; exact absurd hk (by omega); exact hn h⟩
theorem Kept.grown {L : Nat → Prop} {B : Nat} {a w w' : World} {row : Option Nat} (h : Kept L B a w) (hg : w.grownBy w' row) (hB : B ≤ w.heap.size) (hr : ∀ k, row = some k → B ≤ k) : Kept L B a w' := h.trans ((Below.refl B w).grown hg hB hr).kept
structure Den (σ : Sm) (S : St) (β : Beta) (ρ : Nat → U) (w0 : World) (a : Act) (w : World) : Prop where
 df : a.defers = σ.df
 nt : a.tmps.size = S.nt
 fr : ∀ t v, S.fr.lookup t = some v → a.tmps[t]? = some (v.den β ρ)
 bk : ∀ q ∈ S.blk, w.heap[β.blk q.1]? = some (.cells (q.2.2.map (C1.den β ρ)).toArray q.2.1 (0, 0)) ∧ σ.mineAt q.1 (β.blk q.1)
 rw : ∀ r ∈ S.row, σ.owns w r.m r.e r.size (.slice (β.row r.m).1 (r.n.den ρ).N (β.row r.m).2) (r.n.den ρ).N (r.xs.den ρ).L
 nd : (foot β S).Nodup
 rn : (S.row.map RowS.m).Nodup
 ex : ∀ e ∈ S.exp, β.row e.1 = ((e.2.1.den ρ).P, (e.2.2.den ρ).N)
 fx : ∀ F ∈ S.facts, ∀ w', σ.pre0 w' → Same σ.base (foot β S) w w' → F.den σ ρ w'
 kn : ∀ c ∈ S.known, c.holds ρ
 bl : Kept σ.lent σ.base w0 w
def KeepB (Γ : Cfg) (σ : Sm) (a : Act) (w : World) : Prop := ∀ q ∈ Γ.keepB, ∃ b cs, σ.lnames.lookup q.1 = some b ∧ a.tmps[q.1]? = some (.pointer (some ⟨b, 0, none⟩)) ∧ w.heap[b]? = some (.cells cs q.2.1 (0, 0)) ∧ cs.size = q.2.2
theorem lookup_mem {α : Type} {l : List (Nat × α)} {t : Nat} {v : α} : l.lookup t = some v → (t, v) ∈ l := by
 induction l with
 | nil => intro h; cases h
 | cons p l ih =>
  intro h; rw [List.lookup_cons] at h; split at h
  ·next hb =>
   injection h with h
   have : t = p.1 := by simpa using hb
   subst this; subst h; exact List.mem_cons_self ..
  ·exact List.mem_cons_of_mem _ (ih h)
theorem Den.alike {σ : Sm} {S : St} {β : Beta} {ρ ρ' : Nat → U} {w0 : World} {a : Act} {w : World} {n : Nat} (d : Den σ S β ρ w0 a w) (h : Alike n ρ ρ') (hS : S.upto n = true) : Den σ S β ρ' w0 a w := by
 unfold St.upto at hS; simp only [Bool.and_eq_true, List.all_eq_true] at hS; obtain ⟨⟨⟨⟨⟨h1, h2⟩, h3⟩, h4⟩, h5⟩, h6⟩ := hS; refine ⟨d.df, d.nt, ?_, ?_, ?_, d.nd, d.rn, ?_, ?_, fun c hc => (X.holds_alike h c (h6 c hc)).2 (d.kn c hc), d.bl⟩
 ·intro t v hv; rw [SV.den_alike h β v (h1 _ (lookup_mem hv))]; exact d.fr t v hv
 ·intro q hq; rw [cells_alike h β _ (List.all_eq_true.2 (h2 q hq))]; exact d.bk q hq
 ·intro r hr; have := h3 r hr; rw [X.den_alike h _ this.1, X.den_alike h _ this.2]; exact d.rw r hr
 ·intro e he; have := h5 e he; rw [X.den_alike h _ this.1, X.den_alike h _ this.2]; exact d.ex e he
 ·intro F hF w' hp hs; exact (FX.den_alike h σ w' F (h4 F hF)).2 (d.fx F hF w' hp hs)
theorem Den.nv {σ : Sm} {S : St} {β : Beta} {ρ : Nat → U} {w0 : World} {a : Act} {w : World} (d : Den σ S β ρ w0 a w) (n : Nat) : Den σ { S with nv := n } β ρ w0 a w :=
 ⟨d.df, d.nt, d.fr, d.bk, d.rw, d.nd, d.rn, d.ex, d.fx, d.kn, d.bl⟩
theorem lookup_filterSlot {α : Type} (g : Nat → Bool) : ∀ (l : List (Nat × α)) (t : Nat) (v : α), (l.filter fun p => g p.1).lookup t = some v → l.lookup t = some v ∧ g t = true
 | [], _, _, h => by cases h
 | p :: l, t, v, h => by
  rw [List.filter_cons] at h; split at h
  ·next hg =>
   rw [List.lookup_cons] at h ⊢
   split at h
   ·next hb =>
    have e : t = p.1 := by simpa using hb
    exact ⟨h, by rw [e]; exact hg⟩
   ·next hb => exact lookup_filterSlot g l t v h
  ·next hg =>
   obtain ⟨h1, h2⟩ := lookup_filterSlot g l t v h; refine ⟨?_, h2⟩; rw [List.lookup_cons]; split
   ·next hb =>
    have e : t = p.1 := by simpa using hb
    rw [e] at h2; exact absurd h2 hg
   ·exact h1
theorem tmps_put (a : Act) (d t : Nat) (v : Value) : (a.put (some d) v).tmps[t]? = if t = d then (if d < a.tmps.size then some v else none) else a.tmps[t]? := by
 show (a.tmps.setIfInBounds d v)[t]? = _
 by_cases h : t = d
 ·subst h
  by_cases hs : t < a.tmps.size
  ·simp [hs]
  ·simp [hs]
 ·rw [if_neg h, Array.getElem?_setIfInBounds_ne (Ne.symm h)]
theorem put_size (a : Act) (d : Option Nat) (v : Value) : (a.put d v).tmps.size = a.tmps.size := by
 cases d with
 | none => rfl
 | some d => simp [Act.put]
theorem Den.put {σ : Sm} {S : St} {β : Beta} {ρ : Nat → U} {w0 : World} {a : Act} {w : World} (d : Den σ S β ρ w0 a w) (dst : Option Nat) (v : SV) : Den σ (S.put dst v) β ρ w0 (a.put dst (v.den β ρ)) w := by
 cases dst with
 | none => exact d
 | some t =>
  unfold St.put; simp only; split
  ·next hlt =>
   have hlt : t < S.nt := by simpa using hlt
   refine ⟨d.df, (put_size ..).trans d.nt, ?_, d.bk, d.rw, d.nd, d.rn, d.ex, d.fx, d.kn, d.bl⟩; intro u x hx; rw [List.lookup_cons] at hx; rw [tmps_put]; split at hx
   ·next hb =>
    have e : u = t := by simpa using hb
    injection hx with hx
    subst hx; rw [if_pos e, if_pos (by rw [d.nt]; exact hlt)]
   ·next hb =>
    have e : u ≠ t := by intro e; simp [e] at hb
    rw [if_neg e]; exact d.fr u x (lookup_filterSlot (fun q => q != t) _ _ _ hx).1
  ·next hlt =>
   have hlt : ¬ t < a.tmps.size := by rw [d.nt]; simpa using hlt
   have : a.put (some t) (v.den β ρ) = a := by
    show (⟨a.tmps.setIfInBounds t _, a.defers⟩ : Act) = a; rw [Array.setIfInBounds_eq_of_size_le (by omega)]
   rw [this]; exact d
theorem Den.kill {σ : Sm} {S : St} {β : Beta} {ρ : Nat → U} {w0 : World} {a : Act} {w : World} (d : Den σ S β ρ w0 a w) (dst : Option Nat) (v : Value) : Den σ (S.kill dst) β ρ w0 (a.put dst v) w := by
 cases dst with
 | none => exact d
 | some t =>
  refine ⟨d.df, (put_size ..).trans d.nt, ?_, d.bk, d.rw, d.nd, d.rn, d.ex, d.fx, d.kn, d.bl⟩; intro u x hx; obtain ⟨h1, h2⟩ := lookup_filterSlot (fun q => q != t) _ _ _ hx; rw [tmps_put, if_neg (by simpa using h2)]; exact d.fr u x h1
theorem eval_tmp {a : Act} {t : Nat} {v : Value} (h : a.tmps[t]? = some v) : a.eval (.tmp t) = v := by
 show a.tmps.getD t undef = v; rw [Array.getD_eq_getD_getElem?, h]; rfl
theorem constC_den (β : Beta) (ρ : Nat → U) (v : Value) (c : C1) (h : constC v = some c) : c.den β ρ = v := by
 unfold constC at h; split at h <;> first | (injection h with h; subst h; rfl) | skip
 ·split at h
  ·next hc =>
   obtain ⟨rfl, rfl⟩ := hc; injection h with h; subst h; rfl
  ·cases h
 ·cases h
theorem constCs_den (β : Beta) (ρ : Nat → U) : ∀ (l : List Value) (cs : List C1), l.mapM constC = some cs → cs.map (C1.den β ρ) = l
 | [], cs, h => by
  simp at h; subst h; rfl
 | v :: l, cs, h => by
  rw [List.mapM_cons] at h; simp only [Option.bind_eq_bind, Option.bind_eq_some_iff, Option.pure_def, Option.some.injEq] at h; obtain ⟨c, hc, cs', hl, rfl⟩ := h; rw [List.map_cons, constC_den β ρ v c hc, constCs_den β ρ l cs' hl]
theorem constS_den (β : Beta) (ρ : Nat → U) (v : Value) (s : SV) (h : constS v = some s) : s.den β ρ = v := by
 unfold constS at h; split at h
 ·next cs =>
  rw [Option.map_eq_some_iff] at h; obtain ⟨l, hl, rfl⟩ := h; show Value.agg (l.map (C1.den β ρ)).toArray = _; rw [constCs_den β ρ _ _ hl]
 ·rw [Option.map_eq_some_iff] at h; obtain ⟨c, hc, rfl⟩ := h; exact constC_den β ρ _ c hc
theorem opd_den {S : St} {β : Beta} {ρ : Nat → U} {a : Act} (hfr : ∀ t v, S.fr.lookup t = some v → a.tmps[t]? = some (v.den β ρ)) {x : Operand} {v : SV} (h : S.opd x = some v) : a.eval x = v.den β ρ := by
 cases x with
 | tmp t => exact eval_tmp (hfr t v h)
 | const c => exact (constS_den β ρ c v h).symm
 | global g => cases h
 | func f =>
  injection h with h
  subst h; rfl
end Go.Proofs.Ytgjbcahpgkchfaa.Vc
