/- Of the texts Vc9, VcA. -/
import Derived.Test.YtgjbcahpgkchfaaG13
import Derived.Laws.CopyOwn
set_option linter.unusedSimpArgs false
set_option linter.unusedVariables false
namespace Go.Proofs.Ytgjbcahpgkchfaa.Vc
open Go Go.RowKit
structure Near (blks rows : Nat → Prop) (β β' : Beta) : Prop where
 blk : ∀ m, ¬ blks m → β'.blk m = β.blk m
 row : ∀ m, ¬ rows m → β'.row m = β.row m
 junk : β'.junk = β.junk
theorem C1.den_near {bs rs : Nat → Prop} {β β' : Beta} (h : Near bs rs β β') (ρ : Nat → U) (c : C1) (hb : ∀ m, c.names m = true → ¬ bs m) (hr : ∀ m, c.rows m = true → ¬ rs m) : c.den β' ρ = c.den β ρ := by
 cases c <;> simp only [C1.den]
 case own m off => rw [h.blk m (hb m (by simp [C1.names]))]
 case row m n => rw [h.row m (hr m (by simp [C1.rows]))]
 case rowp m n => rw [h.row m (hr m (by simp [C1.rows]))]
 case junk k => rw [h.junk]
 case bslc m n => rw [h.blk m (hb m (by simp [C1.names]))]
theorem cells_near {bs rs : Nat → Prop} {β β' : Beta} (h : Near bs rs β β') (ρ : Nat → U) : ∀ l : List C1, (∀ m, l.any (·.names m) = true → ¬ bs m) → (∀ m, l.any (·.rows m) = true → ¬ rs m) → l.map (C1.den β' ρ) = l.map (C1.den β ρ)
 | [], _, _ => rfl
 | c :: l, hb, hr => by
  rw [List.map_cons, List.map_cons, C1.den_near h ρ c (fun m hm => hb m (by simp [hm])) (fun m hm => hr m (by simp [hm])), cells_near h ρ l (fun m hm => hb m (by simp [hm])) (fun m hm => hr m (by simp [hm]))]
theorem SV1.den_near {bs rs : Nat → Prop} {β β' : Beta} (h : Near bs rs β β') (ρ : Nat → U) : ∀ v : SV1, (∀ m, v.any (·.names m) = true → ¬ bs m) → (∀ m, v.any (·.rows m) = true → ¬ rs m) → v.den β' ρ = v.den β ρ
 | .one c, hb, hr => C1.den_near h ρ c hb hr
 | .agg l, hb, hr => by simp only [SV1.den, cells_near h ρ l hb hr]
theorem SV.den_near {bs rs : Nat → Prop} {β β' : Beta} (h : Near bs rs β β') (ρ : Nat → U) : ∀ v : SV, (∀ m, v.any (·.names m) = true → ¬ bs m) → (∀ m, v.any (·.rows m) = true → ¬ rs m) → v.den β' ρ = v.den β ρ
 | .s x, hb, hr => SV1.den_near h ρ x hb hr
 | .tup l, hb, hr => by
  have : ∀ l : List SV1, (∀ m, l.any (·.any (·.names m)) = true → ¬ bs m) → (∀ m, l.any (·.any (·.rows m)) = true → ¬ rs m) → l.map (SV1.den β' ρ) = l.map (SV1.den β ρ) := by
   intro l
   induction l with
   | nil => intro _ _; rfl
   | cons v l ih =>
    intro hb hr; rw [List.map_cons, List.map_cons, SV1.den_near h ρ v (fun m hm => hb m (by simp [hm])) (fun m hm => hr m (by simp [hm])), ih (fun m hm => hb m (by simp only [List.any_cons, hm, Bool.or_true])) (fun m hm => hr m (by simp only [List.any_cons, hm, Bool.or_true]))]
  simp only [SV.den, this l hb hr]
theorem fx_step {σ : Sm} {ρ : Nat → U} {S : St} {ft ft' : List Nat} {w w' : World} (fx : ∀ F ∈ S.facts, ∀ u, σ.pre0 u → Same σ.base ft w u → F.den σ ρ u) (hsz : w.heap.size ≤ w'.heap.size) (hsame : ∀ b, σ.base ≤ b → b < w.heap.size → b ∉ ft → w'.heap[b]? = w.heap[b]?) (hft : ∀ b, b < w.heap.size → b ∈ ft' → b ∈ ft) : ∀ F ∈ S.facts, ∀ u, σ.pre0 u → Same σ.base ft' w' u → F.den σ ρ u :=
 fun F hF u hp hs => fx F hF u hp fun b hb hlt hn => (hs b hb (by omega) (fun hm => hn (hft b hlt hm))).trans (hsame b hb hlt hn)
theorem lt_of_some {w : World} {b : Nat} {o : Obj} (h : w.heap[b]? = some o) : b < w.heap.size := by
 rcases Nat.lt_or_ge b w.heap.size with h' | h'
 ·exact h'
 ·rw [Array.getElem?_eq_none h'] at h; cases h
section
variable {σ : Sm} {S : St} {β : Beta} {ρ : Nat → U} {w0 : World} {a : Act} {w : World}
theorem Den.foot_lt (d : Den σ S β ρ w0 a w) : ∀ b ∈ foot β S, b < w.heap.size ∧ (σ.base ≤ b ∨ σ.lent b) := by
 intro b hb; unfold foot at hb
 rcases List.mem_append.1 hb with hb | hb
 ·obtain ⟨q, hq, rfl⟩ := List.mem_map.1 hb; exact ⟨lt_of_some (d.bk q hq).1, Sm.mine_or (d.bk q hq).2⟩
 ·obtain ⟨r, hr, he⟩ := List.mem_filterMap.1 hb; have := d.rw r hr; rw [Option.map_eq_some_iff] at he; obtain ⟨A, hA, rfl⟩ := he; have hz := this.2 A.block (by rw [hA]; rfl)
  rcases this.1.2 with ⟨e, _⟩ | ⟨g, cap, cur, e, hb0, hg, _⟩
  ·injection e with e; rw [hA] at e; cases e
  ·injection e with e; rw [hA] at e; injection e with e; subst e
   exact ⟨lt_of_some hg, Sm.row_or hz⟩
theorem Den.row_at (d : Den σ S β ρ w0 a w) {r : RowS} (hr : r ∈ S.row) {p : Addr} (hA : (β.row r.m).1 = some p) : σ.rowAt r.m p.block := (d.rw r hr).2 p.block (by rw [hA]; rfl)
theorem Den.row_base (d : Den σ S β ρ w0 a w) {r : RowS} (hr : r ∈ S.row) (hm : σ.lnames.lookup r.m = none) {p : Addr} (hA : (β.row r.m).1 = some p) : σ.base ≤ p.block := by
 rcases d.row_at hr hA with h | h
 ·exact h
 ·rw [hm] at h; cases h
theorem dropBlk_spec {S1 : St} {m : Nat} (h : S.dropBlk m = some S1) : S1.nt = S.nt ∧ S1.nv = S.nv ∧ S1.row = S.row ∧ S1.facts = S.facts ∧ (S1.exp = S.exp ∧ S1.known = S.known) ∧ S1.blk = S.blk.filter (fun q => q.1 != m) ∧ S1.fr = forget (·.any (·.names m)) S.fr ∧ (∀ q ∈ S1.blk, ∀ c ∈ q.2.2, c.names m = false) := by
 unfold St.dropBlk at h; split at h
 ·cases h
 ·next hn =>
  injection h with h
  subst h; refine ⟨rfl, rfl, rfl, rfl, ⟨rfl, rfl⟩, rfl, rfl, ?_⟩; intro q hq c hc; simp only [List.mem_filter, bne_iff_ne, ne_eq] at hq; simp only [List.any_eq_true, Bool.and_eq_true, bne_iff_ne, ne_eq, not_exists, not_and] at hn; have := hn q hq.1 hq.2 c hc; simpa using this
theorem Den.less {S1 : St} (d : Den σ S β ρ w0 a w) (hnt : S1.nt = S.nt) (hfr : ∀ t v, S1.fr.lookup t = some v → S.fr.lookup t = some v) (hbk : S1.blk.Sublist S.blk) (hrow : S1.row.Sublist S.row) (hfx : ∀ F ∈ S1.facts, F ∈ S.facts) (hex : ∀ e ∈ S1.exp, e ∈ S.exp) (hkn : ∀ c ∈ S1.known, c ∈ S.known) : Den σ S1 β ρ w0 a w := by
 have hft : (foot β S1).Sublist (foot β S) := List.Sublist.append (hbk.map _) (hrow.filterMap _); exact ⟨d.df, d.nt.trans hnt.symm, fun t v h => d.fr t v (hfr t v h), fun q hq => d.bk q (hbk.subset hq), fun r hr => d.rw r (hrow.subset hr), d.nd.sublist hft, d.rn.sublist (hrow.map _), fun e he => d.ex e (hex e he), fun F hF u hp hs => d.fx F (hfx F hF) u hp fun b hb hlt hn => hs b hb hlt fun hm => hn (hft.subset hm), fun c hc => d.kn c (hkn c hc), d.bl⟩
theorem forget_spec {f : SV → Bool} {l : List (Nat × SV)} {t : Nat} {v : SV} (h : (forget f l).lookup t = some v) : l.lookup t = some v ∧ f v = false := by
 unfold forget at h; obtain ⟨h1, h2⟩ := lookup_filterSlot (fun q => !((l.filter fun p => f p.2).map (·.1)).contains q) _ _ _ h; refine ⟨h1, ?_⟩; cases hv : f v with
 | false => rfl
 | true =>
  have : t ∈ (l.filter fun p => f p.2).map (·.1) := List.mem_map.2 ⟨(t, v), List.mem_filter.2 ⟨lookup_mem h1, hv⟩, rfl⟩; simp only [Bool.not_eq_true', List.contains_iff_mem, ← Bool.not_eq_true] at h2; exact absurd this h2
theorem Den.addBlk {S1 : St} {m t : Nat} {cs : List C1} {vs : List Value} (d : Den σ S β ρ w0 a w) (h : S.dropBlk m = some S1) (hbase : σ.base ≤ w.heap.size) (hlm : σ.lnames.lookup m = none) (hvs : ∀ β', Near (· = m) (fun _ => False) β β' → cs.map (C1.den β' ρ) = vs) : ∃ β', Near (· = m) (fun _ => False) β β' ∧ β'.blk m = w.heap.size ∧ Den σ (S1.addBlk m t cs) β' ρ w0 a (w.alloc (.cells vs.toArray t)) := by
 obtain ⟨h1, h2, h3, h4, ⟨h5, hk5⟩, h6, h7, h8⟩ := dropBlk_spec h
 let β' : Beta := { β with blk := fun k => if k = m then w.heap.size else β.blk k }
 have hn : Near (· = m) (fun _ => False) β β' := ⟨fun k hk => if_neg hk, fun _ _ => rfl, rfl⟩
 have hm : β'.blk m = w.heap.size := if_pos rfl; refine ⟨β', hn, hm, ?_⟩; have hlt := d.foot_lt; have hold : ∀ k, k < w.heap.size → (w.alloc (.cells vs.toArray t)).heap[k]? = w.heap[k]? := fun k hk => Below.heap_alloc w _ k hk
 have hblk : ∀ q ∈ S1.blk, q ∈ S.blk ∧ q.1 ≠ m := by
  intro q hq; rw [h6] at hq; simpa using hq
 have hft : foot β' (S1.addBlk m t cs) = w.heap.size :: foot β S1 := by
  unfold foot St.addBlk; simp only [List.map_cons, List.cons_append, hm]
  congr 1
  congr 1
  exact List.map_congr_left fun q hq => if_neg (hblk q hq).2
 have hsub : ∀ b ∈ foot β S1, b ∈ foot β S := by
  intro b hb; unfold foot at hb ⊢
  rw [h3] at hb
  rcases List.mem_append.1 hb with hb | hb
  ·obtain ⟨q, hq, rfl⟩ := List.mem_map.1 hb; exact List.mem_append_left _ (List.mem_map.2 ⟨q, (hblk q hq).1, rfl⟩)
  ·exact List.mem_append_right _ hb
 refine ⟨d.df, d.nt.trans h1.symm, ?_, ?_, ?_, ?_, ?_, ?_, ?_, (fun c hc => d.kn c (by have hc : c ∈ S1.known := hc; rw [hk5] at hc; exact hc)), ?_⟩
 ·intro k v hv; have hv : S1.fr.lookup k = some v := hv; rw [h7] at hv; obtain ⟨hv, hf⟩ := forget_spec hv; rw [SV.den_near hn ρ v (fun j hj e => by subst e; rw [hf] at hj; cases hj) (fun _ _ e => e)]; exact d.fr k v hv
 ·intro q hq
  rcases List.mem_cons.1 hq with rfl | hq
  ·refine ⟨?_, by simp only [hm]; unfold Sm.mineAt; rw [hlm]; exact hbase⟩; simp only [hm, hvs β' hn]; show (w.heap.push _)[w.heap.size]? = _; simp
  ·have hqS := hq; obtain ⟨hq1, hq2⟩ := hblk q hq; have := d.bk q hq1; have e : β'.blk q.1 = β.blk q.1 := if_neg hq2; rw [e, hold _ (lt_of_some this.1), cells_near hn ρ q.2.2 (fun j hj e => by
    subst e; obtain ⟨c, hc, hcn⟩ := List.any_eq_true.1 hj; have hz := h8 q hqS c hc; rw [hz] at hcn; cases hcn) (fun _ _ e => e)]
   exact this
 ·intro r hr; have hr : r ∈ S1.row := hr; rw [h3] at hr; have := d.rw r hr; exact ⟨this.1.alloc _, this.2⟩
 ·rw [hft]; refine List.nodup_cons.2 ⟨fun hm => ?_, ?_⟩
  ·have := (hlt _ (hsub _ hm)).1; omega
  ·have hs : (foot β S1).Sublist (foot β S) := by
    unfold foot; rw [h3, h6]; exact List.Sublist.append (List.Sublist.map _ List.filter_sublist) (List.Sublist.refl _)
   exact d.nd.sublist hs
 ·show (S1.row.map RowS.m).Nodup; rw [h3]; exact d.rn
 ·intro e he; have he : e ∈ S1.exp := he; rw [h5] at he; exact d.ex e he
 ·intro F hF; have hF : F ∈ S1.facts := hF; rw [h4] at hF; refine fx_step d.fx (w' := w.alloc (.cells vs.toArray t)) (by simp) (fun b _ hb _ => hold b hb) ?_ F hF; intro b hb hm; rw [hft] at hm
  rcases List.mem_cons.1 hm with rfl | hm
  ·omega
  ·exact hsub b hm
 ·exact d.bl.alloc hbase _
end
theorem ownsRow_same {w w' : World} {base e size n : Nat} {v : Value} {xs : List Value} (h : w.ownsRow base e size v n xs) (hs : ∀ g, v.ownBlock = some g → w'.heap[g]? = w.heap[g]?) : w'.ownsRow base e size v n xs := by
 refine ⟨h.1, ?_⟩
 rcases h.2 with h | ⟨g, cap, cur, rfl, hb, hg, h1, h2, h3, h4⟩
 ·exact .inl h
 ·exact .inr ⟨g, cap, cur, rfl, hb, (hs g rfl).trans hg, h1, h2, h3, h4⟩
theorem owns_same {σ : Sm} {w w' : World} {m e size n : Nat} {v : Value} {xs : List Value} (h : σ.owns w m e size v n xs) (hs : ∀ g, v.ownBlock = some g → w'.heap[g]? = w.heap[g]?) : σ.owns w' m e size v n xs := ⟨ownsRow_same h.1 hs, h.2⟩
theorem nodup_map_inj {α β : Type} {f : α → β} : ∀ {l : List α}, (l.map f).Nodup → ∀ {x y : α}, x ∈ l → y ∈ l → f x = f y → x = y
 | [], _, _, _, hx, _, _ => by cases hx
 | z :: l, h, x, y, hx, hy, e => by
  rw [List.map_cons, List.nodup_cons] at h
  rcases List.mem_cons.1 hx with e1 | hx <;> rcases List.mem_cons.1 hy with e2 | hy
  ·rw [e1, e2]
  ·exact absurd (List.mem_map.2 ⟨y, hy, by rw [← e, e1]⟩) h.1
  ·exact absurd (List.mem_map.2 ⟨x, hx, by rw [e, e2]⟩) h.1
  ·exact nodup_map_inj h.2 hx hy e
theorem filterMap_same {α β : Type} {f g : α → Option β} : ∀ {l : List α}, (∀ x ∈ l, f x = g x) → l.filterMap f = l.filterMap g
 | [], _ => rfl
 | x :: l, h => by
  rw [List.filterMap_cons, List.filterMap_cons, h x (List.mem_cons_self ..), filterMap_same fun y hy => h y (List.mem_cons_of_mem _ hy)]
section
variable {σ : Sm} {S : St} {β : Beta} {ρ : Nat → U} {w0 : World} {a : Act} {w : World}
theorem Den.blk_ne (d : Den σ S β ρ w0 a w) {q q' : Nat × Nat × List C1} (hq : q ∈ S.blk) (hq' : q' ∈ S.blk) (hne : q.1 ≠ q'.1) : β.blk q.1 ≠ β.blk q'.1 := by
 intro e; have hnd := (List.nodup_append.1 d.nd).1; have := nodup_map_inj (f := fun q : Nat × Nat × List C1 => β.blk q.1) hnd hq hq' e; exact hne (by rw [this])
theorem Den.row_ne (d : Den σ S β ρ w0 a w) {q : Nat × Nat × List C1} {r : RowS} (hq : q ∈ S.blk) (hr : r ∈ S.row) {A : Addr} (hA : (β.row r.m).1 = some A) : A.block ≠ β.blk q.1 := by
 intro e; have := (List.nodup_append.1 d.nd).2.2 (β.blk q.1) (List.mem_map.2 ⟨q, hq, rfl⟩) A.block (List.mem_filterMap.2 ⟨r, hr, by rw [hA]; rfl⟩); exact this e.symm
theorem row_apart {β : Beta} : ∀ {l : List RowS}, (l.filterMap fun r => (β.row r.m).1.map Addr.block).Nodup → (l.map RowS.m).Nodup → ∀ {r r' : RowS}, r ∈ l → r' ∈ l → r.m ≠ r'.m → ∀ {A A' : Addr}, (β.row r.m).1 = some A → (β.row r'.m).1 = some A' → A.block ≠ A'.block
 | [], _, _, _, _, h, _, _, _, _, _, _ => by cases h
 | z :: l, h, hm, r, r', hr, hr', hne, A, A', hA, hA' => by
  have hin : ∀ {x : RowS} {B : Addr}, x ∈ l → (β.row x.m).1 = some B → B.block ∈ l.filterMap fun r => (β.row r.m).1.map Addr.block := fun hx hB => List.mem_filterMap.2 ⟨_, hx, by rw [hB]; rfl⟩
  rw [List.map_cons, List.nodup_cons] at hm; rw [List.filterMap_cons] at h
  rcases List.mem_cons.1 hr with e | hrl <;> rcases List.mem_cons.1 hr' with e' | hrl'
  ·rw [e, e'] at hne; exact absurd rfl hne
  ·rw [← e, hA] at h; intro e2; exact (List.nodup_cons.1 h).1 (e2 ▸ hin hrl' hA')
  ·rw [← e', hA'] at h; intro e2; exact (List.nodup_cons.1 h).1 (e2 ▸ hin hrl hA)
  ·refine row_apart ?_ hm.2 hrl hrl' hne hA hA'; split at h
   ·exact h
   ·exact (List.nodup_cons.1 h).2
theorem Den.rows_ne (d : Den σ S β ρ w0 a w) {r r' : RowS} (hr : r ∈ S.row) (hr' : r' ∈ S.row) (hne : r.m ≠ r'.m) {A A' : Addr} (hA : (β.row r.m).1 = some A) (hA' : (β.row r'.m).1 = some A') : A.block ≠ A'.block :=
 row_apart (List.nodup_append.1 d.nd).2.1 d.rn hr hr' hne hA hA'
theorem ownBlock_slice {A : Option Addr} {n c g : Nat} (h : (Value.slice A n c).ownBlock = some g) : ∃ p, A = some p ∧ p.block = g := by
 cases A with
 | none => cases h
 | some p => exact ⟨p, rfl, by simpa [Value.ownBlock] using h⟩
theorem kept_setRow {L : Nat → Prop} {B : Nat} {a w : World} (h : Kept L B a w) {g : Nat} (hg : B ≤ g ∨ L g) (l : Array Value) : Kept L B a (w.setRow g l) := by
 refine h.trans ⟨rfl, rfl, rfl, by rw [setRow_size]; exact Nat.le_refl _, fun k hk hn => setRow_other w g k l (fun e => ?_)⟩; subst e
 rcases hg with hg | hg
 ·omega
 ·exact hn hg
theorem Den.setBlk (d : Den σ S β ρ w0 a w) {m t : Nat} {cs new : List C1} (hm : S.block m = some (t, cs)) : Den σ (S.setBlk m new) β ρ w0 a (w.setRow (β.blk m) (new.map (C1.den β ρ)).toArray) := by
 have hmem : (m, t, cs) ∈ S.blk := lookup_mem hm; have hg := (d.bk _ hmem).1; have hfoot : foot β (S.setBlk m new) = foot β S := by
  unfold foot St.setBlk; simp only [List.map_map]
  congr 1
  refine List.map_congr_left fun q _ => ?_
  simp only [Function.comp_apply]; split
  ·next e => rw [e]
  ·rfl
 refine ⟨d.df, d.nt, d.fr, ?_, ?_, by rw [hfoot]; exact d.nd, d.rn, d.ex, ?_, d.kn, kept_setRow d.bl (Sm.mine_or (d.bk _ hmem).2) _⟩
 ·intro q hq; obtain ⟨q0, hq0, rfl⟩ := List.mem_map.1 hq; split
  ·next e =>
   have e2 : q0 = (m, t, cs) := by
    by_cases h : q0 = (m, t, cs)
    ·exact h
    ·exact nodup_map_inj (f := fun q : Nat × Nat × List C1 => β.blk q.1) (List.nodup_append.1 d.nd).1 hq0 hmem (by rw [e])
   subst e2; exact ⟨setRow_heap w _ _ _ _ _ hg, (d.bk _ hmem).2⟩
  ·next e =>
   have hne := d.blk_ne hq0 hmem e; rw [setRow_other w _ _ _ hne]; exact d.bk q0 hq0
 ·intro r hr; refine owns_same (d.rw r hr) fun g hgb => ?_
  obtain ⟨p, hp, rfl⟩ := ownBlock_slice hgb; exact setRow_other w _ _ _ (d.row_ne hmem hr hp)
 ·refine fx_step d.fx (by rw [setRow_size]; exact Nat.le_refl _) ?_ (by rw [hfoot]; exact fun _ _ h => h); intro b _ _ hb; refine setRow_other w _ _ _ fun e => hb ?_
  rw [e]; exact List.mem_append_left _ (List.mem_map.2 ⟨_, hmem, rfl⟩)
theorem setRow_foot {β β' : Beta} {S : St} {m : Nat} {n xs : X} (hb : β'.blk = β.blk) : foot β' (S.setRow m n xs) = S.blk.map (fun q => β.blk q.1) ++ S.row.filterMap fun r => (β'.row r.m).1.map Addr.block := by
 unfold foot St.setRow; simp only [hb, List.filterMap_map]
 congr 1
 refine filterMap_same fun r _ => ?_
 simp only [Function.comp_apply]; split <;> rfl
theorem setRow_names (S : St) (m : Nat) (n xs : X) : (S.setRow m n xs).row.map RowS.m = S.row.map RowS.m := by
 unfold St.setRow; simp only [List.map_map]; refine List.map_congr_left fun r _ => ?_
 simp only [Function.comp_apply]; split <;> rfl
theorem Den.setRow {S1 : St} {m : Nat} {r : RowS} {n xs : X} {A : Option Addr} {c : Nat} {w' : World} (d : Den σ S β ρ w0 a w) (hr : S.rowOf m = some r)
  (h1 : S1.nt = S.nt) (hk1 : S1.known = S.known) (h3 : S1.row = S.row) (h4 : S1.facts = S.facts) (h6 : S1.blk = S.blk)
  (hex : ∀ e ∈ S1.exp, e ∈ S.exp ∧ ((A, c) = β.row m ∨ e.1 ≠ m))
  (hfr : ∀ t v, S1.fr.lookup t = some v → S.fr.lookup t = some v ∧ ((A, c) = β.row m ∨ v.any (·.rows m) = false))
  (hcell : (A, c) = β.row m ∨ ∀ q ∈ S.blk, ∀ c' ∈ q.2.2, c'.rows m = false)
  (hw : w'.ownsRow 0 r.e r.size (.slice A (n.den ρ).N c) (n.den ρ).N (xs.den ρ).L)
  (hsz : w.heap.size ≤ w'.heap.size) (hold : ∀ k, k < w.heap.size → (∀ p, (β.row m).1 = some p → k ≠ p.block) → w'.heap[k]? = w.heap[k]?)
  (hA : ∀ p, A = some p → ((β.row m).1 = some p ∨ (w.heap.size ≤ p.block ∧ σ.base ≤ p.block))) (hb : Kept σ.lent σ.base w0 w') :
  ∃ β', Near (fun _ => False) (· = m) β β' ∧ β'.row m = (A, c) ∧ Den σ (S1.setRow m n xs) β' ρ w0 a w' := by
 let β' : Beta := { β with row := fun k => if k = m then (A, c) else β.row k }
 have hn : Near (fun _ => False) (· = m) β β' := ⟨fun _ _ => rfl, fun k hk => if_neg hk, rfl⟩
 have hm : β'.row m = (A, c) := if_pos rfl; have hk : ∀ k, k ≠ m → β'.row k = β.row k := fun k hk => if_neg hk
 have hself : (A, c) = β.row m → β' = β := by
  intro e; show ({ β with row := fun k => if k = m then (A, c) else β.row k } : Beta) = β; have : (fun k => if k = m then (A, c) else β.row k) = β.row := by
   funext k
   by_cases h : k = m
   ·rw [if_pos h, e, h]
   ·rw [if_neg h]
  rw [this]
 refine ⟨β', hn, hm, ?_⟩; have hrm := rowOf_m hr; have hrS := rowOf_mem hr; have hlt := d.foot_lt; have hrow : ∀ r' ∈ S.row, r'.m = m → r' = r := fun r' hr' e => nodup_map_inj d.rn hr' hrS (by rw [e, hrm])
 have hfootm : ∀ b, b < w.heap.size → b ∈ foot β' (S1.setRow m n xs) → b ∈ foot β S := by
  intro b hbl hm'; rw [setRow_foot (β := β) (β' := β') rfl, h6, h3] at hm'
  rcases List.mem_append.1 hm' with hm' | hm'
  ·exact List.mem_append_left _ hm'
  ·refine List.mem_append_right _ ?_; obtain ⟨r', hr', he⟩ := List.mem_filterMap.1 hm'
   by_cases e : r'.m = m
   ·rw [e, hm, Option.map_eq_some_iff] at he; obtain ⟨p, hp, rfl⟩ := he
    rcases hA p hp with h | h
    ·exact List.mem_filterMap.2 ⟨r', hr', by rw [e, h]; rfl⟩
    ·omega
   ·rw [hk _ e] at he; exact List.mem_filterMap.2 ⟨r', hr', he⟩
 refine ⟨d.df, d.nt.trans h1.symm, ?_, ?_, ?_, ?_, ?_, ?_, ?_, (fun c hc => d.kn c (by have hc : c ∈ S1.known := hc; rw [hk1] at hc; exact hc)), hb⟩
 ·intro t v hv; obtain ⟨hv, hor⟩ := hfr t v hv
  rcases hor with e | hor
  ·rw [hself e]; exact d.fr t v hv
  ·rw [SV.den_near hn ρ v (fun _ _ e => e) (fun j hj e => by subst e; rw [hor] at hj; cases hj)]; exact d.fr t v hv
 ·intro q hq; have hqS : q ∈ S1.blk := hq; rw [h6] at hqS; have := d.bk q hqS; have hne : ∀ p, (β.row m).1 = some p → β.blk q.1 ≠ p.block := fun p hp e => d.row_ne hqS hrS (by rw [hrm]; exact hp) e.symm
  rcases hcell with e | hcell
  ·rw [hself e, hold _ (lt_of_some this.1) hne]; exact this
  ·rw [hold (β'.blk q.1) (lt_of_some this.1) hne, cells_near hn ρ q.2.2 (fun _ _ e => e) (fun j hj e => by
    subst e; obtain ⟨c', hc, hcn⟩ := List.any_eq_true.1 hj; have hz := hcell q hqS c' hc; rw [hz] at hcn; cases hcn)]
   exact this
 ·intro r' hr'; obtain ⟨r0, hr0, rfl⟩ := List.mem_map.1 hr'; rw [h3] at hr0; split
  ·next e =>
   rw [hrow r0 hr0 e]; simp only [hrm, hm]; refine ⟨hw, fun g hg => ?_⟩; obtain ⟨p, hp, rfl⟩ := ownBlock_slice hg
   rcases hA p hp with h | h
   ·have := d.row_at hrS (by rw [hrm]; exact h); rw [hrm] at this; exact this
   ·exact .inl h.2
  ·next e =>
   rw [hk _ e]; refine owns_same (d.rw r0 hr0) fun g hgb => ?_
   obtain ⟨p, hp, rfl⟩ := ownBlock_slice hgb; have hpl : p.block < w.heap.size := (hlt _ (List.mem_append_right _ (List.mem_filterMap.2 ⟨r0, hr0, by rw [hp]; rfl⟩))).1; exact hold _ hpl fun p' hp' => d.rows_ne hr0 hrS (by rw [hrm]; exact e) hp (by rw [hrm]; exact hp')
 ·rw [setRow_foot (β := β) (β' := β') rfl, h6, h3]; have hnd := List.nodup_append.1 d.nd; refine List.nodup_append.2 ⟨hnd.1, ?_, ?_⟩
  ·have key : ∀ l : List RowS, (∀ r' ∈ l, r' ∈ S.row) → (l.map RowS.m).Nodup → (l.filterMap fun r => (β.row r.m).1.map Addr.block).Nodup → (l.filterMap fun r => (β'.row r.m).1.map Addr.block).Nodup := by
    intro l
    induction l with
    | nil => intro _ _ _; exact List.nodup_nil
    | cons z l ih =>
     intro hl hmn hbn; rw [List.map_cons, List.nodup_cons] at hmn; have hbn' : (l.filterMap fun r => (β.row r.m).1.map Addr.block).Nodup := by
      rw [List.filterMap_cons] at hbn; split at hbn
      ·exact hbn
      ·exact (List.nodup_cons.1 hbn).2
     have ih := ih (fun r' h => hl r' (List.mem_cons_of_mem _ h)) hmn.2 hbn'; rw [List.filterMap_cons]; split
     ·exact ih
     ·next b hbz =>
      refine List.nodup_cons.2 ⟨fun hmem => ?_, ih⟩; obtain ⟨y, hy, hyb⟩ := List.mem_filterMap.1 hmem; have hyS := hl y (List.mem_cons_of_mem _ hy); have hzS := hl z (List.mem_cons_self ..); have hne : y.m ≠ z.m := fun e => hmn.1 (List.mem_map.2 ⟨y, hy, e⟩)
      rw [Option.map_eq_some_iff] at hyb hbz; obtain ⟨p, hp, hpb⟩ := hyb; obtain ⟨p', hp', hpb'⟩ := hbz; have lt_of : ∀ {x : RowS} {B : Addr}, x ∈ S.row → (β.row x.m).1 = some B → B.block < w.heap.size := fun hx hB => (hlt _ (List.mem_append_right _ (List.mem_filterMap.2 ⟨_, hx, by rw [hB]; rfl⟩))).1
      by_cases ey : y.m = m
      ·have ez : z.m ≠ m := fun e => hne (ey.trans e.symm)
       rw [ey, hm] at hp; rw [hk _ ez] at hp'
       rcases hA p hp with h | h
       ·exact d.rows_ne hyS hzS hne (by rw [ey]; exact h) hp' (hpb.trans hpb'.symm)
       ·have := lt_of hzS hp'; omega
      ·rw [hk _ ey] at hp
       by_cases ez : z.m = m
       ·rw [ez, hm] at hp'
        rcases hA p' hp' with h | h
        ·exact d.rows_ne hyS hzS hne hp (by rw [ez]; exact h) (hpb.trans hpb'.symm)
        ·have := lt_of hyS hp; omega
       ·rw [hk _ ez] at hp'; exact d.rows_ne hyS hzS hne hp hp' (hpb.trans hpb'.symm)
   exact key S.row (fun _ h => h) d.rn hnd.2.1
  ·intro x hx y hy e; subst e; obtain ⟨r', hr', he⟩ := List.mem_filterMap.1 hy
   by_cases em : r'.m = m
   ·rw [em, hm, Option.map_eq_some_iff] at he; obtain ⟨p, hp, hpb⟩ := he
    rcases hA p hp with h | h
    ·exact hnd.2.2 x hx x (List.mem_filterMap.2 ⟨r', hr', by rw [em, h]; exact congrArg some hpb⟩) rfl
    ·have := (hlt x (List.mem_append_left _ hx)).1; omega
   ·rw [hk _ em] at he; exact hnd.2.2 x hx x (List.mem_filterMap.2 ⟨r', hr', he⟩) rfl
 ·rw [setRow_names, h3]; exact d.rn
 ·intro e he; obtain ⟨he, hor⟩ := hex e he
  rcases hor with h | h
  ·rw [hself h]; exact d.ex e he
  ·rw [hk _ h]; exact d.ex e he
 ·intro F hF; have hF : F ∈ S1.facts := hF; rw [h4] at hF; refine fx_step d.fx hsz ?_ hfootm F hF; intro b _ hbl hbn; refine hold b hbl fun p hp e => hbn ?_
  rw [e]; exact List.mem_append_right _ (List.mem_filterMap.2 ⟨r, hrS, by rw [hrm, hp]; rfl⟩)
theorem Den.addRow {S1 : St} {r : RowS} {A : Option Addr} {c : Nat} {w' : World} (d : Den σ S β ρ w0 a w) (h : S.dropRow r.m = some S1)
  (hw : w'.ownsRow 0 r.e r.size (.slice A (r.n.den ρ).N c) (r.n.den ρ).N (r.xs.den ρ).L)
  (hsz : w.heap.size ≤ w'.heap.size) (hold : ∀ k, k < w.heap.size → w'.heap[k]? = w.heap[k]?) (hA : ∀ p, A = some p → w.heap.size ≤ p.block ∧ σ.base ≤ p.block) (hb : Kept σ.lent σ.base w0 w') :
  ∃ β', Near (fun _ => False) (· = r.m) β β' ∧ β'.row r.m = (A, c) ∧ Den σ (S1.addRow r) β' ρ w0 a w' := by
 unfold St.dropRow at h; rw [Option.map_eq_some_iff] at h; obtain ⟨S2, h, rfl⟩ := h; unfold St.unrow at h; split at h
 ·cases h
 ·next hn =>
  injection h with h
  subst h
  let β' : Beta := { β with row := fun k => if k = r.m then (A, c) else β.row k }
  have hN : Near (fun _ => False) (· = r.m) β β' := ⟨fun _ _ => rfl, fun k hk => if_neg hk, rfl⟩
  have hm : β'.row r.m = (A, c) := if_pos rfl; have hk : ∀ k, k ≠ r.m → β'.row k = β.row k := fun k hk => if_neg hk
  refine ⟨β', hN, hm, ?_⟩; have hlt := d.foot_lt; have hrows : (S.row.filter fun u => u.m != r.m).filterMap (fun u => (β'.row u.m).1.map Addr.block) = (S.row.filter fun u => u.m != r.m).filterMap fun u => (β.row u.m).1.map Addr.block := by
   refine filterMap_same fun u hu => ?_
   have : u.m ≠ r.m := by simpa using (List.mem_filter.1 hu).2
   rw [hk _ this]
  have hsub : ((S.row.filter fun u => u.m != r.m).filterMap fun u => (β.row u.m).1.map Addr.block).Sublist (S.row.filterMap fun u => (β.row u.m).1.map Addr.block) := List.filter_sublist.filterMap _; have hnd := List.nodup_append.1 d.nd; refine ⟨d.df, d.nt, ?_, ?_, ?_, ?_, ?_, ?_, ?_, d.kn, hb⟩
  ·intro t v hv; obtain ⟨hv, hf⟩ := forget_spec hv; rw [SV.den_near hN ρ v (fun _ _ e => e) (fun j hj e => by subst e; rw [hf] at hj; cases hj)]; exact d.fr t v hv
  ·intro q hq; have hq : q ∈ S.blk := hq; have := d.bk q hq; rw [hold (β'.blk q.1) (lt_of_some this.1), cells_near hN ρ q.2.2 (fun _ _ e => e) (fun j hj e => by
    subst e; exact hn (List.any_eq_true.2 ⟨q, hq, hj⟩))]
   exact this
  ·intro u hu
   rcases List.mem_cons.1 hu with rfl | hu
   ·rw [hm]; refine ⟨hw, fun g hg => ?_⟩; obtain ⟨p, hp, rfl⟩ := ownBlock_slice hg; exact .inl (hA p hp).2
   ·obtain ⟨hu, hne⟩ := List.mem_filter.1 hu; rw [hk _ (by simpa using hne)]; refine owns_same (d.rw u hu) fun g hg => ?_
    obtain ⟨p, hp, rfl⟩ := ownBlock_slice hg; exact hold _ (hlt _ (List.mem_append_right _ (List.mem_filterMap.2 ⟨u, hu, by rw [hp]; rfl⟩))).1
  ·show (S.blk.map (fun q => β.blk q.1) ++ (r :: S.row.filter fun u => u.m != r.m).filterMap fun u => (β'.row u.m).1.map Addr.block).Nodup; refine List.nodup_append.2 ⟨hnd.1, ?_, ?_⟩
   ·rw [List.filterMap_cons, hm, hrows]; split
    ·exact hnd.2.1.sublist hsub
    ·next b hbb =>
     rw [Option.map_eq_some_iff] at hbb; obtain ⟨p, hp, rfl⟩ := hbb; refine List.nodup_cons.2 ⟨fun hm' => ?_, hnd.2.1.sublist hsub⟩; have := (hlt _ (List.mem_append_right _ (hsub.subset hm'))).1; have := (hA p hp).1; omega
   ·intro x hx y hy e; subst e; rw [List.filterMap_cons, hm, hrows] at hy; split at hy
    ·exact hnd.2.2 x hx x (hsub.subset hy) rfl
    ·next b hbb =>
     rw [Option.map_eq_some_iff] at hbb; obtain ⟨p, hp, rfl⟩ := hbb
     rcases List.mem_cons.1 hy with e | hy
     ·have := (hlt x (List.mem_append_left _ hx)).1; have := (hA p hp).1; omega
     ·exact hnd.2.2 x hx x (hsub.subset hy) rfl
  ·show ((r :: S.row.filter fun u => u.m != r.m).map RowS.m).Nodup; refine List.nodup_cons.2 ⟨fun hm' => ?_, d.rn.sublist (List.filter_sublist.map _)⟩; obtain ⟨u, hu, e⟩ := List.mem_map.1 hm'; have := (List.mem_filter.1 hu).2; simp [e] at this
  ·intro e he; obtain ⟨he, hne⟩ := List.mem_filter.1 he; rw [hk _ (by simpa using hne)]; exact d.ex e he
  ·refine fx_step d.fx hsz (fun b _ hbl _ => hold b hbl) ?_; intro b hbl hm'
   rcases List.mem_append.1 hm' with hm' | hm'
   ·exact List.mem_append_left _ hm'
   ·refine List.mem_append_right _ ?_; have hm' : b ∈ (r :: S.row.filter fun u => u.m != r.m).filterMap fun u => (β'.row u.m).1.map Addr.block := hm'
    rw [List.filterMap_cons, hm, hrows] at hm'; split at hm'
    ·exact hsub.subset hm'
    ·next b' hbb =>
     rw [Option.map_eq_some_iff] at hbb; obtain ⟨p, hp, rfl⟩ := hbb
     rcases List.mem_cons.1 hm' with rfl | hm'
     ·have := (hA p hp).1; omega
     ·exact hsub.subset hm'
end
end Go.Proofs.Ytgjbcahpgkchfaa.Vc
