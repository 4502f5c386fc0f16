/- Of the texts VcR, VcS. -/
import Derived.Test.YtgjbcahpgkchfaaG16
set_option linter.unusedSimpArgs false
set_option linter.unusedVariables false
namespace Go.Proofs.Ytgjbcahpgkchfaa.Vc
open Go Go.RowKit
section
variable {P : Program} {Γ : Cfg} {σ : Sm} {S : St} {k : St → VC} {β : Beta} {ρ : Nat → U} {a : Act} {w w0 : World} {K : Act → World → Prop} {Q : Exit → Act → World → Prop} {o : Oper}
def Took (S : St) (β : Beta) (vals : List Value) : List (Nat × Nat) → List (Nat × List C1) → Prop
 | [], [] => True
 | p :: L, q :: l => vals[p.1]? = some (.pointer (some ⟨β.blk q.1, 0, none⟩)) ∧ S.block q.1 = some (p.2, q.2) ∧ Took S β vals L l
 | _, _ => False
theorem takeL_len : ∀ (L : List (Nat × Nat)) (j : Nat) (args args' : List SV1) (ls : List (Nat × List C1)), takeL S L j args = some (args', ls) → ls.length = L.length
 | [], _, args, args', ls, h => by
  injection h with h
  injection h with h1 h2
  subst h2; rfl
 | p :: L, j, args, args', ls, h => by
  unfold takeL at h; split at h
  ·next m hm =>
   split at h
   ·next t cs hb =>
    split at h
    ·next ht =>
     rw [Option.map_eq_some_iff] at h; obtain ⟨q, hq, he⟩ := h; injection he with h1 h2
     subst h2; exact congrArg (· + 1) (takeL_len L _ _ _ _ hq)
    ·cases h
   ·cases h
  ·cases h
theorem set_same {α : Type} {l : List α} {i : Nat} {v : α} (h : l[i]? = some v) : l.set i v = l := setv_same h
theorem takeL_spec : ∀ (L : List (Nat × Nat)) (j : Nat) (args args' : List SV1) (ls : List (Nat × List C1)), takeL S L j args = some (args', ls) → (∀ i, i < L.length → ρ (S.nv + j + i) = .p (some ⟨β.blk ((ls.map (·.1)).getD i 0), 0, none⟩)) → args'.map (SV1.den β ρ) = args.map (SV1.den β ρ) ∧ Took S β (args.map (SV1.den β ρ)) L ls
 | [], _, args, args', ls, h, _ => by
  injection h with h
  injection h with h1 h2
  subst h1; subst h2; exact ⟨rfl, trivial⟩
 | p :: L, j, args, args', ls, h, hρ => by
  unfold takeL at h; split at h
  ·next m hm =>
   split at h
   ·next t cs hb =>
    split at h
    ·next ht =>
     subst ht; rw [Option.map_eq_some_iff] at h; obtain ⟨q, hq, he⟩ := h; injection he with h1 h2
     subst h1; subst h2; have h0 := hρ 0 (by simp); have hρ' : ∀ i, i < L.length → ρ (S.nv + (j + 1) + i) = .p (some ⟨β.blk ((q.2.map (·.1)).getD i 0), 0, none⟩) := fun i hi => by
      have := hρ (i + 1) (by simp; omega); rw [show S.nv + j + (i + 1) = S.nv + (j + 1) + i by omega] at this; simpa using this
     obtain ⟨g1, g2⟩ := takeL_spec L (j + 1) _ _ _ hq hρ'; have hg : (args.map (SV1.den β ρ))[p.1]? = some (.pointer (some ⟨β.blk m, 0, none⟩)) := by
      rw [List.getElem?_map, hm]; rfl
     have hset : (args.set p.1 (.one (.ptr (.var (S.nv + j))))).map (SV1.den β ρ) = args.map (SV1.den β ρ) := by
      rw [List.map_set]; have e : SV1.den β ρ (.one (.ptr (.var (S.nv + j)))) = .pointer (some ⟨β.blk m, 0, none⟩) := by
       show Value.pointer (X.den ρ (.var (S.nv + j))).P = _; have : ρ (S.nv + j) = .p (some ⟨β.blk m, 0, none⟩) := by simpa using h0
       show Value.pointer (ρ (S.nv + j)).P = _; rw [this]; rfl
      rw [e]; exact set_same hg
     rw [hset] at g1 g2; exact ⟨g1, hg, hb, g2⟩
    ·cases h
   ·cases h
  ·cases h
theorem catX_cons (x : Option (List Lf × List X)) (l : List (Option (List Lf × List X))) : catX (x :: l) = (match x with | some p => p.2 | none => []) ++ catX l := rfl
theorem lentAt_of (hex : Exd S β ρ) {vals : List Value} : ∀ (L : List (Nat × Nat)) (ls : List (Nat × List C1)) (lls : List (List Lf)) (pre post : List U), Took S β vals L ls → (ls.map fun q : Nat × List C1 => flat S q.2).map (Option.map (·.1)) = lls.map some → (∀ q ∈ ls, ∀ t, S.block q.1 = some (t, q.2) → w.heap[β.blk q.1]? = some (.cells (q.2.map (C1.den β ρ)).toArray t (0, 0))) →
  LentAt w vals (pre ++ (dens ρ (catX (ls.map fun q : Nat × List C1 => flat S q.2)) ++ post)) pre.length L lls (ls.map fun q => β.blk q.1)
 | [], [], lls, pre, post, _, hf, _ => by
  cases lls with
  | nil => trivial
  | cons x l => cases hf
 | [], _ :: _, _, _, _, h, _, _ => h.elim
 | _ :: _, [], _, _, _, h, _, _ => h.elim
 | p :: L, q :: ls, lls, pre, post, ht, hf, hw => by
  cases lls with
  | nil => cases hf
  | cons lf lls =>
   simp only [List.map_cons, List.cons.injEq] at hf; obtain ⟨hf1, hf2⟩ := hf; obtain ⟨t1, t2, t3⟩ := ht; rw [Option.map_eq_some_iff] at hf1; obtain ⟨⟨lf', ys⟩, hfl, rfl⟩ := hf1; obtain ⟨d1, d2⟩ := flat_den (β := β) (ρ := ρ) hex q.2 lf' ys hfl; have ih := lentAt_of hex L ls lls (pre ++ dens ρ ys) post t3 hf2 (fun q' hq' => hw q' (List.mem_cons_of_mem _ hq')); simp only [List.map_cons, hfl, catX_cons, dens_append]; refine ⟨t1, ?_, ?_⟩
   ·rw [hw q (List.mem_cons_self ..) _ t2]
    congr 3
    show _ = lfsV _ _ lf'; rw [show pre.length = pre.length + 0 from rfl, lfsV_app, List.append_assoc, lfsV_pre _ _ _ _ (by rw [dens_len', d2]; omega), d1]
   ·rw [List.length_append, dens_len', d2] at ih; simpa [List.append_assoc] using ih
theorem inj_map {α γ : Type} {f : α → γ} : ∀ {l : List α}, (l.map f).Nodup → ∀ {x y : α}, x ∈ l → y ∈ l → f x = f y → x = y
 | z :: l, h, x, y, hx, hy, e => by
  rw [List.map_cons, List.nodup_cons] at h
  rcases List.mem_cons.1 hx with h1 | h1
  ·rcases List.mem_cons.1 hy with h2 | h2
   ·rw [h1, h2]
   ·exact (h.1 (List.mem_map.2 ⟨y, h2, by rw [← e, h1]⟩)).elim
  ·rcases List.mem_cons.1 hy with h2 | h2
   ·exact (h.1 (List.mem_map.2 ⟨x, h1, by rw [e, h2]⟩)).elim
   ·exact inj_map h.2 h1 h2 e
theorem blk_nodup (hb : (S.blk.map fun q => β.blk q.1).Nodup) : ∀ ls : List (Nat × List C1), (ls.map (·.1)).Nodup → (∀ q ∈ ls, ∃ t, S.block q.1 = some (t, q.2)) → (ls.map fun q => β.blk q.1).Nodup
 | [], _, _ => List.nodup_nil
 | q :: ls, h, hn => by
  rw [List.map_cons, List.nodup_cons] at h ⊢
  refine ⟨fun hm => ?_, blk_nodup hb ls h.2 fun x hx => hn x (List.mem_cons_of_mem _ hx)⟩; obtain ⟨x, hx, e⟩ := List.mem_map.1 hm; obtain ⟨t, ht⟩ := hn q (List.mem_cons_self ..); obtain ⟨t', ht'⟩ := hn x (List.mem_cons_of_mem _ hx); have := inj_map hb (lookup_mem ht) (lookup_mem ht') e.symm; injection this with h1 h2
  exact h.1 (List.mem_map.2 ⟨x, hx, h1.symm⟩)
theorem backL_spec {S0 : St} {w1 : World} {vals : List Value} {os : List U} {n0 N : Nat} (hv : ∀ j, j < N → ρ (n0 + j) = at_ os j) : ∀ (L : List (Nat × Nat)) (ls : List (Nat × List C1)) (lls : List (List Lf)) (k : Nat) (S : St), Took S0 β vals L ls → LentAt w1 vals os k L lls (ls.map fun q => β.blk q.1) → k + lfsAr lls.flatten ≤ N → (ls.map (·.1)).Nodup →
  ∃ g : Nat × Nat × List C1 → Nat × Nat × List C1, backL S ls lls (n0 + k) = { S with blk := S.blk.map g } ∧ (∀ b, (g b).1 = b.1 ∧ (g b).2.1 = b.2.1) ∧ (∀ b, b.1 ∉ ls.map (·.1) → g b = b) ∧ ∀ b, b.1 ∈ ls.map (·.1) → ∃ t cs, S0.block b.1 = some (t, cs) ∧ w1.heap[β.blk b.1]? = some (.cells ((g b).2.2.map (C1.den β ρ)).toArray t (0, 0))
 | [], [], lls, k, S, _, _, _, _ => by
  refine ⟨id, ?_, fun _ => ⟨rfl, rfl⟩, fun _ _ => rfl, fun b hb => by cases hb⟩; cases lls <;> simp [backL]
 | [], _ :: _, _, _, _, h, _, _, _ => h.elim
 | _ :: _, [], _, _, _, h, _, _, _ => h.elim
 | p :: L, q :: ls, [], k, S, _, h, _, _ => h.elim
 | p :: L, q :: ls, lf :: lls, k, S, ht, hl, hN, hnd => by
  obtain ⟨t1, t2, t3⟩ := ht; obtain ⟨l1, l2, l3⟩ := hl; rw [List.map_cons, List.nodup_cons] at hnd; rw [List.flatten_cons, lfsAr_app] at hN; obtain ⟨g', e1, e2, e3, e4⟩ := backL_spec hv L ls lls (k + lfsAr lf) { S with blk := S.blk.map fun b => if b.1 = q.1 then (b.1, b.2.1, freshs (n0 + k) lf) else b } t3 l3 (by omega) hnd.2
  refine ⟨fun b => g' (if b.1 = q.1 then (b.1, b.2.1, freshs (n0 + k) lf) else b), ?_, fun b => ?_, fun b hb => ?_, fun b hb => ?_⟩
  ·unfold backL; rw [Nat.add_assoc, e1]; simp only [List.map_map]; rfl
  ·have := e2 (if b.1 = q.1 then (b.1, b.2.1, freshs (n0 + k) lf) else b); dsimp only; rw [this.1, this.2]; split <;> exact ⟨rfl, rfl⟩
  ·rw [List.map_cons, List.mem_cons, not_or] at hb; dsimp only; rw [if_neg hb.1]; exact e3 b hb.2
  ·dsimp only
   by_cases hq : b.1 = q.1
   ·rw [if_pos hq, e3 _ (by show b.1 ∉ _; rw [hq]; exact hnd.1), hq]; refine ⟨_, _, t2, ?_⟩; show w1.heap[β.blk q.1]? = some (.cells ((freshs (n0 + k) lf).map (C1.den β ρ)).toArray p.2 (0, 0)); rw [l2, freshs_den (β := β) hv lf k (by omega)]
   ·rw [if_neg hq]; rw [List.map_cons, List.mem_cons] at hb; exact e4 b (hb.resolve_left hq)
theorem Den.backG (d : Den σ S β ρ w0 a w) {names gs : List Nat} {w1 : World} (hk : Kept (· ∈ names.map β.blk ++ gs) w.heap.size w w1) (hbase : σ.base ≤ w.heap.size) (hgs : ∀ g ∈ gs, g ∉ foot β S ∧ (σ.base ≤ g ∨ σ.lent g)) {g : Nat × Nat × List C1 → Nat × Nat × List C1} (hn : ∀ m ∈ names, ∃ t cs, S.block m = some (t, cs)) (hg1 : ∀ b, (g b).1 = b.1 ∧ (g b).2.1 = b.2.1) (hg2 : ∀ b, b.1 ∉ names → g b = b)
  (hg3 : ∀ b, b.1 ∈ names → ∃ t cs, S.block b.1 = some (t, cs) ∧ w1.heap[β.blk b.1]? = some (.cells ((g b).2.2.map (C1.den β ρ)).toArray t (0, 0)))
  (hfx : ∀ F ∈ S.facts, ∀ u, σ.pre0 u → (∀ b, σ.base ≤ b → b < w.heap.size → b ∉ foot β S → b ∉ gs → u.heap[b]? = w.heap[b]?) → F.den σ ρ u) : Den σ { S with blk := S.blk.map g } β ρ w0 a w1 := by
 have hfoot : foot β { S with blk := S.blk.map g } = foot β S := by
  unfold foot; simp only [List.map_map]
  congr 1
  refine List.map_congr_left fun q _ => ?_
  simp only [Function.comp_apply, (hg1 q).1]
 have hnd := List.nodup_append.1 d.nd; have hin : ∀ m ∈ names, β.blk m ∈ S.blk.map fun q => β.blk q.1 := fun m hm => by
  obtain ⟨t, cs, h⟩ := hn m hm; exact List.mem_map.2 ⟨_, lookup_mem h, rfl⟩
 have hL : ∀ b, b ∈ names.map β.blk → b ∈ foot β S := fun b hb => by
  obtain ⟨m, hm, rfl⟩ := List.mem_map.1 hb; exact List.mem_append_left _ (hin m hm)
 have hlt := d.foot_lt; refine ⟨d.df, d.nt, d.fr, ?_, ?_, by rw [hfoot]; exact d.nd, d.rn, d.ex, ?_, d.kn, d.bl.trans (hk.mono hbase fun b hb hl => ?_)⟩
 ·intro q hq; obtain ⟨b, hb, rfl⟩ := List.mem_map.1 hq; have hb0 := d.bk b hb; obtain ⟨g1, g2⟩ := hg1 b
  by_cases hm : b.1 ∈ names
  ·obtain ⟨t, cs, h1, h2⟩ := hg3 b hm; have : b = (b.1, t, cs) := inj_map hnd.1 hb (lookup_mem h1) rfl; have ht : b.2.1 = t := by rw [this]
   rw [g1, g2, ht]; exact ⟨h2, hb0.2⟩
  ·rw [hg2 b hm]; refine ⟨(hk.block _ (lt_of_some hb0.1) fun hl => ?_).trans hb0.1, hb0.2⟩
   rcases List.mem_append.1 hl with hl | hl
   ·obtain ⟨m, hm', e⟩ := List.mem_map.1 hl; obtain ⟨t, cs, h⟩ := hn m hm'; have : (m, t, cs) = b := inj_map hnd.1 (lookup_mem h) hb e; exact hm (by rw [← this]; exact hm')
   ·exact (hgs _ hl).1 (List.mem_append_left _ (List.mem_map.2 ⟨b, hb, rfl⟩))
 ·intro r hr; refine owns_same (d.rw r hr) fun j hj => ?_
  obtain ⟨p, hp, rfl⟩ := ownBlock_slice hj; have hrow : p.block ∈ S.row.filterMap fun r => (β.row r.m).1.map Addr.block := List.mem_filterMap.2 ⟨r, hr, by rw [hp]; rfl⟩
  refine hk.block _ (hlt _ (List.mem_append_right _ hrow)).1 fun hl => ?_
  rcases List.mem_append.1 hl with hl | hl
  ·obtain ⟨m, hm, e⟩ := List.mem_map.1 hl; exact hnd.2.2 _ (hin m hm) _ hrow e
  ·exact (hgs _ hl).1 (List.mem_append_right _ hrow)
 ·intro F hF u hp hs; refine hfx F hF u hp fun b h1 h2 h3 h4 => (hs b h1 (Nat.lt_of_lt_of_le h2 hk.size) (by rw [hfoot]; exact h3)).trans (hk.block b h2 fun hl => ?_)
  rcases List.mem_append.1 hl with hl | hl
  ·exact h3 (hL b hl)
  ·exact h4 hl
 ·rcases List.mem_append.1 hl with hl | hl
  ·rcases (hlt b (hL b hl)).2 with h | h
   ·omega
   ·exact h
  ·rcases (hgs _ hl).2 with h | h
   ·omega
   ·exact h
theorem foldSrts (lls : List (List Lf)) (pout : List Sh) (n : Nat) : (lfsSrts (shsLfs pout) ++ (List.replicate n Srt.l ++ lfsSrts lls.flatten)).length = lfsAr (shsLfs pout) + (n + lfsAr lls.flatten) := by
 rw [List.length_append, List.length_append, List.length_replicate, srts_ar, srts_ar]
theorem catX_typed (ρ : Nat → U) : ∀ (ls : List (Nat × List C1)) (lls : List (List Lf)), (ls.map fun q : Nat × List C1 => flat S q.2).map (Option.map (·.1)) = lls.map some → (dens ρ (catX (ls.map fun q : Nat × List C1 => flat S q.2))).map U.srt = lfsSrts lls.flatten
 | [], lls, h => by
  cases lls with
  | nil => rfl
  | cons x l => cases h
 | q :: ls, lls, h => by
  cases lls with
  | nil => cases h
  | cons lf lls =>
   simp only [List.map_cons, List.cons.injEq] at h; obtain ⟨h1, h2⟩ := h; rw [Option.map_eq_some_iff] at h1; obtain ⟨⟨lf', ys⟩, hfl, rfl⟩ := h1; simp only [List.map_cons, hfl, catX_cons, dens_append, List.map_append, List.flatten_cons]; rw [flat_typed ρ q.2 lf' ys hfl, catX_typed ρ ls lls h2]; unfold lfsSrts; rw [List.flatMap_append]
theorem keepOk_den (hlk : ∀ q ∈ Γ.keepB, ∃ b, σ.lnames.lookup q.1 = some b) (d : Den σ S β ρ w0 a w) (h : keepOk Γ S = true) {w1 : World} {ms : List Nat} (hms : Γ.keepB.all (fun q => !ms.contains q.1) = true) (hk : ∀ b, b < w.heap.size → (∃ q ∈ S.blk, β.blk q.1 = b) → (∀ m ∈ ms, b ≠ β.blk m) → w1.heap[b]? = w.heap[b]?) (hms2 : ∀ m ∈ ms, ∃ t cs, S.block m = some (t, cs)) : KeepB Γ σ a w1 := by
 intro q hq; have h1 := List.all_eq_true.1 h q hq; simp only [Bool.and_eq_true, decide_eq_true_eq] at h1; obtain ⟨h1, h2⟩ := h1; split at h1
 ·next t cs hb =>
  simp only [Bool.and_eq_true, beq_iff_eq] at h1; obtain ⟨rfl, hlen⟩ := h1; obtain ⟨b, hb1⟩ := hlk q hq; have hd := d.bk _ (lookup_mem hb); have hbb : β.blk q.1 = b := by
   have := hd.2; unfold Sm.mineAt at this; rw [hb1] at this; exact this
  refine ⟨b, (cs.map (C1.den β ρ)).toArray, hb1, ?_, ?_, by simpa using hlen⟩
  ·have := d.fr _ _ h2; rw [this]; show some (Value.pointer (some ⟨β.blk q.1, 0, none⟩)) = _; rw [hbb]
  ·rw [← hbb, hk _ (lt_of_some hd.1) ⟨_, lookup_mem hb, rfl⟩ fun m hm e => ?_]
   ·exact hd.1
   ·have hne : m ≠ q.1 := fun e' => by
     have := List.all_eq_true.1 hms q hq; rw [← e'] at this; simp [List.contains_iff_mem, hm] at this
    obtain ⟨t', cs', hm'⟩ := hms2 m hm; exact d.blk_ne (lookup_mem hb) (lookup_mem hm') (fun e => hne e.symm) e
 ·cases h1
theorem panN_den {f : Nat} {us : List X} {v : VC} {ρ : Nat → U} {ms : List Nat} (h : (panN Γ S ms f us v).den σ ρ) : (∀ ch, (if Γ.pans.contains f = true then σ.pan f else fun _ _ => False) (dens ρ us) ch → Γ.np = false ∧ σ.pan0 ch ∧ keepOk Γ S = true ∧ Γ.keepB.all (fun q => !ms.contains q.1) = true) ∧ v.den σ ρ := by
 unfold panN at h; split at h
 ·next hc =>
  split at h
  ·exact h.elim
  ·next hn =>
   split at h
   ·next hk =>
    simp only [Bool.and_eq_true] at hk; refine ⟨fun ch hp => ⟨by simpa using hn, h.1 ch ?_, hk.1, hk.2⟩, h.2⟩; rw [if_pos hc] at hp; exact hp
   ·exact h.elim
 ·next hc =>
  refine ⟨fun ch hp => ?_, h⟩; rw [if_neg hc] at hp; exact hp.elim
theorem zip_lookup_map {α γ : Type} (g : α → γ) : ∀ (ks : List Nat) (ls : List α) (m : Nat), (ks.zip (ls.map g)).lookup m = ((ks.zip ls).lookup m).map g
 | [], _, _ => rfl
 | _ :: _, [], _ => rfl
 | k :: ks, x :: ls, m => by
  rw [List.map_cons, List.zip_cons_cons, List.zip_cons_cons, List.lookup_cons, List.lookup_cons]; split
  ·rfl
  ·exact zip_lookup_map g ks ls m
theorem zip_lookup_mem {α : Type} {ks : List Nat} {ls : List α} {m : Nat} {x : α} (h : (ks.zip ls).lookup m = some x) : x ∈ ls := (List.of_mem_zip (lookup_mem h)).2
theorem moved_mem {n : Nat} : ∀ {As Bs : List (Option Addr)}, Moved n As Bs → ∀ g ∈ blocksOf Bs, g ∈ blocksOf As ∨ n ≤ g
 | [], [], _, g, hg => by cases hg
 | [], _ :: _, h, _, _ => h.elim
 | _ :: _, [], h, _, _ => h.elim
 | A :: As, B :: Bs, h, g, hg => by
  rw [blocksOf_cons] at hg ⊢
  rcases List.mem_append.1 hg with hg | hg
  ·cases B with
   | none => cases hg
   | some p =>
    have hg : g = p.block := by simpa using hg
    subst hg
    rcases h.1 with e | e
    ·subst e; exact .inl (List.mem_append_left _ (by simp))
    ·exact .inr (e p rfl)
  ·exact (moved_mem h.2 g hg).imp_left (List.mem_append_right _)
theorem lrows_spec {L : List (Nat × Nat)} {ls : List (Nat × List C1)} {q : Nat × Nat × Nat} {R : List (Nat × Nat × Nat)} {cl : List (Nat × Nat × Nat × Nat)} {xs : List X} (h : lrowsOf P S L ls (q :: R) = some (cl, xs)) : ∃ m cs k n r i cl' xs', ((L.map (·.1)).zip ls).lookup q.1 = some (m, cs) ∧ cs[q.2.1]? = some (.row k n) ∧ S.rowOf k = some r ∧ P.info? q.2.2 = some i ∧ r.e = q.2.2 ∧ r.n = n ∧ r.size = i.size ∧ lrowsOf P S L ls R = some (cl', xs') ∧ cl = (k, m, q.2.1, q.2.2) :: cl' ∧ xs = .un (.co .l) r.xs :: xs' := by
 unfold lrowsOf at h; split at h
 ·next m cs l ys h1 h2 =>
  split at h
  ·next k n h3 =>
   split at h
   ·next r i h4 h5 =>
    split at h
    ·next hc =>
     injection h with h
     injection h with h6 h7
     exact ⟨m, cs, k, n, r, i, l, ys, h1, h3, h4, h5, hc.1, hc.2.1, hc.2.2, h2, h6.symm, h7.symm⟩
    ·cases h
   ·cases h
  ·cases h
 ·cases h
theorem lrows_at (d : Den σ S β ρ w0 a w) {L : List (Nat × Nat)} {ls : List (Nat × List C1)} (hn : ∀ q ∈ ls, ∃ t, S.block q.1 = some (t, q.2)) : ∀ (R : List (Nat × Nat × Nat)) (cl : List (Nat × Nat × Nat × Nat)) (xs : List X) (pre post : List U), lrowsOf P S L ls R = some (cl, xs) →
  RowsAt P w (pre ++ (dens ρ xs ++ post)) (bOf L (ls.map fun q => β.blk q.1)) pre.length R (cl.map fun q => (β.row q.1).1) ∧ (dens ρ xs).map U.srt = List.replicate R.length .l ∧ (∀ q ∈ cl, ∃ r, S.rowOf q.1 = some r) ∧ xs.length = R.length
 | [], cl, xs, pre, post, h => by
  unfold lrowsOf at h; injection h with h
  injection h with h1 h2
  subst h1; subst h2; exact ⟨trivial, rfl, (fun _ h => by cases h), rfl⟩
 | q :: R, cl, xs, pre, post, h => by
  obtain ⟨m, cs, k, n, r, i, cl', xs', h1, h2, h3, h4, h5, h6, h7, h8, rfl, rfl⟩ := lrows_spec h; obtain ⟨g1, g2, g3, g4⟩ := lrows_at d hn R cl' xs' (pre ++ [.l (r.xs.den ρ).L]) post h8; obtain ⟨t, ht⟩ := hn _ (zip_lookup_mem h1); have hbk := (d.bk _ (lookup_mem ht)).1; have hrow := (d.rw r (rowOf_mem h3)).1; rw [rowOf_m h3, h5, h6, h7] at hrow; refine ⟨⟨⟨β.blk m, i, (n.den ρ).N, (β.row k).2, ?_, h4, ?_, ?_⟩, ?_⟩, ?_, fun p hp => ?_, by rw [List.length_cons, g4, List.length_cons]⟩
  ·unfold bOf; rw [zip_lookup_map (fun q : Nat × List C1 => β.blk q.1), h1]; rfl
  ·rw [cell_of_row w _ _ _ _ _ hbk, cells_get, h2]; rfl
  ·have : at_ (pre ++ (dens ρ (.un (.co .l) r.xs :: xs') ++ post)) pre.length = .l (r.xs.den ρ).L := by
    rw [show pre.length = pre.length + 0 from rfl, at_app]; rfl
   rw [this]; exact hrow
  ·rw [List.length_append, List.append_assoc] at g1; exact g1
  ·show Srt.l :: (dens ρ xs').map U.srt = _; rw [g2]; rfl
  ·rcases List.mem_cons.1 hp with rfl | hp
   ·exact ⟨r, h3⟩
   ·exact g3 p hp
theorem rows_claims (d : Den σ S β ρ w0 a w) (hb : σ.base ≤ w.heap.size) {ρ2 : Nat → U} {w1 : World} {os : List U} {n0 N : Nat} (hv : ∀ j, j < N → ρ2 (n0 + j) = at_ os j) {L : List (Nat × Nat)} {ls : List (Nat × List C1)} : ∀ (R : List (Nat × Nat × Nat)) (cl : List (Nat × Nat × Nat × Nat)) (xs : List X) (k : Nat) (Bs : List (Option Addr)), lrowsOf P S L ls R = some (cl, xs) →
  RowsAt P w1 os (bOf L (ls.map fun q => β.blk q.1)) k R Bs → Moved w.heap.size (cl.map fun q => (β.row q.1).1) Bs → k + R.length ≤ N → ClaimsAt P σ β ρ2 w1 cl (vars (n0 + k) R.length) Bs
 | [], cl, xs, k, Bs, h, hr, hm, hN => by
  unfold lrowsOf at h; injection h with h
  injection h with h1 h2
  subst h1; subst h2; cases Bs with
  | nil => trivial
  | cons B Bs => exact hr.elim
 | q :: R, cl, xs, k, Bs, h, hr, hm, hN => by
  obtain ⟨m, cs, kk, n, r, i, cl', xs', h1, h2, h3, h4, h5, h6, h7, h8, rfl, rfl⟩ := lrows_spec h; cases Bs with
  | nil => exact hr.elim
  | cons B Bs =>
   obtain ⟨⟨b, i', n', c', r1, r2, r3, r4⟩, hr⟩ := hr; rw [h4] at r2; injection r2 with r2
   subst r2; unfold bOf at r1; rw [zip_lookup_map (fun q : Nat × List C1 => β.blk q.1), h1] at r1; have r1 : some (β.blk m) = some b := r1; injection r1 with r1
   subst r1; rw [List.length_cons] at hN; refine ⟨⟨⟨i, n', c', h4, r3, ?_⟩, fun p hp => ?_⟩, rows_claims d hb hv R cl' xs' (k + 1) Bs h8 hr hm.2 (by omega)⟩
   ·show w1.ownsRow 0 q.2.2 i.size (.slice B n' c') n' (ρ2 (n0 + k)).L; rw [hv k (by omega)]; exact r4
   ·rcases hm.1 with e | e
    ·rw [hp] at e; have := d.row_at (rowOf_mem h3) (by rw [rowOf_m h3]; exact e.symm); rw [rowOf_m h3] at this; exact this
    ·have := e p hp; exact .inl (by omega)
theorem rows_blocks {cl : List (Nat × Nat × Nat × Nat)} {g : Nat} (h : g ∈ blocksOf (cl.map fun q => (β.row q.1).1)) : ∃ q ∈ cl, ∃ p, (β.row q.1).1 = some p ∧ p.block = g := by
 unfold blocksOf at h; obtain ⟨A, hA, he⟩ := List.mem_filterMap.1 h; obtain ⟨q, hq, rfl⟩ := List.mem_map.1 hA; rw [Option.map_eq_some_iff] at he; obtain ⟨p, hp, he⟩ := he; exact ⟨q, hq, p, hp, he⟩
theorem rows_nodup (d : Den σ S β ρ w0 a w) : ∀ {cl : List (Nat × Nat × Nat × Nat)}, (cl.map (·.1)).Nodup → (∀ q ∈ cl, ∃ r, S.rowOf q.1 = some r) → (blocksOf (cl.map fun q => (β.row q.1).1)).Nodup
 | [], _, _ => List.nodup_nil
 | q :: cl, h, hr => by
  rw [List.map_cons, List.nodup_cons] at h; rw [List.map_cons, blocksOf_cons]; refine List.nodup_append.2 ⟨(by cases (β.row q.1).1 <;> simp), rows_nodup d h.2 fun p hp => hr p (List.mem_cons_of_mem _ hp), fun x hx y hy e => ?_⟩; subst e; obtain ⟨q', hq', p', hp', he'⟩ := rows_blocks hy; obtain ⟨r, hr1⟩ := hr q (List.mem_cons_self ..); obtain ⟨r', hr2⟩ := hr q' (List.mem_cons_of_mem _ hq'); cases hA : (β.row q.1).1 with
  | none => rw [hA] at hx; cases hx
  | some p =>
   rw [hA] at hx; have hx : x = p.block := by simpa using hx
   have hne : q.1 ≠ q'.1 := fun e => h.1 (by rw [e]; exact List.mem_map.2 ⟨q', hq', rfl⟩)
   exact d.rows_ne (rowOf_mem hr1) (rowOf_mem hr2) (by rw [rowOf_m hr1, rowOf_m hr2]; exact hne) (by rw [rowOf_m hr1]; exact hA) (by rw [rowOf_m hr2]; exact hp') (by rw [← hx, he'])
theorem Took.blk {S S' : St} (h : S'.blk = S.blk) {vals : List Value} : ∀ {L : List (Nat × Nat)} {l : List (Nat × List C1)}, Took S β vals L l → Took S' β vals L l
 | [], [], _ => trivial
 | [], _ :: _, h' => h'.elim
 | _ :: _, [], h' => h'.elim
 | p :: L, q :: l, h' => ⟨h'.1, by unfold St.block; rw [h]; exact h'.2.1, Took.blk h h'.2.2⟩
theorem footDrop {ks : List Nat} {b : Nat} (h : b ∈ foot β (dropRs ks S)) : b ∈ foot β S := by
 rcases List.mem_append.1 h with h | h
 ·exact List.mem_append_left _ h
 ·exact List.mem_append_right _ ((List.filter_sublist.filterMap _).subset h)
theorem footSplit {cl : List (Nat × Nat × Nat × Nat)} {b : Nat} (h : b ∈ foot β S) : b ∈ foot β (dropRs (cl.map (·.1)) S) ∨ b ∈ blocksOf (cl.map fun q => (β.row q.1).1) := by
 rcases List.mem_append.1 h with h | h
 ·exact .inl (List.mem_append_left _ h)
 ·obtain ⟨r, hr, e⟩ := List.mem_filterMap.1 h
  by_cases hc : (cl.map (·.1)).contains r.m = true
  ·right; rw [List.contains_iff_mem] at hc; obtain ⟨q, hq, e'⟩ := List.mem_map.1 hc; exact List.mem_filterMap.2 ⟨_, List.mem_map.2 ⟨q, hq, rfl⟩, by rw [e']; exact e⟩
  ·exact .inl (List.mem_append_right _ (List.mem_filterMap.2 ⟨r, List.mem_filter.2 ⟨hr, by simpa using hc⟩, e⟩))
theorem callL_den {f : Nat} {L : List (Nat × Nat)} {R : List (Nat × Nat × Nat)} {S0 : St} {args : List SV1} {av : Array Value} (hcon : ∀ gh, Γ.con.lookup f = some gh → KeepsR P f ⟨gh, σ.pre f, σ.post f, σ.fact f, if Γ.pans.contains f = true then σ.pan f else fun _ _ => False⟩ L R) (hlk : ∀ q ∈ Γ.keepB, ∃ b, σ.lnames.lookup q.1 = some b) (hQ : Γ.np = false → ∀ ch w', σ.pan0 ch → Kept σ.lent σ.base w0 w' → KeepB Γ σ a w' → Q (.panic ch) a w') (hb : σ.base ≤ w.heap.size) (hpre : σ.pre0 w) (d0 : Den σ S0 β ρ w0 a w)
  (hrun : ∀ fn, P.funcs[f]? = some fn → fn.body.isNone = false → (fn.name == "runtime.NumGoroutine") = false → (execOp a.eval o).run P w = .ok (.enter f av) w) (hav : ∀ ρ' : Nat → U, (∀ t v, S0.fr.lookup t = some v → a.tmps[t]? = some (v.den β ρ')) → av.toList = args.map (SV1.den β ρ'))
  (h : (callL P Γ f L R o.dst args S0 k).den σ ρ) {tc : List Nat} (htc : ∀ q ∈ Γ.rcells, cname q.1 q.2.1 ∈ tc) (hK : ∀ a' w', AOut σ S0 k β ρ w0 tc a' w' → K a' w') : o.wp P a w K Q := by
 unfold callL at h; split at h
 ·next fn x0 ls0 hfn htk0 =>
  split at h
  ·exact h.elim
  next cl rx hlr =>
  obtain ⟨S, ρ0, h', d, a0, n0, e1f, e2f, e3f, e4f, e5f⟩ := expose_den _ S0 ρ _ d0 h; clear h; have h := h'; clear h'; split at h
  ·next pin pout lls args' ls hpin hpout hlls htk =>
   split at h
   ·exact h.elim
   ·next gh hgh =>
    split at h
    ·exact h.elim
    ·next hc =>
     simp only [Bool.or_eq_true, not_or, Bool.not_eq_true] at hc; obtain ⟨hc2, hc3⟩ := hc; split at h
     ·next shs us hfl =>
      dsimp only at h; split at h
      ·next hok =>
       obtain ⟨rfl, hfl2, hnd, hSok, hus, hxs, hcn, rfl, hrc⟩ := hok; have hlen := takeL_len L 0 args args' ls htk; obtain ⟨ρ1, a1, hv1, h⟩ := alls_den _ S ρ0 _ (ls.map fun q => .p (some ⟨β.blk q.1, 0, none⟩)) (by
        rw [List.map_map, ← hlen]; clear htk htk0 hlr hfl2 hnd hxs hlen h
        induction ls with
        | nil => rfl
        | cons q l ih => rw [List.map_cons, List.length_cons, List.replicate_succ, ih]; rfl) h
       rw [List.length_replicate] at hv1 h; have hρ : ∀ i, i < L.length → ρ1 (S.nv + 0 + i) = .p (some ⟨β.blk ((ls.map (·.1)).getD i 0), 0, none⟩) := fun i hi => by
        rw [Nat.add_zero, vars_at hv1 i hi]; unfold at_; rw [List.getD_eq_getElem?_getD, List.getD_eq_getElem?_getD, List.getElem?_map, List.getElem?_map, List.getElem?_eq_getElem (by omega)]; rfl
       obtain ⟨hargs, htook⟩ := takeL_spec (β := β) (ρ := ρ1) L 0 args args' ls htk hρ; have d1 := d.alike a1 hSok; have hlr1 : lrowsOf P S L ls R = some (cl, rx) := by
        have : ∀ R : List (Nat × Nat × Nat), lrowsOf P S L ls R = lrowsOf P S0 L ls R := by
         intro R
         induction R with
         | nil => rfl
         | cons q R ih => unfold lrowsOf; rw [ih]; simp only [St.rowOf, e3f]
        rw [this]; exact hlr
       obtain ⟨ρg, ag, tg, hx⟩ := exs_typed _ { S with nv := S.nv + L.length } ρ1 _ h
       rw [List.length_replicate] at tg hx; obtain ⟨hpan, hx⟩ := panN_den hx; obtain ⟨hp, h⟩ := hx; have agS : Alike S.nv ρ1 ρg := fun k hk => ag k (by show k < S.nv + L.length; omega)
       have facts1 : ∀ F ∈ S.facts, F.den σ ρ1 w := fun F hF => d1.fx F hF w hpre fun _ _ _ _ => rfl
       have hfu : S.facts.all (·.upto S.nv) = true := by
        unfold St.ok St.upto at hSok; simp only [Bool.and_eq_true] at hSok; exact hSok.1.1.2
       have husg : dens ρg us = dens ρ1 us := dens_alike ag us hus; have hxsg : dens ρg (rx ++ catX (ls.map fun q : Nat × List C1 => flat S q.2)) = dens ρ1 (rx ++ catX (ls.map fun q : Nat × List C1 => flat S q.2)) := dens_alike agS _ hxs; have hpre_f := given_out (hp w) (given_alike agS hfu facts1); obtain ⟨f1, f2⟩ := flats_den (β := β) (ρ := ρ1) d1.ex args' _ us hfl; have hvs := hav ρ1 (by rw [← e1f]; exact d1.fr); unfold Oper.wp; rw [hrun fn hfn hc2 (by simpa using hc3)]; show Calls P f av w _; have hU : dens ρg (us ++ ((rx ++ catX (ls.map fun q : Nat × List C1 => flat S q.2)) ++ vars (S.nv + L.length) gh)) = dens ρ1 us ++ (dens ρ1 (rx ++ catX (ls.map fun q : Nat × List C1 => flat S q.2)) ++ dens ρg (vars (S.nv + L.length) gh)) := by
        rw [dens_append, dens_append, husg, hxsg]
       have hnames : ∀ q ∈ ls, ∃ t, S.block q.1 = some (t, q.2) := by
        have : ∀ (L : List (Nat × Nat)) (l : List (Nat × List C1)), Took S β (args.map (SV1.den β ρ1)) L l → ∀ q ∈ l, ∃ t, S.block q.1 = some (t, q.2) := by
         intro L
         induction L with
         | nil => intro l h; cases l with
          | nil => intro q hq; cases hq
          | cons x l => exact h.elim
         | cons p L ih => intro l h; cases l with
          | nil => exact h.elim
          | cons x l =>
           intro q hq
           rcases List.mem_cons.1 hq with rfl | hq
           ·exact ⟨_, h.2.1⟩
           ·exact ih l h.2.2 q hq
        exact this L ls htook
       have hty : (dens ρg (us ++ ((rx ++ catX (ls.map fun q : Nat × List C1 => flat S q.2)) ++ vars (S.nv + L.length) gh))).map U.srt = lfsSrts (shsLfs shs) ++ (List.replicate R.length .l ++ (lfsSrts lls.flatten ++ List.replicate gh .g)) := by
        rw [hU, List.map_append, List.map_append, flats_typed ρ1 args' _ us hfl, tg, dens_append, List.map_append, (lrows_at d1 hnames R cl rx [] [] hlr1).2.1]; rw [catX_typed (S := S) ρ1 ls lls hfl2, List.append_assoc]
       have hval : shsV (dens ρg (us ++ ((rx ++ catX (ls.map fun q : Nat × List C1 => flat S q.2)) ++ vars (S.nv + L.length) gh))) 0 shs = args.map (SV1.den β ρ1) := by
        rw [hU, shsV_pre _ _ shs 0 (by rw [dens_len', f2]; omega), f1, hargs]
       have hava : (shsV (dens ρg (us ++ ((rx ++ catX (ls.map fun q : Nat × List C1 => flat S q.2)) ++ vars (S.nv + L.length) gh))) 0 shs).toArray = av := by
        apply Array.toList_inj.1; rw [hvs, hval]
       have hlent : LentAt w (args.map (SV1.den β ρ1)) (dens ρg (us ++ ((rx ++ catX (ls.map fun q : Nat × List C1 => flat S q.2)) ++ vars (S.nv + L.length) gh))) (lfsAr (shsLfs shs) + R.length) L lls (ls.map fun q => β.blk q.1) := by
        have := lentAt_of (w := w) d1.ex L ls lls (dens ρ1 us ++ dens ρ1 rx) (dens ρg (vars (S.nv + L.length) gh)) htook hfl2 fun q hq t ht => (d1.bk _ (lookup_mem ht)).1
        rw [List.length_append, dens_len', dens_len', f2, (lrows_at d1 hnames R cl rx [] [] hlr1).2.2.2] at this; rw [hU, dens_append]; simpa only [List.append_assoc] using this
       have hbs : (ls.map fun q => β.blk q.1).Nodup := blk_nodup (List.nodup_append.1 d.nd).1 ls hnd hnames; have hAs : RowsAt P w (dens ρg (us ++ ((rx ++ catX (ls.map fun q : Nat × List C1 => flat S q.2)) ++ vars (S.nv + L.length) gh))) (bOf L (ls.map fun q => β.blk q.1)) (lfsAr (shsLfs shs)) R (cl.map fun q => (β.row q.1).1) := by
        have := (lrows_at d1 hnames R cl rx (dens ρ1 us) (dens ρ1 (catX (ls.map fun q : Nat × List C1 => flat S q.2)) ++ dens ρg (vars (S.nv + L.length) gh)) hlr1).1; rw [dens_len', f2] at this; rw [hU, dens_append, List.append_assoc]; exact this
       have hcr := (lrows_at d1 hnames R cl rx [] [] hlr1).2.2.1; have hnd2 : ((ls.map fun q => β.blk q.1) ++ blocksOf (cl.map fun q => (β.row q.1).1)).Nodup := by
        refine List.nodup_append.2 ⟨hbs, rows_nodup d1 hcn hcr, fun x hx y hy e => ?_⟩; subst e; obtain ⟨q, hq, rfl⟩ := List.mem_map.1 hx; obtain ⟨t, ht⟩ := hnames q hq; obtain ⟨q', hq', p, hp, he⟩ := rows_blocks hy; obtain ⟨r, hr⟩ := hcr q' hq'; exact d1.row_ne (lookup_mem ht) (rowOf_mem hr) (by rw [rowOf_m hr]; exact hp) he
       have hcall := hcon gh hgh fn _ pout lls hfn hpin hpout hlls _ w (ls.map fun q => β.blk q.1) _ hty hnd2 (by rw [hval]; exact hlent) hAs hpre_f; rw [hava, hval] at hcall; refine hcall.mono ?_; have hrowsf : ∀ g ∈ blocksOf (cl.map fun q => (β.row q.1).1), g < w.heap.size ∧ g ∈ foot β S ∧ (σ.base ≤ g ∨ σ.lent g) ∧ g ∉ foot β (dropRs (cl.map (·.1)) S) := fun g hg => by
        obtain ⟨q', hq', p, hp, rfl⟩ := rows_blocks hg; obtain ⟨r, hr⟩ := hcr q' hq'; have hin : p.block ∈ foot β S := List.mem_append_right _ (List.mem_filterMap.2 ⟨r, rowOf_mem hr, by rw [rowOf_m hr, hp]; rfl⟩); refine ⟨(d1.foot_lt _ hin).1, hin, (d1.foot_lt _ hin).2, fun hf => ?_⟩
        rcases List.mem_append.1 hf with hf | hf
        ·obtain ⟨b, hb, e⟩ := List.mem_map.1 hf; exact d1.row_ne hb (rowOf_mem hr) (by rw [rowOf_m hr]; exact hp) e.symm
        ·obtain ⟨r', hr', e⟩ := List.mem_filterMap.1 hf; obtain ⟨hr1, hr2⟩ := List.mem_filter.1 hr'; rw [Option.map_eq_some_iff] at e; obtain ⟨p', hp', e⟩ := e; refine d1.rows_ne hr1 (rowOf_mem hr) (fun e' => ?_) hp' (by rw [rowOf_m hr]; exact hp) e; rw [rowOf_m hr] at e'; have : (cl.map (·.1)).contains r'.m = true := by rw [List.contains_iff_mem, e']; exact List.mem_map.2 ⟨q', hq', rfl⟩
         rw [this] at hr2; cases hr2
       rintro e w1 (⟨os, Bs, ho, rfl, hpost, hlent1, hrows1, hnd3, hmv, hfact, hkept⟩ | ⟨ch, rfl, hch, hkept⟩)
       case inr =>
        obtain ⟨q1, q2, q3, q4⟩ := hpan ch hch; refine hQ q1 ch w1 q2 (d.bl.trans (hkept.mono hb fun k hk hm => ?_)) (keepOk_den hlk d q3 q4 (fun b hlt ⟨q0, hq0, hb0⟩ hne => hkept.block b hlt fun hm => ?_) fun m hm => ?_)
        rotate_left
        ·rcases List.mem_append.1 hm with hm | hm
         ·obtain ⟨q, hq, rfl⟩ := List.mem_map.1 hm; exact hne q.1 (List.mem_map.2 ⟨q, hq, rfl⟩) rfl
         ·obtain ⟨q', hq', p, hp, he⟩ := rows_blocks hm; obtain ⟨r, hr⟩ := hcr q' hq'; exact d1.row_ne hq0 (rowOf_mem hr) (by rw [rowOf_m hr]; exact hp) (he.trans hb0.symm)
        ·obtain ⟨q, hq, rfl⟩ := List.mem_map.1 hm; obtain ⟨t, ht⟩ := hnames q hq; exact ⟨t, _, ht⟩
        rcases List.mem_append.1 hm with hm | hm
        ·obtain ⟨q, hq, rfl⟩ := List.mem_map.1 hm; obtain ⟨t, ht⟩ := hnames q hq
         rcases Sm.mine_or (d.bk _ (lookup_mem ht)).2 with h' | h'
         ·exact absurd hk (by have h' : σ.base ≤ β.blk q.1 := h'; omega)
         ·exact h'
        ·rcases (hrowsf _ hm).2.2.1 with h' | h'
         ·exact absurd hk (by omega)
         ·exact h'
       have hkept' : Kept (· ∈ (ls.map (·.1)).map β.blk ++ blocksOf (cl.map fun q => (β.row q.1).1)) w.heap.size w w1 := by rw [List.map_map]; exact hkept
       obtain ⟨ρ2, a2, hvars, h⟩ := alls_den _ { S with nv := S.nv + L.length + gh } ρg _ os ho h
       rw [foldSrts] at hvars; have hv := vars_at hvars; have a12 : Alike S.nv ρ1 ρ2 := agS.trans (fun k hk => a2 k (by show k < S.nv + L.length + gh; omega)) (Nat.le_refl _); have d2 := d1.alike a12 hSok; have htook2 : Took (dropRs (cl.map (·.1)) S) β (args.map (SV1.den β ρ1)) L ls := Took.blk (S := S) (S' := dropRs (cl.map (·.1)) S) rfl htook; split at h
       ·exact h.elim
       next S4 hS4 =>
       obtain ⟨g, e1, e2, e3, e4⟩ := backL_spec (S0 := dropRs (cl.map (·.1)) S) (β := β) (ρ := ρ2) hv L ls lls (lfsAr (shsLfs pout) + R.length) (dropRs (cl.map (·.1)) { { S with nv := S.nv + L.length + gh + (lfsSrts (shsLfs pout) ++ (List.replicate R.length Srt.l ++ lfsSrts lls.flatten)).length } with facts := S.facts ++ [FX.fact f (us ++ ((rx ++ catX (ls.map fun q : Nat × List C1 => flat S q.2)) ++ vars (S.nv + L.length) gh)) (vars (S.nv + L.length + gh) (lfsAr (shsLfs pout) + (R.length + lfsAr lls.flatten)))] }) htook2 hlent1 (by omega) hnd; rw [e1] at hS4; have hd2 := dropRs_den d2 (cl.map (·.1)); have d3 := hd2.backG (names := ls.map (·.1)) hkept' hb (fun g hg => ⟨(hrowsf g hg).2.2.2, (hrowsf g hg).2.2.1⟩) (fun m hm => by
        obtain ⟨q, hq, rfl⟩ := List.mem_map.1 hm; obtain ⟨t, ht⟩ := hnames q hq; exact ⟨t, _, ht⟩) e2 e3 e4 (fun F hF u hp hs => d2.fx F hF u hp fun b h1 h2 h3 => hs b h1 h2 (fun h4 => h3 (footDrop h4)) fun h4 => h3 (hrowsf b h4).2.1)
       have hfoot : foot β { dropRs (cl.map (·.1)) S with blk := (dropRs (cl.map (·.1)) S).blk.map g } = foot β (dropRs (cl.map (·.1)) S) := by
        unfold foot; simp only [List.map_map]
        congr 1
        refine List.map_congr_left fun q _ => ?_
        simp only [Function.comp_apply, (e2 q).1]
       have hUd : dens ρ2 (us ++ ((rx ++ catX (ls.map fun q : Nat × List C1 => flat S q.2)) ++ vars (S.nv + L.length) gh)) = dens ρg (us ++ ((rx ++ catX (ls.map fun q : Nat × List C1 => flat S q.2)) ++ vars (S.nv + L.length) gh)) := by
        refine dens_alike a2 _ ?_; rw [List.all_append, List.all_append, Bool.and_eq_true, Bool.and_eq_true]; exact ⟨List.all_eq_true.2 fun x hx => upto_mono (List.all_eq_true.1 hus x hx) (Nat.le_add_right _ _), List.all_eq_true.2 fun x hx => upto_mono (List.all_eq_true.1 hxs x hx) (by show S.nv ≤ S.nv + L.length + gh; omega), vars_upto _ _⟩
       have hbsf : ∀ b, b ∈ (ls.map (·.1)).map β.blk ++ blocksOf (cl.map fun q => (β.row q.1).1) → b ∈ foot β S := fun b hb => by
        rcases List.mem_append.1 hb with hb | hb
        ·obtain ⟨m, hm, rfl⟩ := List.mem_map.1 hb; obtain ⟨q, hq, rfl⟩ := List.mem_map.1 hm; obtain ⟨t, ht⟩ := hnames q hq; exact List.mem_append_left _ (List.mem_map.2 ⟨_, lookup_mem ht, rfl⟩)
        ·exact (hrowsf b hb).2.1
       have hsz := hkept.size; have hgone : ∀ b, b < w.heap.size → b ∉ foot β (dropRs (cl.map (·.1)) S) → b ∉ blocksOf Bs → b ∉ foot β S ∨ b ∈ blocksOf (cl.map fun q => (β.row q.1).1) := fun b h1 h2 h3 => by
        by_cases hm : b ∈ foot β S
        ·exact (footSplit hm).resolve_left h2 |> .inr
        ·exact .inl hm
       have strong : ∀ F ∈ S.facts ++ [FX.fact f (us ++ ((rx ++ catX (ls.map fun q : Nat × List C1 => flat S q.2)) ++ vars (S.nv + L.length) gh)) (vars (S.nv + L.length + gh) (lfsAr (shsLfs pout) + (R.length + lfsAr lls.flatten)))], ∀ u, σ.pre0 u → (∀ b, σ.base ≤ b → b < w1.heap.size → b ∉ foot β (dropRs (cl.map (·.1)) S) → b ∉ blocksOf Bs → u.heap[b]? = w1.heap[b]?) → F.den σ ρ2 u := by
        intro F hF u hu hs; have hsame : Same σ.base (foot β S) w u := fun b h1 h2 h3 => by
         have hn3 : b ∉ blocksOf Bs := fun hm => by
          rcases moved_mem hmv b hm with hm | hm
          ·exact h3 (hrowsf b hm).2.1
          ·omega
         exact (hs b h1 (by omega) (fun hm => h3 (footDrop hm)) hn3).trans (hkept'.block b h2 fun hl => h3 (hbsf b hl))
        rcases List.mem_append.1 hF with hF | hF
        ·exact d2.fx F hF u hu hsame
        ·have hF := List.mem_singleton.1 hF; subst hF; show σ.fact f (dens ρ2 _) (dens ρ2 _) u; rw [hUd, hvars]; refine hfact u (fun b h1 h2 h3 => hs b (by omega) h2 (fun hm => ?_) h3) ?_
         ·have := (hd2.foot_lt b hm).1; omega
         ·exact given_out (hp u) (given_alike agS hfu fun F hF => d1.fx F hF u hu hsame)
       have d4 : Den σ { { { dropRs (cl.map fun q : Nat × Nat × Nat × Nat => q.1) S with blk := (dropRs (cl.map fun q : Nat × Nat × Nat × Nat => q.1) S).blk.map g } with nv := S.nv + L.length + gh + (lfsSrts (shsLfs pout) ++ (List.replicate R.length Srt.l ++ lfsSrts lls.flatten)).length } with facts := S.facts ++ [FX.fact f (us ++ ((rx ++ catX (ls.map fun q : Nat × List C1 => flat S q.2)) ++ vars (S.nv + L.length) gh)) (vars (S.nv + L.length + gh) (lfsAr (shsLfs pout) + (R.length + lfsAr lls.flatten)))] } β ρ2 w0 a w1 :=
        ⟨d3.df, d3.nt, d3.fr, d3.bk, d3.rw, d3.nd, d3.rn, d3.ex, fun F hF u hu hs => strong F hF u hu fun b h1 h2 h3 _ => hs b h1 h2 (by rw [← hfoot] at h3; exact h3), d3.kn, d3.bl⟩
       obtain ⟨β', nr, d5, v5, _, _⟩ := claims_den cl (vars (S.nv + L.length + gh + lfsAr (shsLfs pout)) R.length) Bs _ S4 β d4 hS4 (rows_claims d2 hb hv R cl rx (lfsAr (shsLfs pout)) Bs hlr1 hrows1 hmv (by omega)) (List.nodup_append.1 hnd3).2.1 (fun g hg hf => by
        have hf : g ∈ foot β (dropRs (cl.map (·.1)) S) := by rw [← hfoot]; exact hf
        rcases moved_mem hmv g hg with h' | h'
        ·exact (hrowsf g h').2.2.2 hf
        ·have := (hd2.foot_lt g hf).1; omega) (fun F hF u hu hs => strong F hF u hu fun b h1 h2 h3 h4 => hs b h1 h2 (fun hm => h3 (by rw [← hfoot]; exact hm)) h4)
       have hvalr : (shsFresh (S.nv + L.length + gh) pout).map (SV1.den β' ρ2) = shsV os 0 pout := shsfresh_den hv pout 0 (by omega); have h := h (by show σ.post f (dens ρ2 _) (dens ρ2 _); rw [hUd, hvars]; exact hpost); have hal : Alike S0.nv ρ ρ2 := a0.trans (a1.trans a12 (Nat.le_refl _)) n0; have fin : ∀ v : SV, v.den β' ρ2 = resV os pout → (k (S4.put o.dst v)).den σ ρ2 → K (a.put o.dst (resV os pout)) w1 := by
        intro v hv2 hk2; rw [← hv2]; refine hK _ _ ⟨_, β', ρ2, hk2, d5.put o.dst v, hal, nr.wide (fun _ h => h.elim) (fun m hm => ?_), by rw [put_nv, v5]; show S0.nv ≤ S.nv + L.length + gh + _; omega⟩; have := List.all_eq_true.1 hrc m hm; rw [List.contains_iff_mem] at this; obtain ⟨q, hq, rfl⟩ := List.mem_map.1 this; exact htc q hq
       by_cases hone : ∃ v, shsFresh (S.nv + L.length + gh) pout = [v]
       ·obtain ⟨v, hv2⟩ := hone; rw [hv2] at h; refine fin (.s v) ?_ h; have hlen1 : ∃ s, pout = [s] := by
         cases pout with
         | nil => cases hv2
         | cons s ss =>
          cases ss with
          | nil => exact ⟨s, rfl⟩
          | cons s' ss => cases hv2
        obtain ⟨s, hs⟩ := hlen1; rw [hv2] at hvalr; rw [hs] at hvalr ⊢
        exact List.head_eq_of_cons_eq hvalr
       ·have h' : (k (S4.put o.dst (.tup (shsFresh (S.nv + L.length + gh) pout)))).den σ ρ2 := by
         split at h
         ·next v hv2 => exact absurd ⟨v, hv2⟩ hone
         ·exact h
        refine fin (.tup (shsFresh (S.nv + L.length + gh) pout)) ?_ h'; show Value.tuple ((shsFresh (S.nv + L.length + gh) pout).map (SV1.den β' ρ2)).toArray = _; rw [hvalr]; unfold resV; split
        ·next s => exact absurd ⟨_, rfl⟩ hone
        ·rfl
      ·exact h.elim
     ·exact h.elim
  ·exact h.elim
 ·exact h.elim
end
section
variable {P : Program} {Γ : Cfg} {σ : Sm} {S : St} {k : St → VC} {β : Beta} {ρ : Nat → U} {a : Act} {w w0 : World} {dst : Option Nat} {type : Nat} {pos : String} {after : Array Edge} {guard : Option (Nat × Bool)} {K : Act → World → Prop} {Q : Exit → Act → World → Prop}
def sizeOr (P : Program) (t : Nat) : Nat := ((P.info? t).map (·.size)).getD 0
theorem run_places (w : World) : ∀ l : List Field, l.all (fun f => (P.info? f.type).isSome) = true → (l.mapM fun f => (do pure (f.offset, ← sizeOf f.type) : Sem (Nat × Nat))).run P w = .ok (l.map fun f => (f.offset, sizeOr P f.type)) w
 | [], _ => rfl
 | f :: l, h => by
  simp only [List.all_cons, Bool.and_eq_true] at h; obtain ⟨i, hi⟩ := Option.isSome_iff_exists.1 h.1; rw [List.mapM_cons]; simp only [Sem.run_bind, run_size hi, Result.andThen_ok, Sem.run_pure, run_places w l h.2]; simp [sizeOr, hi]
theorem fillS_den {fs : Array Field} (hfr : ∀ t v, S.fr.lookup t = some v → a.tmps[t]? = some (v.den β ρ)) : ∀ (parts : List (Nat × Operand)) (cs cs' : List C1) (arr : Array Value), fillS P fs S cs parts = some cs' → arr.toList = cs.map (C1.den β ρ) → ∃ arr', Instr.fill (fun i => (fs.map fun f => (f.offset, sizeOr P f.type))[i]?) arr (parts.map fun p => (p.1, a.eval p.2)) = some arr' ∧ arr'.toList = cs'.map (C1.den β ρ)
 | [], cs, cs', arr, h, ha => by
  injection h with h
  subst h; exact ⟨arr, rfl, ha⟩
 | p :: l, cs, cs', arr, h, ha => by
  unfold fillS at h; split at h
  ·next f v hf hx =>
   split at h
   ·next i hi =>
    split at h
    ·next hc =>
     obtain ⟨h1, h2, h3⟩ := hc; have hv : (a.eval p.2).cells = (v.cells.map (C1.den β ρ)).toArray := by
      rw [opd_den hfr hx]; exact cells_of h3
     have hsz : arr.size = cs.length := by
      have := congrArg List.length ha; simpa using this
     have hvl : (a.eval p.2).cells.size = i.size := by rw [hv]; simpa using h1
     have hfold : ((a.eval p.2).cells.zipIdx.foldl (fun cs (x : Value × Nat) => cs.setIfInBounds (f.offset + x.2) x.1) arr).toList = (splice cs f.offset v.cells).map (C1.den β ρ) := by
      rw [← Array.foldl_toList, Array.toList_zipIdx]; have := lay_cells (a.eval p.2).cells.toList arr f.offset 0 (by simp [hvl]; omega); rw [splice_den, ← ha]; rw [hv] at this ⊢
      simpa using this
     obtain ⟨arr', g1, g2⟩ := fillS_den hfr l _ cs' _ h hfold; refine ⟨arr', ?_, g2⟩; rw [List.map_cons]; unfold Instr.fill; have hp : (fs.map fun f => (f.offset, sizeOr P f.type))[p.1]? = some (f.offset, i.size) := by
      rw [Array.getElem?_map, hf]; simp [sizeOr, hi]
     simp only [hp]; rw [if_neg (by simp [hvl]; omega)]; exact g1
    ·cases h
   ·cases h
  ·cases h
theorem a_build {t : Nat} {parts : Array (Nat × Operand)} (d : Den σ S β ρ w0 a w) (h : (act P Γ ⟨dst, .build t parts, type, pos, after, guard⟩ S k).den σ ρ) (hK : ∀ a' w', AOut σ S k β ρ w0 (touch ⟨dst, .build t parts, type, pos, after, guard⟩ S) a' w' → K a' w') : Oper.wp P ⟨dst, .build t parts, type, pos, after, guard⟩ a w K Q := by
 unfold act at h; simp only at h; split at h
 ·next fs z ht hz =>
  rw [Option.bind_eq_some_iff] at hz; obtain ⟨i, hi, hz⟩ := hz; split at h
  ·next cs hcs =>
   split at h
   ·next cs' hcs' =>
    split at hcs'
    ·next hall =>
     have hzc : (cs.map (C1.den β ρ)).toArray = z.cells := (constS_cells (β := β) (ρ := ρ) hcs).symm; obtain ⟨arr', g1, g2⟩ := fillS_den (P := P) (β := β) (ρ := ρ) d.fr parts.toList cs cs' z.cells hcs' (by rw [← hzc]); have hr : (execOp a.eval ⟨dst, .build t parts, type, pos, after, guard⟩).run P w = .ok (.value (.agg arr')) w := by
      show (do pure (.value (← Instr.build t (parts.map fun (i, x) => (i, a.eval x)))) : Sem Next).run P w = _; refine run_v ?_; unfold Instr.build zeroValue; have hl : (parts.map fun (i, x) => (i, a.eval x)).toList = parts.toList.map fun p => (p.1, a.eval p.2) := by simp
      have hm : (fs.mapM fun f => (do pure (f.offset, ← sizeOf f.type) : Sem (Nat × Nat))).run P w = .ok (fs.map fun f => (f.offset, sizeOr P f.type)) w := by
       rw [Array.mapM_eq_mapM_toList]; simp only [Sem.run_bind, Sem.run_map, run_places w fs.toList hall, Result.andThen_ok, Sem.run_pure]
       congr 1
       apply Array.toList_inj.1; simp
      simp only [Sem.run_bind, run_info hi, Result.andThen_ok, hz, Sem.run_pure, run_und w ht, hm, hl, g1]
     have e : (SV.s (.agg cs')).den β ρ = .agg arr' := by
      show Value.agg (cs'.map (C1.den β ρ)).toArray = _; rw [← g2]
     refine wp_value hr (hK _ _ ⟨_, β, ρ, h, ?_, Alike.refl _ _, Near.refl _ _ _, by rw [put_nv]; exact Nat.le_refl _⟩); have := d.put dst (.s (.agg cs')); rw [e] at this; exact this
    ·cases hcs'
   ·exact h.elim
  ·exact h.elim
 ·exact h.elim
end
end Go.Proofs.Ytgjbcahpgkchfaa.Vc
