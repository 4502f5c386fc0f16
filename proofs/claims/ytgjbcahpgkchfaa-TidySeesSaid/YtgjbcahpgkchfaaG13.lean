/- Of the texts Vc5, Vc6, Vc7, Vc8. -/
import Derived.Test.YtgjbcahpgkchfaaG12
import Derived.Laws.Cells
import Derived.Laws.StructEq
import Derived.Laws.BytesArg
import Derived.Laws.IdiomStrings
import Derived.Laws.CopyRow
set_option linter.unusedSimpArgs false
set_option linter.unusedVariables false
namespace Go.Proofs.Ytgjbcahpgkchfaa.Vc
open Go Go.RowKit
section
variable {P : Program}
theorem run_isAgg' {t : TypeId} {d : TypeDesc} (h : P.underlying t = some d) (w : World) : (isAgg t).run P w = .ok (isAggB P t) w := by
 unfold isAgg isAggB; simp only [Sem.run_bind, run_und w h, Result.andThen_ok, h]; cases d <;> rfl
theorem run_info {t : TypeId} {i : TypeInfo} (h : P.info? t = some i) (w : World) : (typeInfo t).run P w = .ok i w := by
 simp [typeInfo, program, Sem.run, h, Sem.run_bind]
theorem run_size {t : TypeId} {i : TypeInfo} (h : P.info? t = some i) (w : World) : (sizeOf t).run P w = .ok i.size w := by
 simp [sizeOf, Sem.run_bind, run_info h]
theorem cells_get (β : Beta) (ρ : Nat → U) (cs : List C1) (j : Nat) : (cs.map (C1.den β ρ)).toArray[j]? = (cs[j]?).map (C1.den β ρ) := by simp
theorem partS_spec {t off : Nat} {cs : List C1} {v : SV1} (h : partS P t cs off = some v) : ∃ i d, P.info? t = some i ∧ P.underlying t = some d ∧ ((isAggB P t = true ∧ off + i.size ≤ cs.length ∧ v = .agg ((cs.drop off).take i.size)) ∨ (isAggB P t = false ∧ ∃ c, cs[off]? = some c ∧ v = .one c)) := by
 unfold partS at h; split at h
 ·cases h
 ·cases h
 ·next i d hi hd =>
  refine ⟨i, d, hi, hd, ?_⟩; split at h
  ·next ha =>
   split at h
   ·next hl =>
    injection h with h
    exact .inl ⟨ha, hl, h.symm⟩
   ·cases h
  ·next ha =>
   rw [Option.map_eq_some_iff] at h; obtain ⟨c, hc, hv⟩ := h; exact .inr ⟨by simpa using ha, c, hc, hv.symm⟩
theorem part_den (β : Beta) (ρ : Nat → U) {t off : Nat} {cs : List C1} {v : SV1} (h : partS P t cs off = some v) (w : World) : (part t (cs.map (C1.den β ρ)).toArray off).run P w = .ok (v.den β ρ) w := by
 obtain ⟨i, d, hi, hd, h⟩ := partS_spec h; unfold part
 rcases h with ⟨ha, hl, rfl⟩ | ⟨ha, c, hc, rfl⟩
 ·simp only [Sem.run_bind, run_isAgg' hd, Result.andThen_ok, ha, if_true, run_size hi, Sem.run_pure, SV1.den]
  congr 2
  apply Array.toList_inj.1; simp [List.extract_eq_take_drop, List.map_take, List.map_drop]
 ·simp only [Sem.run_bind, run_isAgg' hd, Result.andThen_ok, ha]; rw [if_neg (by simp), cells_get, hc]; rfl
theorem mkAnd_den (ρ : Nat → U) (x y : X) : ((mkAnd x y).den ρ).B = ((x.den ρ).B && (y.den ρ).B) := by
 unfold mkAnd; split <;> simp [X.den, U.B, BOp.den]
theorem eqK_den (β : Beta) (ρ : Nat → U) {t : Nat} {x y : C1} {q : X} (h : eqK P t x y = some q) (D : Nat) (w : World) : (Op.equalIn (D + 1) t (x.den β ρ) (y.den β ρ)).run P w = .ok (q.den ρ).B w := by
 unfold eqK at h; split at h
 ·next k a k' b hd =>
  split at h
  ·next hk =>
   subst hk; injection h with h; subst h
   rw [mkEq_den]; exact run_equalIn_int w D t _ _ _ _ hd
  ·cases h
 ·next a b hd => injection h with h; subst h; exact run_equalIn_bool' w D t _ _ hd
 ·next a b hd => injection h with h; subst h; exact run_equalIn_string w D t _ _ hd
 ·cases h
theorem eqFs_den (β : Beta) (ρ : Nat → U) {d : Nat} {f : Nat → SV1 → SV1 → Option X} {l m : List C1} {w : World} (hf : ∀ t x y q, f t x y = some q → (Op.equalIn d t (x.den β ρ) (y.den β ρ)).run P w = .ok (q.den ρ).B w) : ∀ (fs : List Field) {q : X}, eqFs P f l m fs = some q → (Op.eqFields d (l.map (C1.den β ρ)).toArray (m.map (C1.den β ρ)).toArray fs).run P w = .ok (q.den ρ).B w
 | [], q, h => by injection h with h; subst h; rfl
 | g :: fs, q, h => by
  unfold eqFs at h; unfold Op.eqFields; split at h
  ·next hn =>
   rw [if_pos hn]; split at h
   ·next a b ha hb =>
    split at h
    ·next q1 q2 h1 h2 =>
     injection h with h; subst h
     simp only [Sem.run_bind, part_den β ρ ha w, part_den β ρ hb w, Result.andThen_ok, hf _ _ _ _ h1, mkAnd_den]; cases (q1.den ρ).B
     ·rfl
     ·exact eqFs_den β ρ hf fs h2
    ·cases h
   ·cases h
  ·next hn =>
   rw [if_neg hn]; exact eqFs_den β ρ hf fs h
theorem fieldsOf_eq {t : Nat} {fs : Array Field} (h : P.underlying t = some (.struct fs)) : P.fieldsOf t = fs := by unfold Program.fieldsOf; rw [h]
theorem eqV_den (β : Beta) (ρ : Nat → U) (w : World) : ∀ (n D : Nat) (t : Nat) (x y : SV1) (q : X), n ≤ D → eqV P n t x y = some q → (Op.equalIn D t (x.den β ρ) (y.den β ρ)).run P w = .ok (q.den ρ).B w := by
 intro n
 induction n with
 | zero => intro D t x y q _ h; unfold eqV at h; cases h
 | succ n ih =>
  intro D t x y q hD h; obtain ⟨D, rfl⟩ : ∃ E, D = E + 1 := ⟨D - 1, by omega⟩
  cases x with
  | one a => cases y with
   | one b => exact eqK_den β ρ h D w
   | agg m => cases h
  | agg l => cases y with
   | one b => cases h
   | agg m =>
    unfold eqV at h; split at h
    ·next fs hd =>
     split at h
     ·next hs =>
      have e := fieldsOf_eq hd; refine (run_equalIn_struct w D t _ _ (by rw [e]; exact hd) hs).trans ?_; rw [e]; exact eqFs_den β ρ (fun t x y q h => ih D t x y q (by omega) h) fs.toList h
     ·cases h
    ·cases h
theorem eqFs_mem {f : Nat → SV1 → SV1 → Option X} {l m : List C1} : ∀ (fs : List Field) {q : X}, eqFs P f l m fs = some q → ∀ g ∈ fs, g.name ≠ "_" → ∃ a b r, f g.type a b = some r
 | [], _, _, g, hg, _ => by cases hg
 | g0 :: fs, q, h, g, hg, hn => by
  unfold eqFs at h
  rcases List.mem_cons.1 hg with rfl | hg
  ·rw [if_pos hn] at h; split at h
   ·next a b _ _ =>
    split at h
    ·next q1 q2 h1 _ => exact ⟨a, b, q1, h1⟩
    ·cases h
   ·cases h
  ·split at h
   ·split at h
    ·split at h
     ·next h2 => exact eqFs_mem fs h2 g hg hn
     ·cases h
    ·cases h
   ·exact eqFs_mem fs h g hg hn
theorem eqV_guard : ∀ (n D : Nat) (t : Nat) (x y : SV1) (q : X), n ≤ D → eqV P n t x y = some q → P.eqGuardType D t = false := by
 intro n
 induction n with
 | zero => intro D t x y q _ h; unfold eqV at h; cases h
 | succ n ih =>
  intro D t x y q hD h; obtain ⟨D, rfl⟩ : ∃ E, D = E + 1 := ⟨D - 1, by omega⟩
  unfold Program.eqGuardType; cases x with
  | one a => cases y with
   | one b =>
    replace h : eqK P t a b = some q := h; unfold eqK at h; split at h
    ·next hd => rw [hd]
    ·next hd => rw [hd]
    ·next hd => rw [hd]
    ·cases h
   | agg m => cases h
  | agg l => cases y with
   | one b => cases h
   | agg m =>
    unfold eqV at h; split at h
    ·next fs hd =>
     rw [hd]; split at h
     ·show (fs.any fun f => f.name != "_" && P.eqGuardType D f.type) = false; rw [← Array.any_toList, List.any_eq_false]; intro g hg hc; rw [Bool.and_eq_true] at hc; obtain ⟨a, b, r, hr⟩ := eqFs_mem fs.toList h g hg (by simpa using hc.1); rw [ih D g.type a b r (by omega) hr] at hc; cases hc.2
     ·cases h
    ·cases h
theorem load_own (β : Beta) (ρ : Nat → U) {t off g ty : Nat} {cs : List C1} {v : SV1} (h : partS P t cs off = some v) {w : World} (hg : w.heap[g]? = some (.cells (cs.map (C1.den β ρ)).toArray ty (0, 0))) : (loadVar t ⟨g, off, none⟩).run P w = .ok (v.den β ρ) w := by
 obtain ⟨i, d, hi, hd, h⟩ := partS_spec h; have hc : ∀ j, w.cell? ⟨g, off + j, none⟩ = (cs[off + j]?).map (C1.den β ρ) := by
  intro j; unfold World.cell?; simp only [hg]; rw [if_neg (by simp), cells_get]
 unfold loadVar
 rcases h with ⟨ha, hl, rfl⟩ | ⟨ha, c, hcc, rfl⟩
 ·simp only [Sem.run_bind, run_isAgg' hd, Result.andThen_ok, ha, if_true, run_size hi]; have := run_loadCells_list (P := P) w ⟨g, off, none⟩ (((cs.drop off).take i.size).map (C1.den β ρ)) (by
   intro j v hv; rw [add_plain, hc]; rw [List.getElem?_map, List.getElem?_take, List.getElem?_drop] at hv; split at hv
   ·exact hv
   ·cases hv)
  have hlen : (((cs.drop off).take i.size).map (C1.den β ρ)).length = i.size := by simp; omega
  rw [hlen] at this; rw [this]; rfl
 ·simp only [Sem.run_bind, run_isAgg' hd, Result.andThen_ok, ha]; have := hc 0; rw [Nat.add_zero, hcc] at this; rw [if_neg (by simp), run_load, this]; rfl
theorem shOf_spec {t : Nat} {sh : Sh} (h : shOf P t = some sh) : ∃ d, P.underlying t = some d ∧ ((isAggB P t = true ∧ ∃ ls, sh = .agg ls) ∨ (isAggB P t = false ∧ ∃ l, sh = .one l)) := by
 unfold shOf at h; split at h
 ·next ls hl =>
  have : ∃ d, P.underlying t = some d := by
   unfold leafs at hl; split at hl <;> first | exact ⟨_, by assumption⟩ | cases hl
  obtain ⟨d, hd⟩ := this; refine ⟨d, hd, ?_⟩; split at h
  ·next ha => injection h with h; exact .inl ⟨ha, _, h.symm⟩
  ·next ha =>
   split at h
   ·injection h with h; exact .inr ⟨by simpa using ha, _, h.symm⟩
   ·cases h
 ·cases h
theorem freshs_length (n : Nat) : ∀ ls : List Lf, (freshs n ls).length = ls.length
 | [] => rfl
 | l :: ls => congrArg (· + 1) (freshs_length _ ls)
theorem load_at (β : Beta) (ρ : Nat → U) {t n : Nat} {sh : Sh} {i : TypeInfo} (h : shOf P t = some sh) (hi : P.info? t = some i) (hn : sh.lfs.length = i.size) {w : World} {p : Addr} {vs : List Value} (hv : vs = (freshs n sh.lfs).map (C1.den β ρ)) (hp : ∀ j v, vs[j]? = some v → w.cell? (p.add j) = some v) : (loadVar t p).run P w = .ok ((sh.fresh n).den β ρ) w := by
 obtain ⟨d, hd, h⟩ := shOf_spec h; have hlen : vs.length = i.size := by rw [hv, List.length_map, freshs_length, hn]
 unfold loadVar
 rcases h with ⟨ha, ls, rfl⟩ | ⟨ha, l, rfl⟩
 ·simp only [Sem.run_bind, run_isAgg' hd, Result.andThen_ok, ha, if_true, run_size hi]; have := run_loadCells_list (P := P) w p vs hp; rw [hlen] at this; rw [this, hv]; rfl
 ·simp only [Sem.run_bind, run_isAgg' hd, Result.andThen_ok, ha]; have h0 := hp 0 ((l.fresh n).den β ρ) (by rw [hv]; rfl); have e : p.add 0 = p := by simp [Addr.add]
  rw [e] at h0; rw [if_neg (by simp), run_load, h0]; rfl
def Exd (S : St) (β : Beta) (ρ : Nat → U) : Prop := ∀ e ∈ S.exp, β.row e.1 = ((e.2.1.den ρ).P, (e.2.2.den ρ).N)
theorem expd_den {S : St} {β : Beta} {ρ : Nat → U} (hx : Exd S β ρ) {c c' : C1} (h : c.expd S = some c') : c'.den β ρ = c.den β ρ := by
 unfold C1.expd at h; split at h
 ·next m n =>
  rw [Option.map_eq_some_iff] at h; obtain ⟨e, he, rfl⟩ := h; have := hx _ (lookup_mem he); simp only at this; simp only [C1.den, this]
 ·cases h
 ·cases h
 ·cases h
 ·cases h
 ·injection h with h; rw [h]
theorem x_den {S : St} {β : Beta} {ρ : Nat → U} (hx : Exd S β ρ) {c : C1} {x : X} (h : c.x S = some x) : (x.den ρ).V = c.den β ρ := by
 unfold C1.x at h; split at h <;> first | (next h' => (try (rw [← expd_den hx h'])); injection h with h; subst h; rfl) | cases h
theorem xs_den {S : St} {β : Beta} {ρ : Nat → U} (hx : Exd S β ρ) : ∀ {l : List C1} {xs : List X}, l.mapM (C1.x S) = some xs → (xs.map fun x => (x.den ρ).V) = l.map (C1.den β ρ)
 | [], xs, h => by simp at h; subst h; rfl
 | c :: l, xs, h => by
  rw [List.mapM_cons] at h; simp only [Option.bind_eq_bind, Option.bind_eq_some_iff, Option.pure_def, Option.some.injEq] at h; obtain ⟨x, hc, xs', hl, rfl⟩ := h; rw [List.map_cons, List.map_cons, x_den hx hc, xs_den hx hl]
end
def MemOk (σ : Sm) (fs : List FX) (okm : Nat → Bool) (S : St) (β : Beta) (ρ : Nat → U) (w : World) : Prop :=
 (∀ F ∈ fs, F.den σ ρ w) ∧
 (∀ m t cs, S.block m = some (t, cs) → okm m = true → w.heap[β.blk m]? = some (.cells (cs.map (C1.den β ρ)).toArray t (0, 0))) ∧
 (∀ m r, S.rowOf m = some r → okm m = true → w.ownsRow 0 r.e r.size (.slice (β.row r.m).1 (r.n.den ρ).N (β.row r.m).2) (r.n.den ρ).N (r.xs.den ρ).L)
def QOut (P : Program) (σ : Sm) (fs : List FX) (okm : Nat → Bool) (o : Oper) (S : St) (k : SV → St → VC) (β : Beta) (ρ : Nat → U) (a : Act) : Prop :=
 ∃ (v : SV) (ρ' : Nat → U) (S' : St), Alike S.nv ρ ρ' ∧ Sim S S' ∧ (ρ' = ρ ∨ S.ok = true) ∧ (∀ c ∈ S'.known, c.holds ρ') ∧ (k v S').den σ ρ' ∧ ∀ w, MemOk σ fs okm S β ρ' w → (execOp a.eval o).run P w = .ok (.value (v.den β ρ')) w
section
variable {P : Program} {σ : Sm} {fs : List FX} {okm : Nat → Bool} {S : St} {k : SV → St → VC} {β : Beta} {ρ : Nat → U} {a : Act} {o : Oper}
theorem QOut.plain (hkn : ∀ c ∈ S.known, c.holds ρ) {v : SV} (hk : (k v S).den σ ρ) (h : ∀ w, MemOk σ fs okm S β ρ w → (execOp a.eval o).run P w = .ok (.value (v.den β ρ)) w) : QOut P σ fs okm o S k β ρ a :=
 ⟨v, ρ, S, Alike.refl _ _, Sim.refl S, .inl rfl, hkn, hk, h⟩
theorem QOut.needs (hkn : ∀ c ∈ S.known, c.holds ρ) {v : SV} {l : List X} (hk : (needs S l fun S => k v S).den σ ρ) (h : (∀ c ∈ l, c.holds ρ) → ∀ w, MemOk σ fs okm S β ρ w → (execOp a.eval o).run P w = .ok (.value (v.den β ρ)) w) : QOut P σ fs okm o S k β ρ a := by
 obtain ⟨h1, S', h2, h3, h4, h5⟩ := needs_den hkn hk; exact ⟨v, ρ, S', Alike.refl _ _, h2, .inl rfl, h4, h5, h h1⟩
theorem QOut.needsF (hfw : ∃ w, ∀ F ∈ fs, F.den σ ρ w) (hkn : ∀ c ∈ S.known, c.holds ρ) {v : SV} {l : List X} (hk : (needsF fs S l fun S => k v S).den σ ρ) (h : (∀ c ∈ l, c.holds ρ) → ∀ w, MemOk σ fs okm S β ρ w → (execOp a.eval o).run P w = .ok (.value (v.den β ρ)) w) : QOut P σ fs okm o S k β ρ a := by
 obtain ⟨h1, S', h2, h3, h4, h5⟩ := needsF_den hfw hkn hk; exact ⟨v, ρ, S', Alike.refl _ _, h2, .inl rfl, h4, h5, h h1⟩
theorem run_v {s : Sem Value} {v : Value} {w w' : World} (h : s.run P w = .ok v w') : (do pure (.value (← s)) : Sem Next).run P w = .ok (.value v) w' := by
 simp only [Sem.run_bind, h, Result.andThen_ok, Sem.run_pure]
theorem exs_den : ∀ (l : List Srt) (S : St) (ρ : Nat → U) (k : St → VC), (exs l S k).den σ ρ → ∃ ρ', Alike S.nv ρ ρ' ∧ (k { S with nv := S.nv + l.length }).den σ ρ'
 | [], S, ρ, k, h => ⟨ρ, Alike.refl _ _, h⟩
 | so :: l, S, ρ, k, h => by
  unfold exs at h; obtain ⟨x, _, h⟩ := VC.ex_inst h; obtain ⟨ρ', h1, h2⟩ := exs_den l _ _ k h; refine ⟨ρ', (Alike.upd S.nv ρ x).trans h1 (Nat.le_succ _), ?_⟩; simp only [List.length_cons] at h2 ⊢
  rw [show S.nv + (l.length + 1) = S.nv + 1 + l.length by omega]; exact h2
theorem field_spec {t i : Nat} {f : Field} (h : fieldOf P t i = some f) : ∃ fs, P.underlying t = some (.struct fs) ∧ fs[i]? = some f := by
 unfold fieldOf at h; split at h
 ·exact ⟨_, by assumption, h⟩
 ·cases h
theorem run_fieldAt {t i : Nat} {f : Field} (h : fieldOf P t i = some f) (hz : ¬ (sizeB P f.type).getD 0 = 0) (p : Addr) (w : World) : (Instr.fieldAt t (.pointer (some p)) i).run P w = .ok (.pointer (some (p.add f.offset))) w := by
 obtain ⟨fs, hf, hi⟩ := field_spec h; unfold sizeB at hz; cases hin : P.info? f.type with
 | none => rw [hin] at hz; simp at hz
 | some i' =>
  rw [hin] at hz; have hz : ¬ i'.size = 0 := hz; unfold Instr.fieldAt Instr.sureAddr fieldPlace; simp only [Sem.run_bind, run_und w hf, Result.andThen_ok, hi, Sem.run_pure, run_size hin, hz, if_false, Sem.run_ite]
theorem isnil_den (ρ : Nat → U) (p : X) : ((mkIsnil p).den ρ).B = (p.den ρ).P.isNone := by
 unfold mkIsnil; split
 ·show (X.den ρ _).P.isNone = (Option.map _ (X.den ρ _).P).isNone; simp
 ·rfl
theorem holds_not_isnil {ρ : Nat → U} {p : X} (h : (X.un .not (mkIsnil p)).holds ρ) : ∃ q, (p.den ρ).P = some q := by
 rw [X.holds_iff] at h; have h : (!((mkIsnil p).den ρ).B) = true := h; rw [isnil_den] at h; cases hp : (p.den ρ).P with
 | none => rw [hp] at h; cases h
 | some q => exact ⟨q, rfl⟩
theorem run_indexAt {t e : Nat} {i : TypeInfo} (ht : P.underlying t = some (.slice e)) (hi : P.info? e = some i) (p : Addr) (n c : Nat) (k : IntKind) (q : Int) (h0 : 0 ≤ q) (h1 : q < (n : Int)) (w : World) : (Instr.indexAt t (.slice (some p) n c) (.int k q)).run P w = .ok (.pointer (some (p.add (q.toNat * i.size)))) w := by
 unfold Instr.indexAt asIntOf; simp only [Sem.run_bind, Sem.run_pure, Result.andThen_ok, run_und w ht, run_size hi]; rw [if_pos ⟨h0, h1⟩]; simp only [Sem.run_bind, Sem.run_pure, Result.andThen_ok, run_size hi]
theorem le_den {x y : X} (h : (mkLe x y).holds ρ) : (x.den ρ).I ≤ (y.den ρ).I := by
 rw [X.holds_iff, mkLe_den] at h; exact of_decide_eq_true h
theorem lt_den {x y : X} (h : (mkLt x y).holds ρ) : (x.den ρ).I < (y.den ρ).I := by
 rw [X.holds_iff, mkLt_den] at h; exact of_decide_eq_true h
end
section
variable {P : Program} {Γ : Cfg} {σ : Sm} {fs : List FX} {okm : Nat → Bool} {S : St} {k : SV → St → VC} {β : Beta} {ρ : Nat → U} {a : Act} {dst : Option Nat} {type : Nat} {pos : String} {after : Array Edge} {guard : Option (Nat × Bool)}
theorem q_copy {x : Operand} {op : Op} (hop : op = .move x ∨ op = .assign x) (hkn : ∀ c ∈ S.known, c.holds ρ) (hfr : ∀ t v, S.fr.lookup t = some v → a.tmps[t]? = some (v.den β ρ)) (h : (quiet P Γ fs okm ⟨dst, op, type, pos, after, guard⟩ S k).den σ ρ) : QOut P σ fs okm ⟨dst, op, type, pos, after, guard⟩ S k β ρ a := by
 have h : (match S.opd x with | some v => k v S | none => .no 1).den σ ρ := by rcases hop with rfl | rfl <;> exact h
 split at h
 ·next v hv =>
  refine QOut.plain hkn h fun w _ => ?_
  rcases hop with rfl | rfl <;> (show Result.ok (Next.value (a.eval x)) w = _; rw [opd_den hfr hv])
 ·exact h.elim
theorem eq_bin {t : Nat} {c d : C1} {q : X} (hq : eqC P t c d = some q) : binOp .eql t (c.den β ρ) (d.den β ρ) = (do pure (.bool (← Op.equal t (c.den β ρ) (d.den β ρ)))) ∧ binOp .neq t (c.den β ρ) (d.den β ρ) = (do pure (.bool (!(← Op.equal t (c.den β ρ) (d.den β ρ))))) := by
 unfold eqC at hq; split at hq <;> first | exact ⟨rfl, rfl⟩ | cases hq
theorem eq_run {t : Nat} {c d : C1} {q : X} (hq : eqC P t c d = some q) (x y : Operand) (w : World) : ((do eqGuard .eql t x y (c.den β ρ) (d.den β ρ); binOp .eql t (c.den β ρ) (d.den β ρ)) : Sem Value).run P w = .ok (.bool (q.den ρ).B) w ∧ ((do eqGuard .neq t x y (c.den β ρ) (d.den β ρ); binOp .neq t (c.den β ρ) (d.den β ρ)) : Sem Value).run P w = .ok (.bool ((X.not q).den ρ).B) w := by
 have hk : (∃ k a, c = .int k a) ∨ (∃ a, c = .str a) ∨ (∃ a, c = .bool a) ∨ (∃ a, c = .ptr a) ∨ (∃ a b, c = .own a b) ∨ (∃ a n m, c = .slc a n m) := by
  rcases eqC_kind hq with h | h | h | h
  ·exact .inr (.inr (.inl h))
  ·exact .inr (.inr (.inr (.inl h)))
  ·exact .inr (.inr (.inr (.inr (.inl h))))
  ·exact .inr (.inr (.inr (.inr (.inr h))))
 have g1 := eqGuard_den (P := P) (w := w) (ρ := ρ) (β := β) (o := .eql) (x := c) (y := d) t x y hk; have g2 := eqGuard_den (P := P) (w := w) (ρ := ρ) (β := β) (o := .neq) (x := c) (y := d) t x y hk; have he := eqC_den (w := w) (ρ := ρ) (β := β) hq; rw [(eq_bin hq).1, (eq_bin hq).2, not_den]; simp only [Sem.run_bind, g1, g2, he, Result.andThen_ok, Sem.run_pure]; exact ⟨trivial, trivial⟩
theorem eqV_run {t : Nat} {c d : List C1} {q : X} (hq : eqV P 8 t (.agg c) (.agg d) = some q) (x y : Operand) (w : World) : ((do eqGuard .eql t x y ((SV1.agg c).den β ρ) ((SV1.agg d).den β ρ); binOp .eql t ((SV1.agg c).den β ρ) ((SV1.agg d).den β ρ)) : Sem Value).run P w = .ok (.bool (q.den ρ).B) w ∧ ((do eqGuard .neq t x y ((SV1.agg c).den β ρ) ((SV1.agg d).den β ρ); binOp .neq t ((SV1.agg c).den β ρ) ((SV1.agg d).den β ρ)) : Sem Value).run P w = .ok (.bool ((X.not q).den ρ).B) w := by
 have hg := eqV_guard 8 P.depth t _ _ q (by unfold Program.depth Made.depth; omega) hq; have he := eqV_den β ρ w 8 10000 t _ _ q (by omega) hq; rw [not_den]; simp only [SV1.den] at he ⊢
 simp only [Sem.run_bind, run_eqGuard_agg w _ t x y _ _ hg, Result.andThen_ok, run_eql_struct, run_neq_struct, he]; exact ⟨trivial, trivial⟩
theorem q_binOp {op : BinOp} {t yt : Nat} {x y : Operand} (hkn : ∀ c ∈ S.known, c.holds ρ) (hfr : ∀ t v, S.fr.lookup t = some v → a.tmps[t]? = some (v.den β ρ)) (h : (quiet P Γ fs okm ⟨dst, .binOp op t x y yt, type, pos, after, guard⟩ S k).den σ ρ) : QOut P σ fs okm ⟨dst, .binOp op t x y yt, type, pos, after, guard⟩ S k β ρ a := by
 unfold quiet at h; simp only at h; split at h
 ·next c d hx hy =>
  have ex := opd_den hfr hx; have ey := opd_den hfr hy; split at h
  ·next v ns hb =>
   refine QOut.needs hkn h fun hn w _ => ?_
   have hg := eqGuard_den (P := P) (w := w) (ρ := ρ) (β := β) (o := op) (x := c) (y := d) t x y (by rcases binC_kind hb with h | h; exact .inl h; exact .inr (.inl h)); have hr := binC_den (P := P) (w := w) (β := β) hb hn t; show (do pure (.value (← (do eqGuard op t x y (a.eval x) (a.eval y); binOp op t (a.eval x) (a.eval y)))) : Sem Next).run P w = _
   rw [ex, ey]; exact run_v (by simp only [SV.den, SV1.den, Sem.run_bind, hg, Result.andThen_ok, hr])
  ·split at h
   ·next q hq _ =>
    refine QOut.plain hkn h fun w _ => ?_
    show (do pure (.value (← (do eqGuard .eql t x y (a.eval x) (a.eval y); binOp .eql t (a.eval x) (a.eval y)))) : Sem Next).run P w = _
    rw [ex, ey]; exact run_v ((eq_run hq x y w).1)
   ·next q hq _ =>
    refine QOut.plain hkn h fun w _ => ?_
    show (do pure (.value (← (do eqGuard .neq t x y (a.eval x) (a.eval y); binOp .neq t (a.eval x) (a.eval y)))) : Sem Next).run P w = _
    rw [ex, ey]; exact run_v ((eq_run hq x y w).2)
   ·exact h.elim
 ·next c d hx hy =>
  have ex := opd_den hfr hx; have ey := opd_den hfr hy; split at h
  ·next q hq =>
   refine QOut.plain hkn h fun w _ => ?_
   show (do pure (.value (← (do eqGuard .eql t x y (a.eval x) (a.eval y); binOp .eql t (a.eval x) (a.eval y)))) : Sem Next).run P w = _
   rw [ex, ey]; exact run_v ((eqV_run hq x y w).1)
  ·next q hq =>
   refine QOut.plain hkn h fun w _ => ?_
   show (do pure (.value (← (do eqGuard .neq t x y (a.eval x) (a.eval y); binOp .neq t (a.eval x) (a.eval y)))) : Sem Next).run P w = _
   rw [ex, ey]; exact run_v ((eqV_run hq x y w).2)
  ·exact h.elim
 ·exact h.elim
theorem q_unOp {op : UnOp} {t : Nat} {x : Operand} (hkn : ∀ c ∈ S.known, c.holds ρ) (hfr : ∀ t v, S.fr.lookup t = some v → a.tmps[t]? = some (v.den β ρ)) (h : (quiet P Γ fs okm ⟨dst, .unOp op t x, type, pos, after, guard⟩ S k).den σ ρ) : QOut P σ fs okm ⟨dst, .unOp op t x, type, pos, after, guard⟩ S k β ρ a := by
 cases op <;> unfold quiet at h <;> simp only at h <;> try exact h.elim
 ·split at h
  ·next q hx =>
   refine QOut.needs hkn h fun hn w _ => ?_
   show (do pure (.value (← Op.unary .neg (a.eval x))) : Sem Next).run P w = _; rw [opd_den hfr hx]; have := wrap_in (hn _ (List.mem_cons_self ..)); rw [mkSub_den] at this; refine run_v ?_; simp only [SV.den, SV1.den, C1.den, mkSub_den, Op.unary, Op.intArith]; show Result.ok _ w = _; rw [← this]; rfl
  ·exact h.elim
 ·split at h
  ·next q hx =>
   refine QOut.plain hkn h fun w _ => ?_
   show (do pure (.value (← Op.unary .not (a.eval x))) : Sem Next).run P w = _; rw [opd_den hfr hx]; refine run_v ?_; simp only [SV.den, SV1.den, C1.den, not_den, Op.unary]; rfl
  ·exact h.elim
theorem q_pick {c x y : Operand} (hkn : ∀ c ∈ S.known, c.holds ρ) (hfr : ∀ t v, S.fr.lookup t = some v → a.tmps[t]? = some (v.den β ρ)) (h : (quiet P Γ fs okm ⟨dst, .pick c x y, type, pos, after, guard⟩ S k).den σ ρ) : QOut P σ fs okm ⟨dst, .pick c x y, type, pos, after, guard⟩ S k β ρ a := by
 unfold quiet at h; simp only at h; have run : ∀ (w : World) (b : Bool), a.eval c = .bool b → (execOp a.eval ⟨dst, .pick c x y, type, pos, after, guard⟩).run P w = .ok (.value (if b then a.eval x else a.eval y)) w := by
  intro w b hb; show (do pure (.value (if ← asBool (a.eval c) then a.eval x else a.eval y)) : Sem Next).run P w = _; rw [hb]; rfl
 split at h
 ·next hc =>
  split at h
  ·next v hx =>
   refine QOut.plain hkn h fun w _ => ?_
   rw [run w true (opd_den hfr hc), opd_den hfr hx]; rfl
  ·exact h.elim
 ·next hc =>
  split at h
  ·next v hx =>
   refine QOut.plain hkn h fun w _ => ?_
   rw [run w false (opd_den hfr hc), opd_den hfr hx]; rfl
  ·exact h.elim
 ·next q _ _ hc =>
  split at h
  ·next v u hx hy =>
   refine QOut.plain hkn h fun w _ => ?_
   rw [run w (q.den ρ).B (opd_den hfr hc), opd_den hfr hx, opd_den hfr hy]; simp only [SV.den, SV1.den, C1.den, X.den, TOp.den]; cases (X.den ρ q).B <;> rfl
  ·next k1 v k2 u hx hy =>
   split at h
   ·next e =>
    subst e; refine QOut.plain hkn h fun w _ => ?_
    rw [run w (q.den ρ).B (opd_den hfr hc), opd_den hfr hx, opd_den hfr hy]; simp only [SV.den, SV1.den, C1.den, X.den, TOp.den]; cases (X.den ρ q).B <;> rfl
   ·exact h.elim
  ·exact h.elim
 ·exact h.elim
theorem q_makeInterface {t : Nat} {x : Operand} (hkn : ∀ c ∈ S.known, c.holds ρ) (hfr : ∀ t v, S.fr.lookup t = some v → a.tmps[t]? = some (v.den β ρ)) (hex : Exd S β ρ) (h : (quiet P Γ fs okm ⟨dst, .makeInterface t x, type, pos, after, guard⟩ S k).den σ ρ) : QOut P σ fs okm ⟨dst, .makeInterface t x, type, pos, after, guard⟩ S k β ρ a := by
 unfold quiet at h; simp only at h; split at h
 ·exact h.elim
 ·next u c hno ht hx =>
  split at h
  ·next v hv =>
   refine QOut.plain hkn h fun w _ => ?_
   show (do pure (.value (← Instr.makeInterface t (a.eval x))) : Sem Next).run P w = _; rw [opd_den hfr hx]; refine run_v ?_; unfold Instr.makeInterface; simp only [Sem.run_bind, run_und w ht, Result.andThen_ok]; have hd : (SV.s (.one (.val (.un (.viface t) v)))).den β ρ = .iface t (c.den β ρ) := by
    show Value.iface t (v.den ρ).V = _; rw [x_den hex hv]
   rw [hd]; cases u <;> first | rfl | exact absurd ht (hno _)
  ·exact h.elim
 ·exact h.elim
theorem row_some {w : World} {base e size n c : Nat} {A : Option Addr} {m : Nat} {xs : List Value} (h : w.ownsRow base e size (.slice A m c) n xs) (hn : 0 < n) : ∃ g, A = some ⟨g, 0, none⟩ := by
 rcases h.2 with ⟨_, h0⟩ | ⟨g, cap, cur, e, _⟩
 ·omega
 ·injection e with e1 _ _
  exact ⟨g, e1⟩
theorem rowOf_m {m : Nat} {r : RowS} (h : S.rowOf m = some r) : r.m = m := by
 have := List.find?_some h; simpa using this
theorem rowOf_mem {m : Nat} {r : RowS} (h : S.rowOf m = some r) : r ∈ S.row := List.mem_of_find?_eq_some h
theorem q_nilCheck {x : Operand} (hfw : ∃ w, ∀ F ∈ fs, F.den σ ρ w) (hkn : ∀ c ∈ S.known, c.holds ρ) (hfr : ∀ t v, S.fr.lookup t = some v → a.tmps[t]? = some (v.den β ρ)) (h : (quiet P Γ fs okm ⟨dst, .nilCheck x, type, pos, after, guard⟩ S k).den σ ρ) : QOut P σ fs okm ⟨dst, .nilCheck x, type, pos, after, guard⟩ S k β ρ a := by
 unfold quiet at h; simp only at h; split at h
 ·next m off hx =>
  refine QOut.plain hkn h fun w _ => ?_
  unfold execOp; simp only [opd_den hfr hx]; rfl
 ·next p hx =>
  refine QOut.needsF hfw hkn h fun hn w _ => ?_
  obtain ⟨q, hq⟩ := holds_not_isnil (hn _ (List.mem_cons_self ..)); unfold execOp; simp only [opd_den hfr hx, SV.den, SV1.den, C1.den, hq]; rfl
 ·exact h.elim
theorem q_fieldAddr {t i : Nat} {x : Operand} (hfw : ∃ w, ∀ F ∈ fs, F.den σ ρ w) (hkn : ∀ c ∈ S.known, c.holds ρ) (hfr : ∀ t v, S.fr.lookup t = some v → a.tmps[t]? = some (v.den β ρ)) (h : (quiet P Γ fs okm ⟨dst, .fieldAddr t x i, type, pos, after, guard⟩ S k).den σ ρ) : QOut P σ fs okm ⟨dst, .fieldAddr t x i, type, pos, after, guard⟩ S k β ρ a := by
 unfold quiet at h; simp only at h; split at h
 ·next f m off hf hx =>
  split at h
  ·exact h.elim
  ·next hz =>
   refine QOut.plain hkn h fun w _ => ?_
   show (do pure (.value (← Instr.fieldAt t (a.eval x) i)) : Sem Next).run P w = _; rw [opd_den hfr hx]; refine run_v ((run_fieldAt hf hz _ w).trans ?_); rw [add_plain]; rfl
 ·next f p hf hx =>
  split at h
  ·exact h.elim
  ·next hz =>
   refine QOut.needsF hfw hkn h fun hn w _ => ?_
   obtain ⟨q, hq⟩ := holds_not_isnil (hn _ (List.mem_cons_self ..)); show (do pure (.value (← Instr.fieldAt t (a.eval x) i)) : Sem Next).run P w = _; rw [opd_den hfr hx]; simp only [SV.den, SV1.den, C1.den, hq, mkPadd_den]; exact run_v ((run_fieldAt hf hz _ w))
 ·next f m y hf hx =>
  split at h
  ·next r hr =>
   split at h
   ·exact h.elim
   ·next hz =>
    rw [not_or] at hz; refine QOut.needs hkn h fun hn w hm => ?_
    have h0 := lt_den (hn _ (List.mem_cons_self ..)); rw [mkCast_den] at h0; have h0 : (0 : Int) < ((r.n.den ρ).N : Int) := h0; obtain ⟨g, hg⟩ := row_some (hm.2.2 m r hr (by simpa using hz.2)) (by omega); rw [rowOf_m hr] at hg; show (do pure (.value (← Instr.fieldAt t (a.eval x) i)) : Sem Next).run P w = _; rw [opd_den hfr hx]; show (do pure (.value (← Instr.fieldAt t (.pointer ((β.row m).1.map (·.add (y.den ρ).N))) i)) : Sem Next).run P w = .ok (.value (.pointer ((β.row m).1.map (·.add ((mkAddN y (.nat f.offset)).den ρ).N)))) w; rw [hg, mkAddN_den]; refine run_v ((run_fieldAt hf hz.1 _ w).trans ?_); rw [addr_add]; rfl
  ·exact h.elim
 ·exact h.elim
theorem q_field {t i : Nat} {x : Operand} (hkn : ∀ c ∈ S.known, c.holds ρ) (hfr : ∀ t v, S.fr.lookup t = some v → a.tmps[t]? = some (v.den β ρ)) (h : (quiet P Γ fs okm ⟨dst, .field t x i, type, pos, after, guard⟩ S k).den σ ρ) : QOut P σ fs okm ⟨dst, .field t x i, type, pos, after, guard⟩ S k β ρ a := by
 unfold quiet at h; simp only at h; split at h
 ·next f l hf hx =>
  split at h
  ·next v hv =>
   refine QOut.plain hkn h fun w _ => ?_
   show (do pure (.value (← Instr.field t (a.eval x) i)) : Sem Next).run P w = _; rw [opd_den hfr hx]; obtain ⟨fs, hfs, hi⟩ := field_spec hf; refine run_v ?_; unfold Instr.field; simp only [SV.den, SV1.den, Sem.run_bind, run_und w hfs, Result.andThen_ok, hi, asAgg, Sem.run_pure]; exact part_den β ρ hv w
  ·exact h.elim
 ·exact h.elim
theorem q_extract {i : Nat} {x : Operand} (hkn : ∀ c ∈ S.known, c.holds ρ) (hfr : ∀ t v, S.fr.lookup t = some v → a.tmps[t]? = some (v.den β ρ)) (h : (quiet P Γ fs okm ⟨dst, .extract x i, type, pos, after, guard⟩ S k).den σ ρ) : QOut P σ fs okm ⟨dst, .extract x i, type, pos, after, guard⟩ S k β ρ a := by
 unfold quiet at h; simp only at h; split at h
 ·next l hx =>
  split at h
  ·next v hv =>
   refine QOut.plain hkn h fun w _ => ?_
   show (do pure (.value (← Instr.extract (a.eval x) i)) : Sem Next).run P w = _; rw [opd_den hfr hx]; refine run_v ?_; unfold Instr.extract; have : ((l.map (SV1.den β ρ)).toArray)[i]? = some (v.den β ρ) := by simp [hv]
   simp only [SV.den, this]; rfl
  ·exact h.elim
 ·exact h.elim
theorem q_index {t : Nat} {x i : Operand} (hkn : ∀ c ∈ S.known, c.holds ρ) (hfr : ∀ t v, S.fr.lookup t = some v → a.tmps[t]? = some (v.den β ρ)) (h : (quiet P Γ fs okm ⟨dst, .index t x i, type, pos, after, guard⟩ S k).den σ ρ) : QOut P σ fs okm ⟨dst, .index t x i, type, pos, after, guard⟩ S k β ρ a := by
 unfold quiet at h; simp only at h; split at h
 ·next s j q ht hx hi =>
  refine QOut.needs hkn h fun hn w _ => ?_
  have h0 := le_den (hn _ (List.mem_cons_self ..)); have h1 := lt_den (hn _ (List.mem_cons_of_mem _ (List.mem_cons_self ..))); rw [mkCast_den] at h1; have h0 : 0 ≤ (q.den ρ).I := h0; have h1 : (q.den ρ).I < ((s.den ρ).S.size : Int) := h1; show (do pure (.value (← Instr.index t (a.eval x) (a.eval i))) : Sem Next).run P w = _; rw [opd_den hfr hx, opd_den hfr hi]; refine run_v ?_; unfold Instr.index asIntOf; have hlt : (q.den ρ).I.toNat < (s.den ρ).S.size := by omega
  simp only [SV.den, SV1.den, C1.den, Sem.run_bind, Sem.run_pure, Result.andThen_ok, run_und w ht]; rw [if_pos h0]; have hb : (s.den ρ).S[(q.den ρ).I.toNat]? = some (s.den ρ).S[(q.den ρ).I.toNat] := by
   rw [getElem?_pos (s.den ρ).S _ hlt]
  rw [hb]; simp only [Sem.run_pure, X.den, BOp.den, UI, mkNat_den]
  congr 2
  have hlt' : (q.den ρ).I.toNat < (s.den ρ).S.data.toList.length := by simpa using hlt
  rw [List.getD_eq_getElem?_getD, List.getElem?_eq_getElem hlt']; rfl
 ·exact h.elim
theorem q_indexAddr {t : Nat} {x i : Operand} (hfw : ∃ w, ∀ F ∈ fs, F.den σ ρ w) (hkn : ∀ c ∈ S.known, c.holds ρ) (hfr : ∀ t v, S.fr.lookup t = some v → a.tmps[t]? = some (v.den β ρ)) (h : (quiet P Γ fs okm ⟨dst, .indexAddr t x i, type, pos, after, guard⟩ S k).den σ ρ) : QOut P σ fs okm ⟨dst, .indexAddr t x i, type, pos, after, guard⟩ S k β ρ a := by
 unfold quiet at h; simp only at h; split at h
 ·next e p n c j q ht hx hi =>
  split at h
  ·next z hz =>
   unfold sizeB at hz; rw [Option.map_eq_some_iff] at hz; obtain ⟨ie, hie, rfl⟩ := hz; refine QOut.needsF hfw hkn h fun hn w _ => ?_
   obtain ⟨b, hb⟩ := holds_not_isnil (hn _ (List.mem_cons_self ..)); have h0 := le_den (hn _ (List.mem_cons_of_mem _ (List.mem_cons_self ..))); have h1 := lt_den (hn _ (List.mem_cons_of_mem _ (List.mem_cons_of_mem _ (List.mem_cons_self ..)))); rw [mkCast_den] at h1; show (do pure (.value (← Instr.indexAt t (a.eval x) (a.eval i))) : Sem Next).run P w = _; rw [opd_den hfr hx, opd_den hfr hi]; show _ = Result.ok (Next.value (Value.pointer ((mkPadd p (mkMulN ie.size (mkNat q))).den ρ).P)) w; rw [mkPadd_den, mkMulN_den, mkNat_den]; show (do pure (.value (← Instr.indexAt t (.slice (p.den ρ).P (n.den ρ).N (c.den ρ).N) (.int j (q.den ρ).I))) : Sem Next).run P w = _; rw [hb]; exact run_v (run_indexAt ht hie b _ _ j _ h0 h1 w)
  ·exact h.elim
 ·next e m n j q ht hx hi =>
  split at h
  ·next z r hz hr =>
   split at h
   ·next hc =>
    unfold sizeB at hz; rw [Option.map_eq_some_iff] at hz; obtain ⟨ie, hie, rfl⟩ := hz; refine QOut.needs hkn h fun hn w hm => ?_
    have h0 := le_den (hn _ (List.mem_cons_self ..)); have h1 := lt_den (hn _ (List.mem_cons_of_mem _ (List.mem_cons_self ..))); rw [mkCast_den] at h1; have h0 : 0 ≤ (q.den ρ).I := h0; have hrow := hm.2.2 m r hr hc.2; rw [hc.1] at hrow; obtain ⟨g, hg⟩ := row_some hrow (by omega); rw [rowOf_m hr] at hg; show (do pure (.value (← Instr.indexAt t (a.eval x) (a.eval i))) : Sem Next).run P w = _; rw [opd_den hfr hx, opd_den hfr hi]; show (do pure (.value (← Instr.indexAt t (.slice (β.row m).1 (n.den ρ).N (β.row m).2) (.int j (q.den ρ).I))) : Sem Next).run P w = .ok (.value (.pointer ((β.row m).1.map (·.add ((mkMulN ie.size (mkNat q)).den ρ).N)))) w; rw [hg, mkMulN_den, mkNat_den]; exact run_v (run_indexAt ht hie _ _ _ j _ h0 h1 w)
   ·exact h.elim
  ·exact h.elim
 ·next e m n j q ht hx hi =>
  split at h
  ·next z hz =>
   split at h
   ·next hc =>
    unfold sizeB at hz; rw [Option.map_eq_some_iff] at hz; obtain ⟨ie, hie, rfl⟩ := hz; refine QOut.plain hkn h fun w hm => ?_
    show (do pure (.value (← Instr.indexAt t (a.eval x) (a.eval i))) : Sem Next).run P w = _; rw [opd_den hfr hx, opd_den hfr hi]; show (do pure (.value (← Instr.indexAt t (.slice (some ⟨β.blk m, 0, none⟩) n n) (.int j q))) : Sem Next).run P w = .ok (.value (.pointer (some ⟨β.blk m, q.toNat * ie.size, none⟩))) w; have := run_indexAt (P := P) ht hie ⟨β.blk m, 0, none⟩ n n j q hc.1 hc.2 w; rw [add_plain, Nat.zero_add] at this; exact run_v this
   ·exact h.elim
  ·exact h.elim
 ·exact h.elim
theorem mapM_cons' {S : St} {x : Operand} {l : List Operand} {r : List SV} (h : (x :: l).mapM S.opd = some r) : ∃ v r', S.opd x = some v ∧ l.mapM S.opd = some r' ∧ r = v :: r' := by
 rw [List.mapM_cons] at h; cases hx : S.opd x with
 | none => rw [hx] at h; cases h
 | some v =>
  rw [hx] at h; cases hl : l.mapM S.opd with
  | none => rw [hl] at h; cases h
  | some r' =>
   rw [hl] at h; injection h with h
   exact ⟨v, r', rfl, rfl, h.symm⟩
theorem mapM_two {S : St} {l : List Operand} {u v : SV} (h : l.mapM S.opd = some [u, v]) : ∃ x y, l = [x, y] ∧ S.opd x = some u ∧ S.opd y = some v := by
 cases l with
 | nil => cases h
 | cons x l =>
  obtain ⟨a, r, h1, h2, h3⟩ := mapM_cons' h; injection h3 with h3 h4
  subst h3; subst h4; cases l with
  | nil => cases h2
  | cons y l =>
   obtain ⟨b, r, g1, g2, g3⟩ := mapM_cons' h2; injection g3 with g3 g4
   subst g3; subst g4; cases l with
   | nil => exact ⟨x, y, rfl, h1, g1⟩
   | cons z l =>
    obtain ⟨_, _, _, _, g5⟩ := mapM_cons' g2; cases g5
theorem q_minmax {bt : Go.Builtin} {args : Array Operand} {ts : Array Nat} (hb : bt = .min ∨ bt = .max) (hkn : ∀ c ∈ S.known, c.holds ρ) (hfr : ∀ t v, S.fr.lookup t = some v → a.tmps[t]? = some (v.den β ρ)) (h : (quiet P Γ fs okm ⟨dst, .call { callee := .builtin bt, args := args, argTypes := ts }, type, pos, after, guard⟩ S k).den σ ρ) : QOut P σ fs okm ⟨dst, .call { callee := .builtin bt, args := args, argTypes := ts }, type, pos, after, guard⟩ S k β ρ a := by
 rcases hb with rfl | rfl
 all_goals
  unfold quiet at h; simp only at h; split at h
  ·next j x j' y hm =>
   split at h
   ·next hj =>
    subst hj; obtain ⟨p, q, hl, hp, hq⟩ := mapM_two hm; refine QOut.plain hkn h fun w _ => ?_
    have e : args.map a.eval = #[.int j (x.den ρ).I, .int j (y.den ρ).I] := by
     apply Array.toList_inj.1; rw [Array.toList_map, hl]; simp only [List.map_cons, List.map_nil, opd_den hfr hp, opd_den hfr hq]; rfl
    unfold execOp; simp only [resolve, invoke, builtin, Sem.run_bind, Sem.run_pure, Result.andThen_ok, e, run_min_int2, run_max_int2]; simp only [SV.den, SV1.den, C1.den, X.den, TOp.den, mkLt_den, GT.gt]; split
    ·next hc => rw [decide_eq_true hc]; rfl
    ·next hc => rw [decide_eq_false hc]; rfl
   ·exact h.elim
  ·exact h.elim
theorem q_len {args : Array Operand} {ts : Array Nat} (hkn : ∀ c ∈ S.known, c.holds ρ) (hfr : ∀ t v, S.fr.lookup t = some v → a.tmps[t]? = some (v.den β ρ)) (h : (quiet P Γ fs okm ⟨dst, .call { callee := .builtin .len, args := args, argTypes := ts }, type, pos, after, guard⟩ S k).den σ ρ) : QOut P σ fs okm ⟨dst, .call { callee := .builtin .len, args := args, argTypes := ts }, type, pos, after, guard⟩ S k β ρ a := by
 unfold quiet at h; simp only at h; split at h
 ·next t c ht hx =>
  rw [Option.bind_eq_some_iff] at hx; obtain ⟨x, hax, hx⟩ := hx; have run : ∀ (n : Int) (w : World), (Builtin.len_ ts type #[a.eval x]).run P w = .ok (goInt n) w → (Builtin.len_ ts type (args.map a.eval)).run P w = .ok (goInt n) w := by
   intro n w hr; have e0 : (args.map a.eval)[0]? = some (a.eval x) := by simp [hax]
   unfold Builtin.len_ at hr ⊢
   rw [e0]; exact hr
  have fin : ∀ (n : Int) (w : World), (Builtin.len_ ts type #[a.eval x]).run P w = .ok (goInt n) w → (execOp a.eval ⟨dst, .call { callee := .builtin .len, args := args, argTypes := ts }, type, pos, after, guard⟩).run P w = .ok (.value (.int .i64 n)) w := by
   intro n w hr; have hr := run n w hr; unfold execOp; simp only [resolve, invoke, builtin, Sem.run_bind, Sem.run_pure, Result.andThen_ok, hr]; rfl
  split at h
  ·next s hu =>
   refine QOut.plain hkn h fun w _ => fin _ w ?_
   rw [opd_den hfr hx]; unfold Builtin.len_; rw [ht]; simp only [SV.den, SV1.den, C1.den]; simp [Sem.run_bind, run_und w hu, mkCast_den]; rfl
  ·next e p n c hu =>
   refine QOut.plain hkn h fun w _ => fin _ w ?_
   rw [opd_den hfr hx]; unfold Builtin.len_; rw [ht]; simp only [SV.den, SV1.den, C1.den]; simp [Sem.run_bind, run_und w hu, mkCast_den]
  ·next e m n hu =>
   refine QOut.plain hkn h fun w _ => fin _ w ?_
   rw [opd_den hfr hx]; unfold Builtin.len_; rw [ht]; simp only [SV.den, SV1.den, C1.den]; simp [Sem.run_bind, run_und w hu, mkCast_den]
  ·next e m n hu =>
   refine QOut.plain hkn h fun w _ => fin _ w ?_
   rw [opd_den hfr hx]; unfold Builtin.len_; rw [ht]; simp only [SV.den, SV1.den, C1.den]; simp [Sem.run_bind, run_und w hu, X.den]; rfl
  ·exact h.elim
 ·exact h.elim
end
section
variable {P : Program} {Γ : Cfg} {σ : Sm} {fs : List FX} {okm : Nat → Bool} {S : St} {k : SV → St → VC} {β : Beta} {ρ : Nat → U} {a : Act} {dst : Option Nat} {type : Nat} {pos : String} {after : Array Edge} {guard : Option (Nat × Bool)}
theorem run_sliceBound (j : IntKind) (q : Int) (y : Nat) (c : BoundsCode) (h0 : 0 ≤ q) (h1 : q ≤ (y : Int)) (w : World) : (Instr.sliceBound (.int j q) y c).run P w = .ok q.toNat w := by
 unfold Instr.sliceBound asIntOf; simp only [Sem.run_bind, Sem.run_pure, Result.andThen_ok]; rw [if_pos ⟨h0, h1⟩]; rfl
theorem bound_den (hfr : ∀ t v, S.fr.lookup t = some v → a.tmps[t]? = some (v.den β ρ)) {d : X} {lo : Option Operand} {l : X} (h : bound S d lo = some l) : (lo = none ∧ l = d) ∨ ∃ x j, lo = some x ∧ a.eval x = .int j (l.den ρ).I := by
 unfold bound at h; split at h
 ·injection h with h
  exact .inl ⟨rfl, h.symm⟩
 ·next x =>
  split at h
  ·next j q hx =>
   injection h with h
   subst h; exact .inr ⟨x, j, rfl, by rw [opd_den hfr hx]; rfl⟩
  ·cases h
theorem run_sliceBounds (hfr : ∀ t v, S.fr.lookup t = some v → a.tmps[t]? = some (v.den β ρ)) {d : X} {lo hi : Option Operand} {l h : X} (hl : bound S (.int 0) lo = some l) (hh : bound S d hi = some h) (b : Bool) (n c : Nat) (hd : (d.den ρ).I = (n : Int)) (h0 : 0 ≤ (h.den ρ).I) (h1 : (h.den ρ).I ≤ (c : Int)) (h2 : 0 ≤ (l.den ρ).I) (h3 : (l.den ρ).I ≤ (h.den ρ).I) (w : World) : (Instr.sliceBounds b n c (lo.map a.eval) (hi.map a.eval) none).run P w = .ok ((l.den ρ).I.toNat, (h.den ρ).I.toNat, c) w := by
 have hle : (l.den ρ).I ≤ (((h.den ρ).I.toNat : Nat) : Int) := by omega
 unfold Instr.sliceBounds
 rcases bound_den hfr hl with ⟨rfl, rfl⟩ | ⟨x, j, rfl, ex⟩ <;> rcases bound_den hfr hh with ⟨rfl, rfl⟩ | ⟨y, j', rfl, ey⟩
 ·simp only [Option.map_none, Sem.run_bind, Sem.run_pure, Result.andThen_ok]
  congr 2
  congr 1
  omega
 ·simp only [Option.map_none, Option.map_some, Sem.run_bind, Sem.run_pure, Result.andThen_ok, ey, run_sliceBound j' _ _ _ h0 h1]; rfl
 ·simp only [Option.map_none, Option.map_some, Sem.run_bind, Sem.run_pure, Result.andThen_ok, ex]; have e : n = (h.den ρ).I.toNat := by omega
  rw [← e] at hle ⊢
  rw [run_sliceBound j _ _ _ h2 hle]; rfl
 ·simp only [Option.map_some, Sem.run_bind, Sem.run_pure, Result.andThen_ok, ex, ey, run_sliceBound j' _ _ _ h0 h1, run_sliceBound j _ _ _ h2 hle]
theorem cutA_den (A c : X) (z : Nat) (l : X) (hl : 0 ≤ (l.den ρ).I) : ((cutA A c z l).den ρ).P = if (c.den ρ).N = (l.den ρ).I.toNat then (A.den ρ).P else (A.den ρ).P.map (·.add ((l.den ρ).I.toNat * z)) := by
 unfold cutA; split
 ·show (A.den ρ).P = if (c.den ρ).N = 0 then (A.den ρ).P else (A.den ρ).P.map (·.add (0 * z))
  rw [Nat.zero_mul]; split
  ·rfl
  ·cases (A.den ρ).P <;> simp [Addr.add]
 ·show (bif ((c.den ρ).N : Int) == (l.den ρ).I then A.den ρ else (mkPadd A (mkMulN z (mkNat l))).den ρ).P = _
  by_cases e : (c.den ρ).N = (l.den ρ).I.toNat
  ·have : (((c.den ρ).N : Int) == (l.den ρ).I) = true := beq_iff_eq.2 (by omega); rw [this, if_pos e]; rfl
  ·have : (((c.den ρ).N : Int) == (l.den ρ).I) = false := beq_eq_false_iff_ne.2 (by omega); rw [this, if_neg e, cond_false, mkPadd_den, mkMulN_den, mkNat_den]
theorem q_slice {t : Nat} {x : Operand} {lo hi mx : Option Operand} (hkn : ∀ c ∈ S.known, c.holds ρ) (hfr : ∀ t v, S.fr.lookup t = some v → a.tmps[t]? = some (v.den β ρ)) (h : (quiet P Γ fs okm ⟨dst, .slice t x lo hi mx, type, pos, after, guard⟩ S k).den σ ρ) : QOut P σ fs okm ⟨dst, .slice t x lo hi mx, type, pos, after, guard⟩ S k β ρ a := by
 cases mx with
 | some m => unfold quiet at h; exact h.elim
 | none =>
  unfold quiet at h; simp only at h; split at h
  ·next s ht hx =>
   split at h
   ·next l u hl hu =>
    refine QOut.needs hkn h fun hn w _ => ?_
    have h0 := le_den (hn _ (List.mem_cons_self ..)); have h1 := le_den (hn _ (List.mem_cons_of_mem _ (List.mem_cons_self ..))); have h2 := le_den (hn _ (List.mem_cons_of_mem _ (List.mem_cons_of_mem _ (List.mem_cons_self ..)))); have h3 := le_den (hn _ (List.mem_cons_of_mem _ (List.mem_cons_of_mem _ (List.mem_cons_of_mem _ (List.mem_cons_self ..))))); rw [mkCast_den] at h1; have hb := run_sliceBounds (P := P) hfr hl hu false (s.den ρ).S.size (s.den ρ).S.size (mkCast_den ..) h0 h1 h2 h3 w; show (do pure (.value (← Instr.sliceAt t (a.eval x) (lo.map a.eval) (hi.map a.eval) none)) : Sem Next).run P w = _; rw [opd_den hfr hx]; refine run_v ?_; unfold Instr.sliceAt Instr.slice; simp only [SV.den, SV1.den, C1.den, Sem.run_bind, run_und w ht, Result.andThen_ok, Option.isSome_none, hb]; simp only [Bool.false_eq_true, if_false, Sem.run_bind, hb, Result.andThen_ok, Sem.run_pure, X.den, TOp.den, US, mkNat_den]
   ·exact h.elim
  ·next e A n c ht hx =>
   split at h
   ·next z l u hz hl hu =>
    unfold sizeB at hz; rw [Option.map_eq_some_iff] at hz; obtain ⟨ie, hie, rfl⟩ := hz; refine QOut.needs hkn h fun hn w _ => ?_
    have h0 := le_den (hn _ (List.mem_cons_self ..)); have h1 := le_den (hn _ (List.mem_cons_of_mem _ (List.mem_cons_self ..))); have h2 := le_den (hn _ (List.mem_cons_of_mem _ (List.mem_cons_of_mem _ (List.mem_cons_self ..)))); have h3 := le_den (hn _ (List.mem_cons_of_mem _ (List.mem_cons_of_mem _ (List.mem_cons_of_mem _ (List.mem_cons_self ..))))); rw [mkCast_den] at h1; have hb := run_sliceBounds (P := P) hfr hl hu true (n.den ρ).N (c.den ρ).N (mkCast_den ..) h0 h1 h2 h3 w; show (do pure (.value (← Instr.sliceAt t (a.eval x) (lo.map a.eval) (hi.map a.eval) none)) : Sem Next).run P w = _; rw [opd_den hfr hx]; refine run_v ?_; unfold Instr.sliceAt Instr.slice; simp only [SV.den, SV1.den, C1.den, Sem.run_bind, run_und w ht, Result.andThen_ok, hb, run_size hie, Sem.run_pure]; rw [cutA_den _ _ _ _ h2]; simp only [X.den, BOp.den, UN, mkNat_den]
   ·exact h.elim
  ·exact h.elim
theorem freshs_exp (S : St) (n : Nat) : ∀ ls : List Lf, ∃ xs, (freshs n ls).mapM (C1.x S) = some xs ∧ xs.length = ls.length := by
 intro ls
 induction ls generalizing n with
 | nil => exact ⟨[], rfl, rfl⟩
 | cons l ls ih =>
  obtain ⟨xs, h1, h2⟩ := ih (n + l.ar); have : ∃ x, (l.fresh n).x S = some x := by cases l <;> exact ⟨_, rfl⟩
  obtain ⟨x, hx⟩ := this; exact ⟨x :: xs, by simp [freshs, List.mapM_cons, hx, h1], by simp [h2]⟩
theorem St.ok_upto {S : St} (h : S.ok = true) {t : Nat} {v : SV} (hv : S.fr.lookup t = some v) : v.upto S.nv = true := by
 unfold St.ok St.upto at h; simp only [Bool.and_eq_true, List.all_eq_true] at h; exact h.1.1.1.1.1 _ (lookup_mem hv)
theorem constC_upto (n : Nat) (v : Value) (c : C1) (h : constC v = some c) : c.upto n = true := by
 unfold constC at h; split at h <;> first | (injection h with h; subst h; rfl) | skip
 ·split at h
  ·injection h with h; subst h; rfl
  ·cases h
 ·cases h
theorem constCs_upto (n : Nat) : ∀ (l : List Value) (cs : List C1), l.mapM constC = some cs → cs.all (·.upto n) = true
 | [], cs, h => by simp at h; subst h; rfl
 | v :: l, cs, h => by
  rw [List.mapM_cons] at h; simp only [Option.bind_eq_bind, Option.bind_eq_some_iff, Option.pure_def, Option.some.injEq] at h; obtain ⟨c, hc, cs', hl, rfl⟩ := h; rw [List.all_cons, constC_upto n v c hc, constCs_upto n l cs' hl]; rfl
theorem constS_upto (n : Nat) (v : Value) (s : SV) (h : constS v = some s) : s.upto n = true := by
 unfold constS at h; split at h
 ·next cs =>
  rw [Option.map_eq_some_iff] at h; obtain ⟨l, hl, rfl⟩ := h; exact constCs_upto n _ _ hl
 ·rw [Option.map_eq_some_iff] at h; obtain ⟨c, hc, rfl⟩ := h; exact constC_upto n _ c hc
theorem opd_upto {S : St} (h : S.ok = true) {x : Operand} {v : SV} (hv : S.opd x = some v) : v.upto S.nv = true := by
 cases x with
 | tmp t => exact S.ok_upto h hv
 | const c => exact constS_upto _ c v hv
 | global g => cases hv
 | func f => injection hv with hv; subst hv; rfl
theorem known_alike {S : St} {ρ ρ' : Nat → U} (hal : Alike S.nv ρ ρ') (hok : S.ok = true) (hkn : ∀ c ∈ S.known, c.holds ρ) : ∀ c ∈ S.known, c.holds ρ' := by
 have hu := hok; unfold St.ok St.upto at hu; simp only [Bool.and_eq_true, List.all_eq_true] at hu; exact fun c hc => (X.holds_alike hal c (hu.2 c hc)).2 (hkn c hc)
theorem bytesAt_spec {p : X} : ∀ {fs : List FX} {off s : X}, bytesAt p fs = some (off, s) → ∃ A, FX.bytes A s ∈ fs ∧ (p = A ∧ off = .nat 0 ∨ p = .bin .padd A off)
 | [], _, _, h => by cases h
 | F :: l, off, s, h => by
  have go : bytesAt p l = some (off, s) → ∃ A, FX.bytes A s ∈ F :: l ∧ (p = A ∧ off = .nat 0 ∨ p = .bin .padd A off) := fun h => by
   obtain ⟨A, h1, h2⟩ := bytesAt_spec h; exact ⟨A, List.mem_cons_of_mem _ h1, h2⟩
  cases F with
  | bytes A s' =>
   unfold bytesAt at h; split at h
   ·next e =>
    injection h with h; injection h with h1 h2; subst h1; subst h2
    exact ⟨A, List.mem_cons_self .., .inl ⟨e, rfl⟩⟩
   ·split at h
    ·next a1 a2 _ =>
     split at h
     ·next e =>
      injection h with h; injection h with h1 h2; subst h1; subst h2; subst e
      exact ⟨_, List.mem_cons_self .., .inr rfl⟩
     ·exact go h
    ·exact go h
  | _ => exact go h
theorem run_bytesV {s t e : Nat} {A : Option Addr} {n c B : Nat} {z : ByteArray} {w : World} (hs : P.underlying s = some (.slice e)) (he : P.underlying e = some (.int .u8)) (ht : P.underlying t = some .string) (h : Rd w B 1 A n (bytesV z)) : (convert s t (.slice A n c)).run P w = .ok (.string z) w := by
 have hn : z.data.toList.length = n := by
  have := h.1; simpa [bytesV] using this
 cases A with
 | none =>
  have h0 : n = 0 := by
   rcases Nat.eq_zero_or_pos n with h0 | h0
   ·exact h0
   ·obtain ⟨b, off, e, _⟩ := h.2 h0; cases e
  have hz : z = ByteArray.empty := by
   apply ByteArray.ext; apply Array.toList_inj.1; exact List.eq_nil_of_length_eq_zero (by omega)
  subst h0; rw [hz]; exact run_convert_bytes_nil w s e hs he 0 c t ht
 | some p =>
  have := run_convert_bytes_back (P := P) w s t e p c z.data.toList hs he ht (fun j hj => by
   obtain ⟨b, off, e1, _, hc⟩ := h.2 (by omega); injection e1 with e1
   subst e1; rw [add_plain]; exact hc j _ (by unfold bytesV; rw [List.getElem?_map, List.getElem?_eq_getElem hj]; rfl))
  rw [hn] at this; exact this
theorem q_convert {s t : Nat} {x : Operand} (hkn : ∀ c ∈ S.known, c.holds ρ) (hfr : ∀ t v, S.fr.lookup t = some v → a.tmps[t]? = some (v.den β ρ)) (h : (quiet P Γ fs okm ⟨dst, .convert s t x, type, pos, after, guard⟩ S k).den σ ρ) : QOut P σ fs okm ⟨dst, .convert s t x, type, pos, after, guard⟩ S k β ρ a := by
 unfold quiet at h; simp only at h; split at h
 ·next j q d j' hx hs ht =>
  refine QOut.plain hkn h fun w _ => ?_
  show (do pure (.value (← convert s t (a.eval x))) : Sem Next).run P w = _; rw [opd_den hfr hx]; refine run_v ?_; unfold convert; simp only [SV.den, SV1.den, C1.den, Sem.run_bind, run_und w hs, run_und w ht, Result.andThen_ok]; rfl
 ·next q d hx hs ht =>
  refine QOut.plain hkn h fun w _ => ?_
  show (do pure (.value (← convert s t (a.eval x))) : Sem Next).run P w = _; rw [opd_den hfr hx]; refine run_v ?_; unfold convert; simp only [SV.den, SV1.den, C1.den, Sem.run_bind, run_und w hs, run_und w ht, Result.andThen_ok]; rfl
 ·next A n c e hx hs ht =>
  split at h
  ·next he =>
   split at h
   ·next hok =>
    obtain ⟨z, h⟩ := h; obtain ⟨hr, h⟩ := h; have hal : Alike S.nv ρ (upd ρ S.nv (.s z)) := Alike.upd S.nv ρ _; refine ⟨_, _, { S with nv := S.nv + 1 }, hal, ⟨rfl, rfl, rfl, rfl, rfl, rfl, Nat.le_succ _⟩, .inr hok, known_alike (S := S) hal hok hkn, h, fun w hw => ?_⟩; obtain ⟨B, hr⟩ := given_out (hr w) hw.1; have hz : (X.var S.nv).den (upd ρ S.nv (.s z)) = .s z := by show upd ρ S.nv (.s z) S.nv = _; unfold upd; rw [Nat.beq_refl]; rfl
    have hpu := opd_upto hok hx; have hr : Rd w B 1 (A.den (upd ρ S.nv (.s z))).P (n.den (upd ρ S.nv (.s z))).N (bytesV (((X.var S.nv).den (upd ρ S.nv (.s z))).S)) := hr; rw [hz] at hr; simp only [SV.upto, SV1.upto, C1.upto, Bool.and_eq_true] at hpu; rw [X.den_alike hal A hpu.1.1, X.den_alike hal n hpu.1.2] at hr; show (do pure (.value (← convert s t (a.eval x))) : Sem Next).run P w = _; rw [opd_den hfr hx]; refine run_v ?_; have := run_bytesV (c := (c.den ρ).N) hs he ht hr; simp only [SV.den, SV1.den, C1.den, hz]; exact this
   ·exact h.elim
  ·exact h.elim
 ·next m n e hx hs ht =>
  split at h
  ·next r he hr =>
   split at h
   ·next hc =>
    obtain ⟨hok, hom, hsz, hrn⟩ := hc; obtain ⟨z, h⟩ := h; obtain ⟨hq, h⟩ := h; have hal : Alike S.nv ρ (upd ρ S.nv (.s z)) := Alike.upd S.nv ρ _; refine ⟨_, _, { S with nv := S.nv + 1 }, hal, ⟨rfl, rfl, rfl, rfl, rfl, rfl, Nat.le_succ _⟩, .inr hok, known_alike (S := S) hal hok hkn, h, fun w hw => ?_⟩; have hz : (X.var S.nv).den (upd ρ S.nv (.s z)) = .s z := by show upd ρ S.nv (.s z) S.nv = _; unfold upd; rw [Nat.beq_refl]; rfl
    have hpu := opd_upto hok hx; have hq : (r.xs.den (upd ρ S.nv (.s z))).L = bytesV (((X.var S.nv).den (upd ρ S.nv (.s z))).S) := hq; rw [hz] at hq; have hq : (r.xs.den (upd ρ S.nv (.s z))).L = bytesV z := hq; have hown := hw.2.2 m r hr hom; rw [hq, hsz, hrn, rowOf_m hr] at hown; simp only [SV.upto, SV1.upto, C1.upto] at hpu; rw [X.den_alike hal n hpu] at hown; show (do pure (.value (← convert s t (a.eval x))) : Sem Next).run P w = _; rw [opd_den hfr hx]; refine run_v ?_; have := run_bytesV (c := (β.row m).2) hs he ht (Rd.of_own hown); simp only [SV.den, SV1.den, C1.den, hz]; exact this
   ·exact h.elim
  ·exact h.elim
 ·exact h.elim
theorem elems_den (ρ : Nat → U) : ∀ (x : X) (l : List X), elems x = some l → (x.den ρ).L = l.map fun y => (y.den ρ).V
 | .lnil, l, h => by injection h with h; subst h; rfl
 | .un .one x, l, h => by injection h with h; subst h; rfl
 | .bin .app x y, l, h => by
  unfold elems at h; split at h
  ·next a b ha hb =>
   injection h with h; subst h
   rw [List.map_append, ← elems_den ρ x a ha, ← elems_den ρ y b hb]; rfl
  ·cases h
theorem litFn_den (ρ : Nat → U) {xs off : X} {f : Nat} (h : litFn xs off = some f) : ∃ j, off = .nat j ∧ (xs.den ρ).L[j]? = some (.func (.func f) #[] #[]) := by
 unfold litFn at h; split at h
 ·next j l hl =>
  split at h
  ·next g hg =>
   injection h with h; subst h
   refine ⟨j, rfl, ?_⟩; rw [elems_den ρ xs l hl, List.getElem?_map, hg]; rfl
  ·cases h
 ·cases h
theorem q_load {t : Nat} {x : Operand} (hkn : ∀ c ∈ S.known, c.holds ρ) (hfr : ∀ t v, S.fr.lookup t = some v → a.tmps[t]? = some (v.den β ρ)) (hex : Exd S β ρ) (h : (quiet P Γ fs okm ⟨dst, .load t x, type, pos, after, guard⟩ S k).den σ ρ) : QOut P σ fs okm ⟨dst, .load t x, type, pos, after, guard⟩ S k β ρ a := by
 unfold quiet at h; simp only at h; split at h
 ·next m off hx =>
  split at h
  ·next bt cs hb =>
   split at h
   ·next hm =>
    split at h
    ·next v hv =>
     refine QOut.plain hkn h fun w hw => ?_
     show (do pure (.value (← Instr.loadAt t (a.eval x))) : Sem Next).run P w = _; rw [opd_den hfr hx]; refine run_v ?_; unfold Instr.loadAt Instr.sureAddr; simp only [SV.den, SV1.den, C1.den, Sem.run_bind, Sem.run_pure, Result.andThen_ok]; exact load_own β ρ hv (hw.2.1 m bt cs hb hm)
    ·exact h.elim
   ·exact h.elim
  ·exact h.elim
 ·next p hx =>
  split at h
  ·next sh i hsh hi =>
   split at h
   ·next off s hby =>
    split at hby
    ·next hsi =>
     obtain ⟨rfl, hsz⟩ := hsi; obtain ⟨A, hA, hp⟩ := bytesAt_spec hby; refine QOut.needs hkn h fun hn w hw => ?_
     have hlt := lt_den (hn _ (List.mem_cons_self ..)); rw [mkCast_den, mkCast_den] at hlt; have hlt : (((off.den ρ).N : Nat) : Int) < ((s.den ρ).S.size : Int) := hlt; obtain ⟨g, hg, hc⟩ := hw.1 _ hA; have hq : (p.den ρ).P = some ⟨g, (off.den ρ).N, none⟩ := by
      rcases hp with ⟨rfl, rfl⟩ | rfl
      ·exact hg
      ·show (A.den ρ).P.map (·.add (off.den ρ).N) = _; rw [hg]; show some ((⟨g, 0, none⟩ : Addr).add (off.den ρ).N) = _; rw [add_plain, Nat.zero_add]
     have hcell := hc (off.den ρ).N (by omega); show (do pure (.value (← Instr.loadAt t (a.eval x))) : Sem Next).run P w = _; rw [opd_den hfr hx]; refine run_v ?_; unfold Instr.loadAt Instr.sureAddr; simp only [SV.den, SV1.den, C1.den, hq, Sem.run_bind, Sem.run_pure, Result.andThen_ok]; have := load_at (P := P) β (fun _ => U.i ((s.den ρ).S.data.toList.getD (off.den ρ).N 0).toNat) (n := 0) (t := t) (sh := .one (.int .u8)) (i := i) (w := w) (p := ⟨g, (off.den ρ).N, none⟩) hsh hi (by simp [Sh.lfs, hsz]) rfl (by
      intro j v hj; cases j with
      | zero =>
       injection hj with hj
       rw [← hj, add_plain]; exact hcell
      | succ j => cases hj)
     exact this
    ·cases hby
   split at h
   ·next hc =>
    simp only [Bool.and_eq_true, beq_iff_eq] at hc; obtain ⟨hok, hlen⟩ := hc; obtain ⟨ρ', hal, h⟩ := exs_den _ _ _ _ h; obtain ⟨xs, hxs, hxl⟩ := freshs_exp { S with nv := S.nv + (lfsSrts sh.lfs).length } S.nv sh.lfs
    simp only [hxs] at h; obtain ⟨hl, h⟩ := h; have hex' : Exd { S with nv := S.nv + (lfsSrts sh.lfs).length } β ρ' := by
     intro e he; have hu := hok; unfold St.ok St.upto at hu; simp only [Bool.and_eq_true, List.all_eq_true] at hu; have := hu.1.2 e he; rw [X.den_alike hal _ this.1, X.den_alike hal _ this.2]; exact hex e he
    refine ⟨_, ρ', { S with nv := S.nv + (lfsSrts sh.lfs).length }, hal, ⟨rfl, rfl, rfl, rfl, rfl, rfl, Nat.le_add_right _ _⟩, .inr hok, known_alike (S := S) hal hok hkn, h, fun w hw => ?_⟩; obtain ⟨q, hq, hcells⟩ := given_out (hl w) hw.1; have hpu := opd_upto hok hx; rw [X.den_alike hal p hpu] at hq; show (do pure (.value (← Instr.loadAt t (a.eval x))) : Sem Next).run P w = _; rw [opd_den hfr hx]; refine run_v ?_; unfold Instr.loadAt Instr.sureAddr; simp only [SV.den, SV1.den, C1.den, hq, Sem.run_bind, Sem.run_pure, Result.andThen_ok]; exact load_at β ρ' hsh hi hlen (xs_den hex' hxs) hcells
   ·exact h.elim
  ·exact h.elim
 ·next m off hx =>
  split at h
  ·next sh r i hsh hr hi =>
   split at h
   ·next f hf =>
    split at hf
    ·next hc =>
     obtain ⟨hm, rfl, hsz⟩ := hc; obtain ⟨j, rfl, hj⟩ := litFn_den ρ hf; refine QOut.plain hkn h fun w hw => ?_
     have hrow := hw.2.2 m r hr hm; have hre := rowOf_m hr; show (do pure (.value (← Instr.loadAt t (a.eval x))) : Sem Next).run P w = _; rw [opd_den hfr hx]
     rcases hrow.2 with ⟨e, he⟩ | ⟨g, cap, cur, e, _, hg, _, _, _, ht⟩
     ·have hlx := hrow.1; rw [he, Nat.zero_mul] at hlx; rw [List.eq_nil_of_length_eq_zero hlx] at hj; cases hj
     ·injection e with e _ _
      rw [hre] at e; refine run_v ?_; show (Instr.loadAt t (.pointer ((β.row m).1.map (·.add j)))).run P w = _; rw [e]; unfold Instr.loadAt Instr.sureAddr; simp only [Option.map_some, Sem.run_bind, Sem.run_pure, Result.andThen_ok]; rw [add_plain, Nat.zero_add]; have := load_at (P := P) β (fun _ => U.v (.func (.func f) #[] #[])) (n := 0) (t := t) (sh := .one .val) (i := i) (w := w) (p := ⟨g, j, none⟩) hsh hi (by simp [Sh.lfs, hsz]) rfl (by
       intro k v hk; cases k with
       | zero =>
        injection hk with hk
        rw [← ht, List.getElem?_take] at hj; split at hj
        ·rw [← hk, add_plain]; unfold World.cell?; simp only [hg]; rw [if_neg (by simp)]; rw [Nat.add_zero, ← Array.getElem?_toList]; exact hj
        ·cases hj
       | succ k => cases hk)
      exact this
    ·cases hf
   split at h
   ·next hc =>
    simp only [Bool.and_eq_true, beq_iff_eq, Bool.not_eq_true', beq_eq_false_iff_ne] at hc; obtain ⟨⟨⟨hok, hm⟩, hlen⟩, hz⟩ := hc; obtain ⟨ρ', hal, h⟩ := exs_den _ _ _ _ h; obtain ⟨xs, hxs, hxl⟩ := freshs_exp { S with nv := S.nv + (lfsSrts sh.lfs).length } S.nv sh.lfs
    simp only [hxs] at h; obtain ⟨hl, h⟩ := h; have hex' : Exd { S with nv := S.nv + (lfsSrts sh.lfs).length } β ρ' := by
     intro e he; have hu := hok; unfold St.ok St.upto at hu; simp only [Bool.and_eq_true, List.all_eq_true] at hu; have := hu.1.2 e he; rw [X.den_alike hal _ this.1, X.den_alike hal _ this.2]; exact hex e he
    refine ⟨_, ρ', { S with nv := S.nv + (lfsSrts sh.lfs).length }, hal, ⟨rfl, rfl, rfl, rfl, rfl, rfl, Nat.le_add_right _ _⟩, .inr hok, known_alike (S := S) hal hok hkn, h, fun w hw => ?_⟩; have hpu := opd_upto hok hx; have hrow := hw.2.2 m r hr hm; have hlx : sh.lfs.length = xs.length := hxl.symm; show (do pure (.value (← Instr.loadAt t (a.eval x))) : Sem Next).run P w = _; rw [opd_den hfr hx]; rw [xs_den hex' hxs] at hl; have h0 : ∃ v, ((freshs S.nv sh.lfs).map (C1.den β ρ'))[0]? = some v := by
     have : 0 < ((freshs S.nv sh.lfs).map (C1.den β ρ')).length := by rw [List.length_map, freshs_length]; omega
     exact ⟨_, List.getElem?_eq_getElem this⟩
    have hre := rowOf_m hr
    rcases hrow.2 with ⟨e, he⟩ | ⟨g, cap, cur, e, _, hg, _, _, _, ht⟩
    ·obtain ⟨v, hv⟩ := h0; have := hl 0 v hv; have hlx := hrow.1; rw [he, Nat.zero_mul] at hlx; rw [List.eq_nil_of_length_eq_zero hlx] at this; cases this
    ·injection e with e _ _
     rw [hre] at e; refine run_v ?_; show (Instr.loadAt t (.pointer ((β.row m).1.map (·.add (off.den ρ).N)))).run P w = _; rw [e]; unfold Instr.loadAt Instr.sureAddr; simp only [Option.map_some, Sem.run_bind, Sem.run_pure, Result.andThen_ok]; rw [add_plain, Nat.zero_add]; refine load_at β ρ' hsh hi hlen rfl fun j v hv => ?_
     have := hl j v hv; rw [← ht, List.getElem?_take] at this; split at this
     ·rw [X.den_alike hal off hpu] at this; rw [add_plain]; unfold World.cell?; simp only [hg]; rw [if_neg (by simp)]; simpa using this
     ·cases this
   ·exact h.elim
  ·exact h.elim
 ·exact h.elim
theorem quiet_den (hfw : ∃ w, ∀ F ∈ fs, F.den σ ρ w) (hkn : ∀ c ∈ S.known, c.holds ρ) (hfr : ∀ t v, S.fr.lookup t = some v → a.tmps[t]? = some (v.den β ρ)) (hex : Exd S β ρ) (o : Oper) (h : (quiet P Γ fs okm o S k).den σ ρ) : QOut P σ fs okm o S k β ρ a := by
 obtain ⟨dst, op, type, pos, after, guard⟩ := o; cases op with
 | move x => exact q_copy (.inl rfl) hkn hfr h
 | assign x => exact q_copy (.inr rfl) hkn hfr h
 | binOp op t x y yt => exact q_binOp hkn hfr h
 | unOp op t x => exact q_unOp hkn hfr h
 | pick c x y => exact q_pick hkn hfr h
 | convert s t x => exact q_convert hkn hfr h
 | nilCheck x => exact q_nilCheck hfw hkn hfr h
 | fieldAddr t x i => exact q_fieldAddr hfw hkn hfr h
 | field t x i => exact q_field hkn hfr h
 | extract x i => exact q_extract hkn hfr h
 | index t x i => exact q_index hkn hfr h
 | indexAddr t x i => exact q_indexAddr hfw hkn hfr h
 | slice t x lo hi mx => exact q_slice hkn hfr h
 | load t x => exact q_load hkn hfr hex h
 | makeInterface t x => exact q_makeInterface hkn hfr hex h
 | call c =>
  obtain ⟨callee, args, ts⟩ := c; cases callee with
  | builtin b => cases b <;> first | exact q_len hkn hfr h | exact q_minmax (.inl rfl) hkn hfr h | exact q_minmax (.inr rfl) hkn hfr h | exact h.elim
  | _ => exact h.elim
 | _ => exact h.elim
end
end Go.Proofs.Ytgjbcahpgkchfaa.Vc
