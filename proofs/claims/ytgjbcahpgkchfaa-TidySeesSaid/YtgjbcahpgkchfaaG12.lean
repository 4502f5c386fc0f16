/- Of the texts Vc4. -/
import Derived.Test.YtgjbcahpgkchfaaG11
import Derived.IntWalk
set_option linter.unusedSimpArgs false
set_option linter.unusedVariables false
namespace Go.Proofs.Ytgjbcahpgkchfaa.Vc
open Go Go.RowKit
theorem UI (z : Int) : (U.i z).I = z := rfl
theorem UN (z : Nat) : (U.n z).N = z := rfl
theorem UB (z : Bool) : (U.b z).B = z := rfl
theorem US (z : ByteArray) : (U.s z).S = z := rfl
theorem UP (z : Option Addr) : (U.p z).P = z := rfl
theorem UL (z : List Value) : (U.l z).L = z := rfl
theorem UV (z : Value) : (U.v z).V = z := rfl
theorem mkAdd_den (ρ : Nat → U) (x y : X) : ((mkAdd x y).den ρ).I = (x.den ρ).I + (y.den ρ).I := by
 unfold mkAdd; split <;> rfl
theorem mkSub_den (ρ : Nat → U) (x y : X) : ((mkSub x y).den ρ).I = (x.den ρ).I - (y.den ρ).I := by
 unfold mkSub; split <;> rfl
theorem mkEq_den (ρ : Nat → U) (x y : X) : ((mkEq x y).den ρ).B = ((x.den ρ).I == (y.den ρ).I) := by
 unfold mkEq; split <;> rfl
theorem mkLt_den (ρ : Nat → U) (x y : X) : ((mkLt x y).den ρ).B = decide ((x.den ρ).I < (y.den ρ).I) := by
 unfold mkLt; split <;> rfl
theorem mkLe_den (ρ : Nat → U) (x y : X) : ((mkLe x y).den ρ).B = decide ((x.den ρ).I ≤ (y.den ρ).I) := by
 unfold mkLe; split <;> rfl
theorem mkCast_den (ρ : Nat → U) (x : X) : ((mkCast x).den ρ).I = ((x.den ρ).N : Int) := by
 unfold mkCast; split <;> rfl
theorem mkNat_den (ρ : Nat → U) (x : X) : ((mkNat x).den ρ).N = (x.den ρ).I.toNat := by
 unfold mkNat; split <;> first | rfl | (simp [X.den, UOp.den, U.I, U.N])
theorem mkMulN_den (ρ : Nat → U) (k : Nat) (x : X) : ((mkMulN k x).den ρ).N = (x.den ρ).N * k := by
 unfold mkMulN; split
 ·next h => subst h; omega
 ·split <;> rfl
theorem mkAddN_den (ρ : Nat → U) (x y : X) : ((mkAddN x y).den ρ).N = (x.den ρ).N + (y.den ρ).N := by
 unfold mkAddN; split <;> simp [X.den, U.N, BOp.den]
theorem addr_add (a : Addr) (i j : Nat) : (a.add i).add j = a.add (i + j) := by
 unfold Addr.add
 by_cases hi : i = 0
 ·subst hi; simp
 ·by_cases hj : j = 0
  ·subst hj; simp
  ·rw [if_neg hi, if_neg hj, if_neg (by omega)]; simp; omega
theorem mkPadd_den (ρ : Nat → U) (x y : X) : ((mkPadd x y).den ρ).P = (x.den ρ).P.map (·.add (y.den ρ).N) := by
 unfold mkPadd; split
 ·show _ = (x.den ρ).P.map (·.add 0); cases (x.den ρ).P <;> simp [Addr.add]
 ·split
  ·next o => 
   show Option.map _ _ = Option.map _ (Option.map _ _); rw [Option.map_map, mkAddN_den]
   congr 1
   funext a; exact (addr_add a _ _).symm
  ·rfl
theorem not_den (ρ : Nat → U) (x : X) : ((X.not x).den ρ).B = !(x.den ρ).B := by
 unfold X.not; split <;> first | rfl | (simp [X.den, UOp.den, U.B])
theorem mkApp_den (ρ : Nat → U) (x y : X) : ((mkApp x y).den ρ).L = (x.den ρ).L ++ (y.den ρ).L := by
 unfold mkApp; split <;> simp [X.den, U.L, BOp.den]
theorem i64ok_holds {ρ : Nat → U} {x : X} (h : (i64ok x).holds ρ) : -9223372036854775808 ≤ (x.den ρ).I ∧ (x.den ρ).I ≤ 9223372036854775807 := h
structure Sim (S S' : St) : Prop where
 nt : S'.nt = S.nt
 fr : S'.fr = S.fr
 blk : S'.blk = S.blk
 row : S'.row = S.row
 facts : S'.facts = S.facts
 exp : S'.exp = S.exp
 nv : S.nv ≤ S'.nv
theorem Sim.refl (S : St) : Sim S S := ⟨rfl, rfl, rfl, rfl, rfl, rfl, Nat.le_refl _⟩
theorem Sim.trans {S S' T : St} (h : Sim S S') (g : Sim S' T) : Sim S T := ⟨g.nt.trans h.nt, g.fr.trans h.fr, g.blk.trans h.blk, g.row.trans h.row, g.facts.trans h.facts, g.exp.trans h.exp, Nat.le_trans h.nv g.nv⟩
theorem needs_den {σ : Sm} {ρ : Nat → U} {k : St → VC} : ∀ {l : List X} {S : St}, (∀ c ∈ S.known, c.holds ρ) → (needs S l k).den σ ρ → (∀ c ∈ l, c.holds ρ) ∧ ∃ S', Sim S S' ∧ S'.nv = S.nv ∧ (∀ c ∈ S'.known, c.holds ρ) ∧ (k S').den σ ρ
 | [], S, hk, h => ⟨fun _ hc => (by cases hc), S, Sim.refl S, rfl, hk, h⟩
 | c :: l, S, hk, h => by
  unfold needs at h; split at h
  ·next e =>
   obtain ⟨h1, h2⟩ := needs_den hk h; refine ⟨fun x hx => ?_, h2⟩
   rcases List.mem_cons.1 hx with rfl | hx
   ·rcases e with e | e
    ·rw [e]; exact (rfl : true = true)
    ·exact hk _ (by simpa using e)
   ·exact h1 x hx
  ·obtain ⟨h0, h⟩ := h; have hk' : ∀ x ∈ (S.know c).known, x.holds ρ := fun x hx => by
    rcases List.mem_cons.1 hx with rfl | hx
    ·exact h0
    ·exact hk x hx
   obtain ⟨h1, S', h2, h3, h4, h5⟩ := needs_den hk' h; exact ⟨fun x hx => by rcases List.mem_cons.1 hx with rfl | hx; exact h0; exact h1 x hx, S', ⟨h2.nt, h2.fr, h2.blk, h2.row, h2.facts, h2.exp, h2.nv⟩, h3, h4, h5⟩
theorem needsF_den {σ : Sm} {ρ : Nat → U} {k : St → VC} {fs : List FX} (hw : ∃ w, ∀ F ∈ fs, F.den σ ρ w) : ∀ {l : List X} {S : St}, (∀ c ∈ S.known, c.holds ρ) → (needsF fs S l k).den σ ρ → (∀ c ∈ l, c.holds ρ) ∧ ∃ S', Sim S S' ∧ S'.nv = S.nv ∧ (∀ c ∈ S'.known, c.holds ρ) ∧ (k S').den σ ρ
 | [], S, hk, h => ⟨fun _ hc => (by cases hc), S, Sim.refl S, rfl, hk, h⟩
 | c :: l, S, hk, h => by
  unfold needsF at h; split at h
  ·next e =>
   obtain ⟨h1, h2⟩ := needsF_den hw hk h; refine ⟨fun x hx => ?_, h2⟩
   rcases List.mem_cons.1 hx with rfl | hx
   ·rcases e with e | e
    ·rw [e]; exact (rfl : true = true)
    ·exact hk _ (by simpa using e)
   ·exact h1 x hx
  ·have hh : c.holds ρ ∧ (needsF fs (S.know c) l k).den σ ρ := by
    split at h
    ·obtain ⟨h0, h⟩ := h; obtain ⟨w, hw⟩ := hw; exact ⟨given_out (h0 w) hw, h⟩
    ·exact h
   obtain ⟨h0, h⟩ := hh; have hk' : ∀ x ∈ (S.know c).known, x.holds ρ := fun x hx => by
    rcases List.mem_cons.1 hx with rfl | hx
    ·exact h0
    ·exact hk x hx
   obtain ⟨h1, S', h2, h3, h4, h5⟩ := needsF_den hw hk' h; exact ⟨fun x hx => by rcases List.mem_cons.1 hx with rfl | hx; exact h0; exact h1 x hx, S', ⟨h2.nt, h2.fr, h2.blk, h2.row, h2.facts, h2.exp, h2.nv⟩, h3, h4, h5⟩
theorem wrap_in {ρ : Nat → U} {x : X} (h : (i64ok x).holds ρ) : IntKind.i64.wrap (x.den ρ).I = (x.den ρ).I := IntWalk.i64_in _ (i64ok_holds h)
theorem arith_w {ρ : Nat → U} {β : Beta} {keep : Bool} {k : IntKind} {z : X} {v : C1} {ns : List X} (h : (if (k = .i64 && !keep) = true then (C1.int k z, [i64ok z]) else (C1.int k (.un (.wrap k) z), [])) = (v, ns)) (hn : ∀ c ∈ ns, c.holds ρ) : v.den β ρ = .int k (k.wrap (z.den ρ).I) := by
 split at h
 ·next hk =>
  simp at hk; obtain ⟨rfl, _⟩ := hk; injection h with h1 h2
  subst h1; subst h2; have := wrap_in (hn _ (List.mem_cons_self ..)); simp only [C1.den, this]
 ·injection h with h1 h2
  subst h1; rfl
theorem arith_den {P : Program} {w : World} {ρ : Nat → U} {β : Beta} {keep : Bool} {o : BinOp} {k : IntKind} {x y : X} {v : C1} {ns : List X} (h : arith keep o k x y = some (v, ns)) (hn : ∀ c ∈ ns, c.holds ρ) (t : TypeId) (ho : o ≠ .shl ∧ o ≠ .shr) : (binOp o t (.int k (x.den ρ).I) (.int k (y.den ρ).I)).run P w = .ok (v.den β ρ) w := by
 unfold arith at h; simp only at h; cases o <;> simp only [Option.some.injEq] at h <;> try (simp at ho)
 case add => simp [binOp, Op.intArith, arith_w h hn, mkAdd_den]
 case sub => simp [binOp, Op.intArith, arith_w h hn, mkSub_den]
 case mul => simp [binOp, Op.intArith, arith_w h hn, X.den, BOp.den, UI]
 case quo =>
  rw [Prod.mk.injEq] at h; obtain ⟨h1, h2⟩ := h; subst h2; have hz := hn _ (List.mem_cons_self ..); rw [X.holds_iff, not_den, mkEq_den] at hz; have hz : (y.den ρ).I ≠ 0 := by simpa [X.den, UI, UB] using hz
  have := arith_w (β := β) (keep := keep) (k := k) (z := .bin .quo x y) (v := v) (by rw [← h1]) (fun c hc => hn c (List.mem_cons_of_mem _ hc)); simp [binOp, Op.intDiv, hz, this, X.den, BOp.den, UI]
 case rem =>
  rw [Prod.mk.injEq] at h; obtain ⟨h1, h2⟩ := h; subst h2; subst h1; have hz := hn _ (List.mem_cons_self ..); rw [X.holds_iff, not_den, mkEq_den] at hz; have hz : (y.den ρ).I ≠ 0 := by simpa [X.den, UI, UB] using hz
  simp [binOp, Op.intDiv, hz, C1.den, X.den, BOp.den, UI]
 all_goals
  rw [Prod.mk.injEq] at h; obtain ⟨h1, h2⟩ := h; subst h2; subst h1
 all_goals simp [binOp, GT.gt, GE.ge, Op.intBits, Op.intCmp, C1.den, X.den, BOp.den, UI, bitsI, mkEq_den, mkLt_den, mkLe_den, not_den, bne]
theorem strOp_den {P : Program} {w : World} {ρ : Nat → U} {β : Beta} {o : BinOp} {x y : X} {v : C1} {ns : List X} (h : strOp o x y = some (v, ns)) (hn : ∀ c ∈ ns, c.holds ρ) (t : TypeId) : (binOp o t (.string (x.den ρ).S) (.string (y.den ρ).S)).run P w = .ok (v.den β ρ) w := by
 unfold strOp at h; cases o <;> simp only [Option.some.injEq, Prod.mk.injEq, reduceCtorEq] at h
 case add =>
  obtain ⟨h1, h2⟩ := h; subst h2; subst h1; have hz := hn _ (List.mem_cons_self ..); rw [X.holds_iff] at hz; have hz : (((x.den ρ).S.size + (y.den ρ).S.size : Nat) : Int) ≤ 9223372036854775807 := of_decide_eq_true hz; have hm : ¬ ((((x.den ρ).S.size + (y.den ρ).S.size : Nat) : Int) > IntKind.i64.max) := by
   have : IntKind.i64.max = 9223372036854775807 := by decide
   omega
  unfold binOp; simp only [Op.stringOp, hm, if_false]; simp [C1.den, X.den, BOp.den, US]
 all_goals
  obtain ⟨h1, h2⟩ := h; subst h2; subst h1; unfold binOp; simp [Op.stringOp, C1.den, X.den, BOp.den, UOp.den, UB]
theorem binC_den {P : Program} {w : World} {ρ : Nat → U} {β : Beta} {keep : Bool} {o : BinOp} {x y : C1} {v : C1} {ns : List X} (h : binC keep o x y = some (v, ns)) (hn : ∀ c ∈ ns, c.holds ρ) (t : TypeId) : (binOp o t (x.den β ρ) (y.den β ρ)).run P w = .ok (v.den β ρ) w := by
 unfold binC at h; split at h
 ·next k a j b =>
  injection h with h; injection h with h1 h2
  subst h1; subst h2; have hz := hn _ (List.mem_cons_self ..); rw [X.holds_iff, mkLe_den] at hz; have hz : ¬ (b.den ρ).I < 0 := by have hz : (0 : Int) ≤ (b.den ρ).I := of_decide_eq_true hz; omega
  simp [binOp, C1.den, Op.shift, hz, X.den, BOp.den, UI, shlI]
 ·next k a j b =>
  injection h with h; injection h with h1 h2
  subst h1; subst h2; have hz := hn _ (List.mem_cons_self ..); rw [X.holds_iff, mkLe_den] at hz; have hz : ¬ (b.den ρ).I < 0 := by have hz : (0 : Int) ≤ (b.den ρ).I := of_decide_eq_true hz; omega
  simp [binOp, C1.den, Op.shift, hz, X.den, BOp.den, UI, shrI]
 ·split at h
  ·next e =>
   obtain ⟨rfl, e⟩ := e; exact arith_den h hn t e
  ·cases h
 ·exact strOp_den h hn t
 ·cases h
theorem eqGuard_den {P : Program} {w : World} {ρ : Nat → U} {β : Beta} {o : BinOp} {x y : C1} (t : TypeId) (p q : Operand) (h : (∃ k a, x = .int k a) ∨ (∃ a, x = .str a) ∨ (∃ a, x = .bool a) ∨ (∃ a, x = .ptr a) ∨ (∃ a b, x = .own a b) ∨ (∃ a n c, x = .slc a n c)) : (eqGuard o t p q (x.den β ρ) (y.den β ρ)).run P w = .ok () w := by
 unfold eqGuard
 rcases h with ⟨k, a, rfl⟩ | ⟨a, rfl⟩ | ⟨a, rfl⟩ | ⟨a, rfl⟩ | ⟨a, b, rfl⟩ | ⟨a, n, c, rfl⟩ <;> cases o <;> rfl
theorem binC_kind {keep : Bool} {o : BinOp} {x y v : C1} {ns : List X} (h : binC keep o x y = some (v, ns)) : (∃ k a, x = .int k a) ∨ (∃ a, x = .str a) := by
 unfold binC at h; split at h
 ·exact .inl ⟨_, _, rfl⟩
 ·exact .inl ⟨_, _, rfl⟩
 ·exact .inl ⟨_, _, rfl⟩
 ·exact .inr ⟨_, rfl⟩
 ·cases h
theorem eqC_kind {P : Program} {t : Nat} {x y : C1} {q : X} (h : eqC P t x y = some q) : (∃ a, x = .bool a) ∨ (∃ a, x = .ptr a) ∨ (∃ a b, x = .own a b) ∨ (∃ a n c, x = .slc a n c) := by
 unfold eqC at h; split at h
 ·exact .inl ⟨_, rfl⟩
 ·exact .inr (.inl ⟨_, rfl⟩)
 ·exact .inr (.inr (.inl ⟨_, _, rfl⟩))
 ·exact .inr (.inr (.inr ⟨_, _, _, rfl⟩))
 ·cases h
theorem run_und {P : Program} {t : TypeId} {d : TypeDesc} (w : World) (h : P.underlying t = some d) : (underlying t).run P w = .ok d w := by
 simp [underlying, program, Sem.run, h, Sem.run_bind]
theorem eqC_den {P : Program} {w : World} {ρ : Nat → U} {β : Beta} {t : Nat} {x y : C1} {q : X} (h : eqC P t x y = some q) : (Op.equal t (x.den β ρ) (y.den β ρ)).run P w = .ok (q.den ρ).B w := by
 unfold Op.equal Op.maxDepth; show (Op.equalIn (9999 + 1) t _ _).run P w = _; unfold Op.equalIn; unfold eqC at h; split at h
 ·next a b hd =>
  injection h with h; subst h
  simp only [Sem.run_bind, run_und w hd, Result.andThen_ok, C1.den, X.den, BOp.den, UOp.den, UB, UP]; rfl
 ·next a hd =>
  injection h with h; subst h
  simp only [Sem.run_bind, run_und w hd, Result.andThen_ok, C1.den, X.den, BOp.den, UOp.den, UB, UP]; cases (X.den ρ a).P <;> rfl
 ·next hd =>
  injection h with h; subst h
  simp only [Sem.run_bind, run_und w hd, Result.andThen_ok, C1.den, X.den, BOp.den, UOp.den, UB, UP]; rfl
 ·next a _ _ _ _ hd =>
  injection h with h; subst h
  simp only [Sem.run_bind, run_und w hd, Result.andThen_ok, C1.den, X.den, BOp.den, UOp.den, UB, UP]; cases (X.den ρ a).P <;> rfl
 ·cases h
end Go.Proofs.Ytgjbcahpgkchfaa.Vc
