/- Of the texts VcE, VcF, VcG, VcV. -/
import Derived.Test.YtgjbcahpgkchfaaG15
import Derived.Lib.AppendStr
set_option linter.unusedSimpArgs false
set_option linter.unusedVariables false
namespace Go.Proofs.Ytgjbcahpgkchfaa.Vc
open Go Go.RowKit Go.Lib
section
variable {P : Program} {Γ : Cfg} {σ : Sm} {S : St} {k : St → VC} {β : Beta} {ρ : Nat → U} {a : Act} {w w0 : World} {dst : Option Nat} {type : Nat} {pos : String} {after : Array Edge} {guard : Option (Nat × Bool)} {K : Act → World → Prop} {Q : Exit → Act → World → Prop}
theorem unrow_spec {S1 : St} {m : Nat} (h : S.unrow m = some S1) : S1.nt = S.nt ∧ (S1.nv = S.nv ∧ S1.known = S.known) ∧ S1.row = S.row ∧ S1.facts = S.facts ∧ S1.blk = S.blk ∧ S1.fr = forget (·.any (·.rows m)) S.fr ∧ S1.exp = S.exp.filter (fun e => e.1 != m) ∧ (∀ q ∈ S.blk, ∀ c ∈ q.2.2, c.rows m = false) := by
 unfold St.unrow at h; split at h
 ·cases h
 ·next hn =>
  injection h with h
  subst h; refine ⟨rfl, ⟨rfl, rfl⟩, rfl, rfl, rfl, rfl, rfl, ?_⟩; intro q hq c hc; simp only [List.any_eq_true, not_exists, not_and] at hn; have := hn q hq c hc; simpa using this
theorem onesX_ok (ρ : Nat → U) : ∀ x : X, onesX x = true → ∀ v ∈ (x.den ρ).L, v.oneCell' = true
 | .lnil, _, v, hv => by cases hv
 | .bin .app x y, h, v, hv => by
  simp only [onesX, Bool.and_eq_true] at h
  rcases List.mem_append.1 hv with hv | hv
  ·exact onesX_ok ρ x h.1 v hv
  ·exact onesX_ok ρ y h.2 v hv
 | .un .one (.fn f), _, v, hv => by have := List.mem_singleton.1 hv; subst this; rfl
 | .un .one (.un (.vint k) x), _, v, hv => by have := List.mem_singleton.1 hv; subst this; rfl
 | .un .one (.un .vbool x), _, v, hv => by have := List.mem_singleton.1 hv; subst this; rfl
 | .un .one (.un .vstr x), _, v, hv => by have := List.mem_singleton.1 hv; subst this; rfl
 | .un .one (.un .vptr x), _, v, hv => by have := List.mem_singleton.1 hv; subst this; rfl
 | .un .one (.tri .vslc x y z), _, v, hv => by have := List.mem_singleton.1 hv; subst this; rfl
 | .un .one (.vnil k), _, v, hv => by
  have := List.mem_singleton.1 hv; subst this; show (nilV k).oneCell' = true; unfold nilV; split <;> rfl
theorem ones_den {x : X} {k : VC} (h : (ones x k).den σ ρ) : (∀ v ∈ (x.den ρ).L, v.oneCell' = true) ∧ k.den σ ρ := by
 unfold ones at h; split at h
 ·next hx => exact ⟨onesX_ok ρ x hx, h⟩
 ·exact h
theorem append_fin {args : Array Operand} {ts : Array Nat} {m : Nat} {n n2 : X} {r : RowS} {S1 : St} {xs2 : X} {news : List Value} {ρ' : Nat → U} {dd : Nat} {T : St}
  (d : Den σ S β ρ' w0 a w) (hr : S.rowOf m = some r) (hS1 : S.unrow m = some S1) (hrn : r.n = n) (hxs : (xs2.den ρ').L = news) (hb : σ.base ≤ w.heap.size) (hal : Alike S.nv ρ ρ') (hT : Sim S1 T) (hTk : ∀ c ∈ T.known, c.holds ρ')
  (hap : ∃ v' w', (Builtin.append_ ts type (args.map a.eval)).run P w = .ok v' w' ∧ w'.ownsRow 0 r.e r.size v' ((n.den ρ').N + (n2.den ρ').N) ((r.xs.den ρ').L ++ news) ∧ w.grownBy w' (Value.slice (β.row m).1 (n.den ρ').N (β.row m).2).ownBlock ∧ (v'.ownBlock = (Value.slice (β.row m).1 (n.den ρ').N (β.row m).2).ownBlock ∨ v'.ownBlock = some w.heap.size))
  (h : (k ((T.setRow m (mkAddN n n2) (mkApp r.xs xs2)).put (some dd) (.s (.one (.row m (mkAddN n n2)))))).den σ ρ')
  (hK : ∀ a' w', AOut σ S k β ρ w0 [dd, m] a' w' → K a' w') : Oper.wp P ⟨some dd, .call { callee := .builtin .append, args := args, argTypes := ts }, type, pos, after, guard⟩ a w K Q := by
 have hrow := (d.rw r (rowOf_mem hr)).1; rw [rowOf_m hr, hrn] at hrow; obtain ⟨v', w', hrun, hown, hgrow, hob⟩ := hap; have hshape : ∃ A' c', v' = .slice A' ((n.den ρ').N + (n2.den ρ').N) c' := by
  rcases hown.2 with ⟨e', h0'⟩ | ⟨g, cap, cur, e', _⟩
  ·exact ⟨none, 0, by rw [e', h0']⟩
  ·exact ⟨_, _, e'⟩
 obtain ⟨A', c', rfl⟩ := hshape; obtain ⟨u1, ⟨u2, uk⟩, u3, u4, u5, u6, u7, u8⟩ := unrow_spec hS1; obtain ⟨β', hn', hm', hd'⟩ := (d.less (S1 := { S with known := [] }) rfl (fun _ _ h => h) (List.Sublist.refl _) (List.Sublist.refl _) (fun _ h => h) (fun _ h => h) (fun _ h => (by cases h))).setRow (S1 := { T with known := [] }) (n := mkAddN n n2) (xs := mkApp r.xs xs2) (A := A') (c := c') (w' := w') hr (hT.nt.trans u1) rfl (hT.row.trans u3) (hT.facts.trans u4) (hT.blk.trans u5)
  (fun e' he => by
   have he : e' ∈ T.exp := he; rw [hT.exp, u7] at he; obtain ⟨he1, he2⟩ := List.mem_filter.1 he; exact ⟨he1, .inr (by simpa using he2)⟩)
  (fun t v hv => by
   have hv : T.fr.lookup t = some v := hv; rw [hT.fr, u6] at hv; obtain ⟨hv1, hv2⟩ := forget_spec hv; exact ⟨hv1, .inr hv2⟩)
  (.inr u8)
  (by
   rw [mkAddN_den, mkApp_den, hxs]; exact hown)
  hgrow.size
  (fun j hj hne => hgrow.block j hj fun e' => by
   obtain ⟨p, hp, hpb⟩ := ownBlock_slice e'.symm; exact hne p hp hpb.symm)
  (fun p hp => by
   rcases hob with e' | e'
   ·have : (Value.slice (β.row m).1 (n.den ρ').N (β.row m).2).ownBlock = some p.block := by rw [← e', hp]; rfl
    obtain ⟨p', hp', hpb⟩ := ownBlock_slice this; left; rw [hp']; have hg : ∃ g, (β.row m).1 = some ⟨g, 0, none⟩ := by
     rcases hrow.2 with ⟨e', _⟩ | ⟨g, _, _, e', _⟩
     ·injection e' with e' _ _; rw [hp'] at e'; cases e'
     ·injection e' with e' _ _; exact ⟨g, e'⟩
    have hg' : ∃ g, A' = some ⟨g, 0, none⟩ := by
     rcases hown.2 with ⟨e', _⟩ | ⟨g, _, _, e', _⟩
     ·injection e' with e' _ _; rw [hp] at e'; cases e'
     ·injection e' with e' _ _; exact ⟨g, e'⟩
    obtain ⟨g, hg⟩ := hg; obtain ⟨g', hg'⟩ := hg'; rw [hp'] at hg; rw [hp] at hg'; injection hg with hg
    injection hg' with hg'
    subst hg; subst hg'; have : g = g' := hpb; rw [this]
   ·right; rw [hp] at e'; have : p.block = w.heap.size := by simpa [Value.ownBlock] using e'
    exact ⟨by omega, by omega⟩)
  (d.bl.grownL hgrow hb fun j e' => by
   obtain ⟨p, hp, hpb⟩ := ownBlock_slice e'; have := d.row_at (rowOf_mem hr) (by rw [rowOf_m hr]; exact hp); rw [hpb, rowOf_m hr] at this; exact Sm.row_or this)
 have hr' : (execOp a.eval ⟨some dd, .call { callee := .builtin .append, args := args, argTypes := ts }, type, pos, after, guard⟩).run P w = .ok (.value (.slice A' ((n.den ρ').N + (n2.den ρ').N) c')) w' := by
  unfold execOp; simp only [resolve, invoke, builtin, Sem.run_bind, Sem.run_pure, Result.andThen_ok, hrun]
 refine wp_value hr' (hK _ _ ⟨_, β', ρ', h, ?_, hal, ⟨fun j _ => hn'.blk j (fun h => h), fun j hj => hn'.row j (fun e' => hj (by simp [e'])), hn'.junk⟩, by rw [put_nv]; exact Nat.le_trans (Nat.le_of_eq u2.symm) hT.nv⟩); replace hd' : Den σ (T.setRow m (mkAddN n n2) (mkApp r.xs xs2)) β' ρ' w0 a w' := hd'.sim ⟨rfl, rfl, rfl, rfl, rfl, rfl, Nat.le_refl _⟩ hTk; have := hd'.put (some dd) (.s (.one (.row m (mkAddN n n2)))); have e' : (SV.s (.one (.row m (mkAddN n n2)))).den β' ρ' = .slice A' ((n.den ρ').N + (n2.den ρ').N) c' := by
  show Value.slice (β'.row m).1 ((mkAddN n n2).den ρ').N (β'.row m).2 = _; rw [hm', mkAddN_den]
 rw [e'] at this; exact this
theorem append_core {args : Array Operand} {ts : Array Nat} {x0 x1 : Operand} {t e m : Nat} {n n2 : X} {r : RowS} {S1 : St} {i : TypeInfo} {xs2 : X} {B : Nat} {A : Option Addr} {c : Nat} {news : List Value} {ρ' : Nat → U} {dd : Nat} {T : St}
  (d : Den σ S β ρ' w0 a w) (hargs : args.toList = [x0, x1]) (hts : ts.toList = [t, t]) (hx0 : S.opd x0 = some (.s (.one (.row m n)))) (ht : P.underlying t = some (.slice e)) (hr : S.rowOf m = some r) (hS1 : S.unrow m = some S1) (hi : P.info? e = some i)
  (hrn : r.n = n) (hre : r.e = e) (hsz : i.size = r.size) (hby : i.bytes = r.bytes) (hz : zeroOk i = true) (h0 : 0 < i.size)
  (hx1 : a.eval x1 = .slice A (n2.den ρ').N c) (hrd : Rd w B r.size A (n2.den ρ').N news) (h1 : ∀ v ∈ news, v.oneCell' = true) (hxs : (xs2.den ρ').L = news)
  (hn1 : (n.den ρ').N + (n2.den ρ').N ≤ 9223372036854775807) (hn2 : ((n.den ρ').N + (n2.den ρ').N) * r.bytes ≤ 140737488355328)
  (hb : σ.base ≤ w.heap.size) (hal : Alike S.nv ρ ρ') (hT : Sim S1 T) (hTk : ∀ c ∈ T.known, c.holds ρ')
  (h : (k ((T.setRow m (mkAddN n n2) (mkApp r.xs xs2)).put (some dd) (.s (.one (.row m (mkAddN n n2)))))).den σ ρ')
  (hK : ∀ a' w', AOut σ S k β ρ w0 [dd, m] a' w' → K a' w') : Oper.wp P ⟨some dd, .call { callee := .builtin .append, args := args, argTypes := ts }, type, pos, after, guard⟩ a w K Q := by
 obtain ⟨z, hz1, hz2⟩ := zero_some hz; have hrow := (d.rw r (rowOf_mem hr)).1; rw [rowOf_m hr, hrn, hre, ← hsz] at hrow; have ha1 : args.map a.eval = #[.slice (β.row m).1 (n.den ρ').N (β.row m).2, .slice A (n2.den ρ').N c] := by
  apply Array.toList_inj.1; rw [Array.toList_map, hargs]; show [a.eval x0, a.eval x1] = _; rw [opd_den d.fr hx0, hx1]; rfl
 have ha2 : ts = #[t, t] := Array.toList_inj.1 hts; rw [← hsz] at hrd; obtain ⟨v', w', hrun, hown, hgrow, hob⟩ := run_append_any (P := P) w 0 t type e i z i.size i.bytes ht hi hz1 rfl rfl hz2 h0 _ _ _ hrow B A (n2.den ρ').N c news hrd h1 (by unfold maxLen; omega) (by rw [hby]; omega) (Nat.zero_le _); refine append_fin d hr hS1 hrn hxs hb hal hT hTk ⟨v', w', by rw [ha1, ha2]; exact hrun, ?_, hgrow, hob⟩ h hK; rw [hre, ← hsz]; exact hown
theorem needs2 {x y : X} {S : St} {k : St → VC} {n : Nat} (hk : ∀ c ∈ S.known, c.holds ρ) (h : (needs S [mkLe (mkCast x) (.int 9223372036854775807), mkLe (mkCast (mkMulN n y)) (.int maxBytes)] k).den σ ρ) : ((x.den ρ).N : Int) ≤ 9223372036854775807 ∧ (((y.den ρ).N * n : Nat) : Int) ≤ 140737488355328 ∧ ∃ T, Sim S T ∧ (∀ c ∈ T.known, c.holds ρ) ∧ (k T).den σ ρ := by
 obtain ⟨hn, T, h1, _, h3, h4⟩ := needs_den hk h; have h0 := le_den (hn _ (List.mem_cons_self ..)); have h2 := le_den (hn _ (List.mem_cons_of_mem _ (List.mem_cons_self ..))); rw [mkCast_den] at h0 h2; rw [mkMulN_den] at h2; exact ⟨h0, h2, T, h1, h3, h4⟩
theorem append_str_block {t u ty e : TypeId} {i : TypeInfo} (ht : P.underlying t = some (.slice e)) (hu : P.underlying u = some .string) (hi : P.info? e = some i) (hz : i.zero = some (.int .u8 0)) (hsize : i.size = 1) (hby : i.bytes = 1)
  {v v' : Value} {n : Nat} {xs : List Value} {w' : World} (hown : w.ownsRow 0 e 1 v n xs) {s : ByteArray} (hbytes : n + s.size ≤ 140737488355328) (hr : (Builtin.append_ #[t, u] ty #[v, .string s]).run P w = .ok v' w') : v'.ownBlock = v.ownBlock ∨ v'.ownBlock = some w.heap.size := by
 have hxl : xs.length = n := by simpa using hown.1
 rcases hown.2 with ⟨rfl, rfl⟩ | ⟨g, cap, cur, rfl, _, hg, hnc, hcm, hcs, htake⟩
 ·by_cases hm : s.size = 0
  ·have hf := run_firstCells_string (P := P) w 1 s; rw [hm] at hf; have : (Builtin.append_ #[t, u] ty #[.slice none 0 0, .string s]).run P w = .ok (.slice none 0 0) w := by
    simp [Builtin.append_, run_underlying ht, run_underlying hu, sizeOf, typeInfo, hi, hsize, Builtin.lenOf, hm, hf]
   rw [this] at hr; injection hr with hr _
   subst hr; exact .inl rfl
  ·have h2 := run_append_nil_string (P := P) w t u ty e i (.int .u8 0) ht hu hi hz s (by omega) (by omega) (by rw [hby]; omega); rw [h2] at hr; injection hr with hr _
   subst hr; exact .inr rfl
 ·by_cases hroom : n + s.size ≤ cap
  ·have h2 := run_append_room_string (P := P) w t u ty e i ht hu hi hsize g n cap cur hg s hroom (by omega); rw [h2] at hr; injection hr with hr _
   subst hr; exact .inl rfl
  ·have holds : ∀ j u, xs[j]? = some u → w.cell? ((⟨g, 0, none⟩ : Addr).add j) = some u := World.ownsRow.cells (g := g) (base := 0) (e := e) (size := 1) (n := n) ⟨by simpa using hxl, .inr ⟨g, cap, cur, rfl, Nat.zero_le _, hg, hnc, hcm, hcs, htake⟩⟩ rfl; have h2 := run_append_grow_string (P := P) w t u ty e i (.int .u8 0) ht hu hi hz ⟨g, 0, none⟩ n cap xs (by rw [hsize]; simpa using hxl) holds s (by omega) (by omega) (by rw [hby]; exact growslice_fits (by omega) (by omega)); rw [h2] at hr; injection hr with hr _
   subst hr; exact .inr rfl
theorem a_append {args : Array Operand} {ts : Array Nat} (d : Den σ S β ρ w0 a w) (h : (act P Γ ⟨dst, .call { callee := .builtin .append, args := args, argTypes := ts }, type, pos, after, guard⟩ S k).den σ ρ) (hb : σ.base ≤ w.heap.size) (hpre : σ.pre0 w) (hK : ∀ a' w', AOut σ S k β ρ w0 (touch ⟨dst, .call { callee := .builtin .append, args := args, argTypes := ts }, type, pos, after, guard⟩ S) a' w' → K a' w') : Oper.wp P ⟨dst, .call { callee := .builtin .append, args := args, argTypes := ts }, type, pos, after, guard⟩ a w K Q := by
 unfold act at h; simp only at h; split at h
 ·next dd x0 x1 t t' hargs hts =>
  split at h
  ·next m n e hx0 ht =>
   split at h
   ·next r S1 i hr hS1 hi =>
    split at h
    ·next q hq =>
     split at h
     ·next hc =>
      obtain ⟨hrn, hre, hsz, hby, hbe⟩ := hc; unfold strArg at hq; split at hq
      ·next q1 hu hx1 =>
       injection hq with hq
       subst hq; unfold byteEl at hbe; simp only [Bool.and_eq_true, beq_iff_eq] at hbe; obtain ⟨⟨b1, b2⟩, b3⟩ := hbe; have hz : i.zero = some (.int .u8 0) := by
        split at b3
        ·assumption
        ·cases b3
       have htc : ∀ a' w', AOut σ S k β ρ w0 [dd, m] a' w' → K a' w' := by
        intro a' w' ha; refine hK a' w' ?_; unfold touch; simp only [hargs, hx0]; exact ha
       obtain ⟨hn1, hn2, T, hT, hTk, h⟩ := needs2 (fun c hc => d.kn c (by rw [(unrow_spec hS1).2.1.2] at hc; exact hc)) h; rw [mkAddN_den] at hn1 hn2; have hn1 := Int.ofNat_le.1 hn1; have hn2 := Int.ofNat_le.1 hn2; rw [hby, Nat.mul_one] at hn2; have hrow := (d.rw r (rowOf_mem hr)).1; rw [rowOf_m hr, hrn, hre, hsz] at hrow; have ha1 : args.map a.eval = #[.slice (β.row m).1 (n.den ρ).N (β.row m).2, .string (q1.den ρ).S] := by
        apply Array.toList_inj.1; rw [Array.toList_map, hargs]; simp only [List.map_cons, List.map_nil, opd_den d.fr hx0, opd_den d.fr hx1]; rfl
       have ha2 : ts = #[t, t'] := Array.toList_inj.1 hts; obtain ⟨v', w', g1, g2, g3, _⟩ := run_append_own_string (P := P) w 0 _ _ type e i ht hu hi hz b1 b2 _ _ _ hrow _ (by unfold maxLen; exact hn1) hn2 (Nat.zero_le _); refine append_fin (k := k) d hr hS1 hrn (n2 := .un .size q1) (xs2 := .un .sl q1) rfl hb (Alike.refl _ _) hT hTk ⟨v', w', by rw [ha1, ha2]; exact g1, ?_, g3, append_str_block ht hu hi hz b1 b2 hrow hn2 g1⟩ h htc; rw [hre, hsz]; exact g2
      ·cases hq
     ·exact h.elim
    split at h
    ·next hc =>
     obtain ⟨hrn, hre, hsz, hby, hz, h0, rfl⟩ := hc; have htc : ∀ a' w', AOut σ S k β ρ w0 [dd, m] a' w' → K a' w' := by
      intro a' w' ha; refine hK a' w' ?_; unfold touch; simp only [hargs, hx0]; exact ha
     split at h
     ·next m2 n2 hx1 =>
      split at h
      ·next r2 hr2 =>
       split at h
       ·next hc2 =>
        obtain ⟨hrn2, hne, hsz2⟩ := hc2; obtain ⟨ho, h⟩ := ones_den h; obtain ⟨hn1, hn2, T, hT, hTk, h⟩ := needs2 (fun c hc => d.kn c (by rw [(unrow_spec hS1).2.1.2] at hc; exact hc)) h; rw [mkAddN_den] at hn1 hn2; have hrow2 := (d.rw r2 (rowOf_mem hr2)).1; rw [rowOf_m hr2, hrn2, hsz2] at hrow2; have e1 : a.eval x1 = .slice (β.row m2).1 (n2.den ρ).N (β.row m2).2 := by rw [opd_den d.fr hx1]; rfl
        exact append_core (k := k) d hargs hts hx0 ht hr hS1 hi hrn hre hsz hby hz h0 e1 (Rd.of_own hrow2) ho rfl (Int.ofNat_le.1 hn1) (Int.ofNat_le.1 hn2) hb (Alike.refl _ _) (T := T) hT hTk h htc
       ·exact h.elim
      ·exact h.elim
     ·next b n2 c hx1 =>
      split at h
      ·next hok =>
       obtain ⟨xs2, h⟩ := h; have hal : Alike S.nv ρ (upd ρ S.nv (.l xs2)) := Alike.upd _ _ _; have hself : (X.var S.nv).den (upd ρ S.nv (.l xs2)) = .l xs2 := by
        show upd ρ S.nv (.l xs2) S.nv = _; unfold upd; rw [show Nat.beq S.nv S.nv = true from Nat.beq_refl _]; rfl
       obtain ⟨hrd, ho, h⟩ := h; have d' := d.alike hal hok; obtain ⟨hn1, hn2, T, hT, hTk, h⟩ := needs2 (fun c hc => d'.kn c (by have hc : c ∈ S1.known := hc; rw [(unrow_spec hS1).2.1.2] at hc; exact hc)) h; rw [mkAddN_den] at hn1 hn2; have e1 : a.eval x1 = .slice (b.den (upd ρ S.nv (.l xs2))).P (n2.den (upd ρ S.nv (.l xs2))).N (c.den (upd ρ S.nv (.l xs2))).N := by rw [opd_den d'.fr hx1]; rfl
       obtain ⟨B, hB⟩ := given_out (hrd w) fun F hF => d'.fx F hF w hpre fun _ _ _ _ => rfl
       exact append_core (k := k) d' hargs hts hx0 ht hr hS1 hi hrn hre hsz hby hz h0 e1 hB ho rfl (Int.ofNat_le.1 hn1) (Int.ofNat_le.1 hn2) hb hal (T := T) ⟨hT.nt, hT.fr, hT.blk, hT.row, hT.facts, hT.exp, Nat.le_trans (by rw [(unrow_spec hS1).2.1.1]; exact Nat.le_succ _) hT.nv⟩ hTk h htc
      ·exact h.elim
     ·exact h.elim
    ·exact h.elim
   ·exact h.elim
  ·exact h.elim
 ·exact h.elim
end
end Go.Proofs.Ytgjbcahpgkchfaa.Vc
namespace Go.Proofs.Ytgjbcahpgkchfaa.Vc
open Go Go.RowKit
structure Ctr where
 gh : Nat := 0
 pre : List U → World → Prop
 post : List U → List U → Prop
 fact : List U → List U → World → Prop
 pan : List U → List PanicEntry → Prop := fun _ _ => False
def Keeps (P : Program) (f : Nat) (s : Ctr) : Prop :=
 ∀ (fn : Func) (pin pout : List Sh), P.funcs[f]? = some fn → shsOf P fn.params = some pin → shsOf P fn.resultTypes = some pout → ∀ (us : List U) (w : World), us.map U.srt = lfsSrts (shsLfs pin) ++ List.replicate s.gh .g → s.pre us w →
  Calls P f (shsV us 0 pin).toArray w fun e w' => ∃ os : List U, os.map U.srt = lfsSrts (shsLfs pout) ∧ e = .returned (resV os pout) ∧ s.post us os ∧
   (∀ u : World, (∀ b, w.heap.size ≤ b → b < w'.heap.size → u.heap[b]? = w'.heap[b]?) → s.pre us u → s.fact us os u) ∧ Below w.heap.size w w'
def LentAt (w : World) (args : List Value) (vs : List U) : Nat → List (Nat × Nat) → List (List Lf) → List Nat → Prop
 | _, [], [], [] => True
 | k, p :: L, lf :: lls, b :: bs => args[p.1]? = some (.pointer (some ⟨b, 0, none⟩)) ∧ w.heap[b]? = some (.cells (lfsV vs k lf).toArray p.2 (0, 0)) ∧ LentAt w args vs (k + lfsAr lf) L lls bs
 | _, _, _, _ => False
def bOf (L : List (Nat × Nat)) (bs : List Nat) (m : Nat) : Option Nat := ((L.map (·.1)).zip bs).lookup m
def RowsAt (P : Program) (w : World) (vs : List U) (nb : Nat → Option Nat) : Nat → List (Nat × Nat × Nat) → List (Option Addr) → Prop
 | _, [], [] => True
 | k, q :: R, A :: As => (∃ b i n c, nb q.1 = some b ∧ P.info? q.2.2 = some i ∧ w.cell? ⟨b, q.2.1, none⟩ = some (.slice A n c) ∧ w.ownsRow 0 q.2.2 i.size (.slice A n c) n (at_ vs k).L) ∧ RowsAt P w vs nb (k + 1) R As
 | _, _, _ => False
def blocksOf (As : List (Option Addr)) : List Nat := As.filterMap (·.map Addr.block)
def Moved (n : Nat) : List (Option Addr) → List (Option Addr) → Prop
 | [], [] => True
 | A :: As, B :: Bs => (B = A ∨ ∀ p, B = some p → n ≤ p.block) ∧ Moved n As Bs
 | _, _ => False
def KeepsR (P : Program) (f : Nat) (s : Ctr) (L : List (Nat × Nat)) (R : List (Nat × Nat × Nat)) : Prop :=
 ∀ (fn : Func) (pin pout : List Sh) (lls : List (List Lf)), P.funcs[f]? = some fn → shsOf P fn.params = some pin → shsOf P fn.resultTypes = some pout → lentsLfs P L = some lls → ∀ (us : List U) (w : World) (bs : List Nat) (As : List (Option Addr)), us.map U.srt = lfsSrts (shsLfs pin) ++ (List.replicate R.length .l ++ (lfsSrts lls.flatten ++ List.replicate s.gh .g)) → (bs ++ blocksOf As).Nodup → LentAt w (shsV us 0 pin) us (lfsAr (shsLfs pin) + R.length) L lls bs → RowsAt P w us (bOf L bs) (lfsAr (shsLfs pin)) R As → s.pre us w →
  Calls P f (shsV us 0 pin).toArray w fun e w' => (∃ (os : List U) (Bs : List (Option Addr)), os.map U.srt = lfsSrts (shsLfs pout) ++ (List.replicate R.length .l ++ lfsSrts lls.flatten) ∧ e = .returned (resV os pout) ∧ s.post us os ∧ LentAt w' (shsV us 0 pin) os (lfsAr (shsLfs pout) + R.length) L lls bs ∧ RowsAt P w' os (bOf L bs) (lfsAr (shsLfs pout)) R Bs ∧ (bs ++ blocksOf Bs).Nodup ∧ Moved w.heap.size As Bs ∧
   (∀ u : World, (∀ b, w.heap.size ≤ b → b < w'.heap.size → b ∉ blocksOf Bs → u.heap[b]? = w'.heap[b]?) → s.pre us u → s.fact us os u) ∧ Kept (· ∈ bs ++ blocksOf As) w.heap.size w w') ∨ (∃ ch, e = .panicked ch ∧ s.pan us ch ∧ Kept (· ∈ bs ++ blocksOf As) w.heap.size w w')
def KeepsF (P : Program) (f : Nat) (s : Ctr) (e : Nat) : Prop :=
 ∀ (fn : Func) (pin : List Sh) (i : TypeInfo), P.funcs[f]? = some fn → shsOf P fn.params = some pin → P.info? e = some i → ∀ (us : List U) (w : World), us.map U.srt = lfsSrts (shsLfs pin) ++ List.replicate s.gh .g → s.pre us w →
  Calls P f (shsV us 0 pin).toArray w fun r w' => ∃ (A : Option Addr) (c n : Nat) (xs : List Value), r = .returned (.slice A n c) ∧ s.post us [.n n, .l xs] ∧ w'.ownsRow w.heap.size e i.size (.slice A n c) n xs ∧ Below w.heap.size w w'
def CallOk (P : Program) (Γ : Cfg) (σ : Sm) (f gh : Nat) : Prop :=
 match Γ.lents.lookup f with
 | none => Keeps P f ⟨gh, σ.pre f, σ.post f, σ.fact f, σ.pan f⟩
 | some L => match freshOf L with
  | some e => KeepsF P f ⟨gh, σ.pre f, σ.post f, σ.fact f, σ.pan f⟩ e
  | none => KeepsR P f ⟨gh, σ.pre f, σ.post f, σ.fact f, if Γ.pans.contains f = true then σ.pan f else fun _ _ => False⟩ L ((Γ.lrows.lookup f).getD [])
theorem at_app (pre us : List U) (k : Nat) : at_ (pre ++ us) (pre.length + k) = at_ us k := by
 unfold at_; rw [List.getD_eq_getElem?_getD, List.getD_eq_getElem?_getD, List.getElem?_append_right (by omega)]
 congr 2
 omega
theorem val1_app (pre us : List U) (l : Lf) (k : Nat) : l.val1 (pre ++ us) (pre.length + k) = l.val1 us k := by
 cases l <;> simp only [Lf.val1, Nat.add_assoc, at_app]
theorem lfsV_app (pre us : List U) : ∀ (ls : List Lf) (k : Nat), lfsV (pre ++ us) (pre.length + k) ls = lfsV us k ls
 | [], _ => rfl
 | l :: ls, k => by
  unfold lfsV; rw [val1_app, Nat.add_assoc, lfsV_app pre us ls]
theorem shval_app (pre us : List U) (s : Sh) (k : Nat) : s.val1 (pre ++ us) (pre.length + k) = s.val1 us k := by
 cases s <;> simp only [Sh.val1, val1_app, lfsV_app]
theorem shsV_app (pre us : List U) : ∀ (ss : List Sh) (k : Nat), shsV (pre ++ us) (pre.length + k) ss = shsV us k ss
 | [], _ => rfl
 | s :: ss, k => by
  unfold shsV; rw [shval_app, Nat.add_assoc, shsV_app pre us ss]
theorem at_pre (us post : List U) (k : Nat) (h : k < us.length) : at_ (us ++ post) k = at_ us k := by
 unfold at_; simp [List.getElem?_append, h]
theorem val1_pre (us post : List U) (l : Lf) (k : Nat) (h : k + l.ar ≤ us.length) : l.val1 (us ++ post) k = l.val1 us k := by
 cases l <;> simp only [Lf.val1] <;> simp only [Lf.ar] at h
 case slc => rw [at_pre _ _ _ (by omega), at_pre _ _ _ (by omega), at_pre _ _ _ (by omega)]
 all_goals rw [at_pre _ _ _ (by omega)]
theorem lfsV_pre (us post : List U) : ∀ (ls : List Lf) (k : Nat), k + lfsAr ls ≤ us.length → lfsV (us ++ post) k ls = lfsV us k ls
 | [], _, _ => rfl
 | l :: ls, k, h => by
  unfold lfsAr at h; unfold lfsV; rw [val1_pre _ _ _ _ (by omega), lfsV_pre us post ls _ (by omega)]
theorem shval_pre (us post : List U) (s : Sh) (k : Nat) (h : k + lfsAr s.lfs ≤ us.length) : s.val1 (us ++ post) k = s.val1 us k := by
 cases s with
 | one l =>
  simp only [Sh.lfs, lfsAr] at h; exact val1_pre _ _ _ _ (by omega)
 | agg ls => simp only [Sh.val1, lfsV_pre us post ls k h]
theorem dens_append (ρ : Nat → U) (a b : List X) : dens ρ (a ++ b) = dens ρ a ++ dens ρ b := by simp [dens]
section
variable {S : St} {β : Beta} {ρ : Nat → U}
theorem lf_den {c : C1} {f : Lf} {xs : List X} (h : c.lf = some (f, xs)) : f.val1 (dens ρ xs) 0 = c.den β ρ ∧ xs.length = f.ar := by
 unfold C1.lf at h; split at h <;> first | (injection h with h; injection h with h1 h2; subst h1; subst h2; exact ⟨rfl, rfl⟩) | cases h
theorem flat_den (hex : Exd S β ρ) : ∀ (l : List C1) (fs : List Lf) (xs : List X), flat S l = some (fs, xs) → lfsV (dens ρ xs) 0 fs = l.map (C1.den β ρ) ∧ xs.length = lfsAr fs
 | [], fs, xs, h => by
  injection h with h; injection h with h1 h2; subst h1; subst h2
  exact ⟨rfl, rfl⟩
 | c :: l, fs, xs, h => by
  unfold flat at h; split at h
  ·next f ys fs' zs hc hl =>
   injection h with h; injection h with h1 h2; subst h1; subst h2
   rw [Option.bind_eq_some_iff] at hc; obtain ⟨c', hc', hlf⟩ := hc; obtain ⟨h1, h2⟩ := lf_den (β := β) (ρ := ρ) hlf; obtain ⟨i1, i2⟩ := flat_den hex l fs' zs hl; refine ⟨?_, by simp [lfsAr, h2, i2]⟩; rw [dens_append, List.map_cons, ← expd_den hex hc', ← h1, ← i1]; rw [show lfsV (dens ρ ys ++ dens ρ zs) 0 (f :: fs') = f.val1 (dens ρ ys ++ dens ρ zs) 0 :: lfsV (dens ρ ys ++ dens ρ zs) (0 + f.ar) fs' from rfl]; have hlen : (dens ρ ys).length = f.ar := by simp [dens, h2]
   rw [val1_pre _ _ _ _ (by omega), Nat.zero_add]
   congr 1
   have := lfsV_app (dens ρ ys) (dens ρ zs) fs' 0; rw [hlen, Nat.add_zero] at this; exact this
  ·cases h
theorem sflat_den (hex : Exd S β ρ) {v : SV1} {s : Sh} {xs : List X} (h : v.flat S = some (s, xs)) : s.val1 (dens ρ xs) 0 = v.den β ρ ∧ xs.length = lfsAr s.lfs := by
 cases v with
 | one c =>
  unfold SV1.flat at h; simp only at h; split at h
  ·next f ys hc =>
   injection h with h; injection h with h1 h2; subst h1; subst h2
   rw [Option.bind_eq_some_iff] at hc; obtain ⟨c', hc', hlf⟩ := hc; obtain ⟨h1, h2⟩ := lf_den (β := β) (ρ := ρ) hlf; exact ⟨h1.trans (expd_den hex hc'), by simp [Sh.lfs, lfsAr, h2]⟩
  ·cases h
 | agg l =>
  unfold SV1.flat at h; simp only at h; split at h
  ·next fs ys hl =>
   injection h with h; injection h with h1 h2; subst h1; subst h2
   obtain ⟨i1, i2⟩ := flat_den hex l fs ys hl; exact ⟨by simp only [Sh.val1, SV1.den, i1], i2⟩
  ·cases h
theorem flats_den (hex : Exd S β ρ) : ∀ (l : List SV1) (ss : List Sh) (xs : List X), flats S l = some (ss, xs) → shsV (dens ρ xs) 0 ss = l.map (SV1.den β ρ) ∧ xs.length = lfsAr (shsLfs ss)
 | [], ss, xs, h => by
  injection h with h; injection h with h1 h2; subst h1; subst h2
  exact ⟨rfl, rfl⟩
 | v :: l, ss, xs, h => by
  unfold flats at h; split at h
  ·next f ys fs' zs hc hl =>
   injection h with h; injection h with h1 h2; subst h1; subst h2
   obtain ⟨h1, h2⟩ := sflat_den hex hc; obtain ⟨i1, i2⟩ := flats_den hex l fs' zs hl; have ar_app : ∀ a b : List Lf, lfsAr (a ++ b) = lfsAr a + lfsAr b := by
    intro a b
    induction a with
    | nil => simp [lfsAr]
    | cons x a ih => simp only [List.cons_append, lfsAr, ih, Nat.add_assoc]
   refine ⟨?_, by simp only [List.length_append, shsLfs, List.flatMap_cons, ar_app, h2]; rw [i2]; rfl⟩; rw [dens_append, List.map_cons, ← h1, ← i1]; rw [show shsV (dens ρ ys ++ dens ρ zs) 0 (f :: fs') = f.val1 (dens ρ ys ++ dens ρ zs) 0 :: shsV (dens ρ ys ++ dens ρ zs) (0 + lfsAr f.lfs) fs' from rfl]; have hlen : (dens ρ ys).length = lfsAr f.lfs := by simp [dens, h2]
   rw [shval_pre _ _ _ _ (by omega), Nat.zero_add]
   congr 1
   have := shsV_app (dens ρ ys) (dens ρ zs) fs' 0; rw [hlen, Nat.add_zero] at this; exact this
  ·cases h
theorem vars_at {n : Nat} : ∀ {k : Nat} {us : List U}, dens ρ (vars n k) = us → ∀ j, j < k → ρ (n + j) = at_ us j := by
 intro k us h j hj; subst h; have : ∀ (k n j : Nat), j < k → at_ (dens ρ (vars n k)) j = ρ (n + j) := by
  intro k
  induction k with
  | zero => intro _ _ h; omega
  | succ k ih =>
   intro n j hj; cases j with
   | zero => rfl
   | succ j =>
    show at_ (dens ρ (vars (n + 1) k)) j = _; rw [ih (n + 1) j (by omega)]
    congr 1
    omega
 exact (this k n j hj).symm
theorem fresh_den {n : Nat} {us : List U} {N k : Nat} (hv : ∀ j, j < N → ρ (n + j) = at_ us j) (l : Lf) (hk : k + l.ar ≤ N) : (l.fresh (n + k)).den β ρ = l.val1 us k := by
 cases l <;> simp only [Lf.fresh, C1.den, Lf.val1, X.den, Nat.add_assoc] <;> simp only [Lf.ar] at hk
 case slc => rw [hv _ (by omega), hv _ (by omega), hv _ (by omega)]
 all_goals rw [hv _ (by omega)]
theorem freshs_den {n : Nat} {us : List U} {N : Nat} (hv : ∀ j, j < N → ρ (n + j) = at_ us j) : ∀ (ls : List Lf) (k : Nat), k + lfsAr ls ≤ N → (freshs (n + k) ls).map (C1.den β ρ) = lfsV us k ls
 | [], _, _ => rfl
 | l :: ls, k, h => by
  unfold lfsAr at h; unfold freshs lfsV; rw [List.map_cons, fresh_den hv l (by omega), Nat.add_assoc, freshs_den hv ls _ (by omega)]
theorem sfresh_den {n : Nat} {us : List U} {N k : Nat} (hv : ∀ j, j < N → ρ (n + j) = at_ us j) (s : Sh) (hk : k + lfsAr s.lfs ≤ N) : (s.fresh (n + k)).den β ρ = s.val1 us k := by
 cases s with
 | one l =>
  simp only [Sh.lfs, lfsAr] at hk; exact fresh_den hv l (by omega)
 | agg ls => simp only [Sh.fresh, SV1.den, Sh.val1, freshs_den hv ls k hk]
theorem lfsAr_app (a b : List Lf) : lfsAr (a ++ b) = lfsAr a + lfsAr b := by
 induction a with
 | nil => simp [lfsAr]
 | cons x a ih => simp only [List.cons_append, lfsAr, ih, Nat.add_assoc]
theorem shsfresh_den {n : Nat} {us : List U} {N : Nat} (hv : ∀ j, j < N → ρ (n + j) = at_ us j) : ∀ (ss : List Sh) (k : Nat), k + lfsAr (shsLfs ss) ≤ N → (shsFresh (n + k) ss).map (SV1.den β ρ) = shsV us k ss
 | [], _, _ => rfl
 | s :: ss, k, h => by
  simp only [shsLfs, List.flatMap_cons, lfsAr_app] at h; unfold shsFresh shsV; rw [List.map_cons, sfresh_den hv s (by omega), Nat.add_assoc, shsfresh_den hv ss _ (by unfold shsLfs; omega)]
end
theorem lf_typed {c : C1} {f : Lf} {xs : List X} (ρ : Nat → U) (h : c.lf = some (f, xs)) : (dens ρ xs).map U.srt = f.srts := by
 unfold C1.lf at h; split at h <;> first | (injection h with h; injection h with h1 h2; subst h1; subst h2; rfl) | cases h
theorem flat_typed {S : St} (ρ : Nat → U) : ∀ (l : List C1) (fs : List Lf) (xs : List X), flat S l = some (fs, xs) → (dens ρ xs).map U.srt = lfsSrts fs
 | [], fs, xs, h => by
  injection h with h; injection h with h1 h2; subst h1; subst h2
  rfl
 | c :: l, fs, xs, h => by
  unfold flat at h; split at h
  ·next f ys fs' zs hc hl =>
   injection h with h; injection h with h1 h2; subst h1; subst h2
   rw [Option.bind_eq_some_iff] at hc; obtain ⟨c', hc', hlf⟩ := hc; rw [dens_append, List.map_append, lf_typed ρ hlf, flat_typed ρ l fs' zs hl]; rfl
  ·cases h
theorem sflat_typed {S : St} (ρ : Nat → U) {v : SV1} {s : Sh} {xs : List X} (h : v.flat S = some (s, xs)) : (dens ρ xs).map U.srt = lfsSrts s.lfs := by
 cases v with
 | one c =>
  unfold SV1.flat at h; simp only at h; split at h
  ·next f ys hc =>
   injection h with h; injection h with h1 h2; subst h1; subst h2
   rw [Option.bind_eq_some_iff] at hc; obtain ⟨c', hc', hlf⟩ := hc; rw [lf_typed ρ hlf]; simp [Sh.lfs, lfsSrts]
  ·cases h
 | agg l =>
  unfold SV1.flat at h; simp only at h; split at h
  ·next fs ys hl =>
   injection h with h; injection h with h1 h2; subst h1; subst h2
   exact flat_typed ρ l fs ys hl
  ·cases h
theorem flats_typed {S : St} (ρ : Nat → U) : ∀ (l : List SV1) (ss : List Sh) (xs : List X), flats S l = some (ss, xs) → (dens ρ xs).map U.srt = lfsSrts (shsLfs ss)
 | [], ss, xs, h => by
  injection h with h; injection h with h1 h2; subst h1; subst h2
  rfl
 | v :: l, ss, xs, h => by
  unfold flats at h; split at h
  ·next f ys fs' zs hc hl =>
   injection h with h; injection h with h1 h2; subst h1; subst h2
   rw [dens_append, List.map_append, sflat_typed ρ hc, flats_typed ρ l fs' zs hl]; unfold shsLfs lfsSrts; simp
  ·cases h
theorem upd_self (ρ : Nat → U) (n : Nat) (u : U) : upd ρ n u n = u := by
 unfold upd; rw [show Nat.beq n n = true from Nat.beq_refl _]; rfl
theorem alls_den {σ : Sm} : ∀ (l : List Srt) (S : St) (ρ : Nat → U) (k : St → VC) (us : List U), us.map U.srt = l → (alls l S k).den σ ρ → ∃ ρ', Alike S.nv ρ ρ' ∧ dens ρ' (vars S.nv l.length) = us ∧ (k { S with nv := S.nv + l.length }).den σ ρ'
 | [], S, ρ, k, us, hu, h => by
  have : us = [] := by simpa using hu
  subst this; exact ⟨ρ, Alike.refl _ _, rfl, h⟩
 | so :: l, S, ρ, k, us, hu, h => by
  cases us with
  | nil => cases hu
  | cons u us =>
   rw [List.map_cons] at hu; injection hu with h1 h2
   subst h1; unfold alls at h; have h := VC.all_inst h u rfl; obtain ⟨ρ', g1, g2, g3⟩ := alls_den l { S with nv := S.nv + 1 } (upd ρ S.nv u) k us h2 h
   refine ⟨ρ', (Alike.upd S.nv ρ u).trans g1 (Nat.le_succ _), ?_, ?_⟩
   ·show ρ' S.nv :: dens ρ' (vars (S.nv + 1) l.length) = _; have g2 : dens ρ' (vars (S.nv + 1) l.length) = us := g2; rw [g2]; have := g1 S.nv (Nat.lt_succ_self _); rw [this, upd_self]
   ·simp only [List.length_cons] at g3 ⊢
    rw [show S.nv + (l.length + 1) = S.nv + 1 + l.length by omega]; exact g3
section
variable {σ : Sm} {S : St} {β : Beta} {ρ : Nat → U} {w0 : World} {a : Act} {w : World}
theorem expose_den : ∀ (ms : List Nat) (S : St) (ρ : Nat → U) (k : St → VC), Den σ S β ρ w0 a w → (expose ms S k).den σ ρ → ∃ (S' : St) (ρ' : Nat → U), (k S').den σ ρ' ∧ Den σ S' β ρ' w0 a w ∧ Alike S.nv ρ ρ' ∧ S.nv ≤ S'.nv ∧ S'.fr = S.fr ∧ S'.blk = S.blk ∧ S'.row = S.row ∧ S'.facts = S.facts ∧ S'.nt = S.nt
 | [], S, ρ, k, d, h => ⟨S, ρ, h, d, Alike.refl _ _, Nat.le_refl _, rfl, rfl, rfl, rfl, rfl⟩
 | m :: ms, S, ρ, k, d, h => by
  unfold expose at h; split at h
  ·exact expose_den ms S ρ k d h
  ·split at h
   ·next hok =>
    have h := h (β.row m).1 (β.row m).2; have a1 : Alike S.nv ρ (upd ρ S.nv (.p (β.row m).1)) := Alike.upd _ _ _; have a2 : Alike (S.nv + 1) (upd ρ S.nv (.p (β.row m).1)) (upd (upd ρ S.nv (.p (β.row m).1)) (S.nv + 1) (.n (β.row m).2)) := Alike.upd _ _ _; have a3 := a1.trans a2 (Nat.le_succ _); have d' := d.alike a3 hok; have d'' : Den σ { S with nv := S.nv + 2, exp := (m, .var S.nv, .var (S.nv + 1)) :: S.exp } β (upd (upd ρ S.nv (.p (β.row m).1)) (S.nv + 1) (.n (β.row m).2)) w0 a w := by
     refine ⟨d'.df, d'.nt, d'.fr, d'.bk, d'.rw, d'.nd, d'.rn, ?_, d'.fx, d'.kn, d'.bl⟩; intro e he
     rcases List.mem_cons.1 he with rfl | he
     ·show β.row m = ((upd (upd ρ S.nv (.p (β.row m).1)) (S.nv + 1) (.n (β.row m).2) S.nv).P, (upd (upd ρ S.nv (.p (β.row m).1)) (S.nv + 1) (.n (β.row m).2) (S.nv + 1)).N); rw [upd_self, a2 S.nv (Nat.lt_succ_self _), upd_self]; rfl
     ·exact d'.ex e he
    obtain ⟨S', ρ', g1, g2, g3, g4, g5⟩ := expose_den ms _ _ k d'' h; exact ⟨S', ρ', g1, g2, a3.trans g3 (by show S.nv ≤ S.nv + 2; omega), Nat.le_trans (by show S.nv ≤ S.nv + 2; omega) g4, g5⟩
   ·exact h.elim
  ·exact h.elim
theorem rowFX_den (d : Den σ S β ρ w0 a w) {m : Nat} {F : FX} (h : rowFX S m = some F) : F.den σ ρ w := by
 unfold rowFX at h; split at h
 ·next r e hr he =>
  injection h with h
  subst h; have h1 := (d.rw r (rowOf_mem hr)).1; have h2 := d.ex _ (lookup_mem he); rw [rowOf_m hr] at h1; simp only at h2; rw [h2] at h1; exact h1
 ·cases h
theorem unrowC_den {m : Nat} {x c : X} (h : β.row m = ((x.den ρ).P, (c.den ρ).N)) (v : C1) : (v.unrow m x c).den β ρ = v.den β ρ := by
 unfold C1.unrow; split
 ·next k n =>
  split
  ·next e => subst e; simp only [C1.den, h]
  ·rfl
 ·next k o =>
  split
  ·next e => subst e; simp only [C1.den, h, mkPadd_den]
  ·rfl
 ·rfl
theorem mapC_den {f : C1 → C1} (h : ∀ c, (f c).den β ρ = c.den β ρ) (l : List C1) : (l.map f).map (C1.den β ρ) = l.map (C1.den β ρ) := by
 rw [List.map_map]; exact List.map_congr_left fun c _ => h c
theorem mapS1_den {f : C1 → C1} (h : ∀ c, (f c).den β ρ = c.den β ρ) (v : SV1) : (v.map f).den β ρ = v.den β ρ := by
 cases v with
 | one c => exact h c
 | agg l => simp only [SV1.map, SV1.den, mapC_den h]
theorem mapS_den {f : C1 → C1} (h : ∀ c, (f c).den β ρ = c.den β ρ) (v : SV) : (v.map f).den β ρ = v.den β ρ := by
 cases v with
 | s x => exact mapS1_den h x
 | tup l =>
  simp only [SV.map, SV.den, List.map_map]
  congr 2
  exact List.map_congr_left fun c _ => mapS1_den h c
theorem lookup_map {α γ : Type} (g : α → γ) : ∀ (l : List (Nat × α)) (t : Nat), (l.map fun p => (p.1, g p.2)).lookup t = (l.lookup t).map g
 | [], _ => rfl
 | p :: l, t => by
  rw [List.map_cons, List.lookup_cons, List.lookup_cons]; split
  ·rfl
  ·exact lookup_map g l t
theorem retire_den {m : Nat} {S' : St} (d : Den σ S β ρ w0 a w) (hml : σ.lnames.lookup m = none) (h : retire m S = some S') : Den σ S' β ρ w0 a w ∧ S'.nv = S.nv ∧ S'.nt = S.nt := by
 unfold retire at h; split at h
 ·next F e hF he =>
  injection h with h
  subst h; refine ⟨?_, rfl, rfl⟩; have hx := d.ex _ (lookup_mem he); have hu := fun v => unrowC_den (x := e.1) (c := e.2) hx v
  have hsub : (foot β { S with fr := S.fr.map (fun p => (p.1, p.2.map (C1.unrow m e.1 e.2))), blk := S.blk.map (fun q => (q.1, q.2.1, q.2.2.map (C1.unrow m e.1 e.2))), row := S.row.filter (fun r => r.m != m), exp := S.exp.filter (fun x => x.1 != m), facts := S.facts ++ [F] }).Sublist (foot β S) := by
   unfold foot; simp only [List.map_map]; exact List.Sublist.append (by
    have : (S.blk.map ((fun q : Nat × Nat × List C1 => β.blk q.1) ∘ fun q => (q.1, q.2.1, q.2.2.map (C1.unrow m e.1 e.2)))) = S.blk.map fun q => β.blk q.1 := List.map_congr_left fun q _ => rfl
    rw [this]; exact List.Sublist.refl _) (List.filter_sublist.filterMap _)
  refine ⟨d.df, d.nt, ?_, ?_, ?_, d.nd.sublist hsub, d.rn.sublist (List.filter_sublist.map _), ?_, ?_, d.kn, d.bl⟩
  ·intro t v hv; have hv : (S.fr.map fun p => (p.1, (fun v : SV => v.map (C1.unrow m e.1 e.2)) p.2)).lookup t = some v := hv; rw [lookup_map] at hv; rw [Option.map_eq_some_iff] at hv; obtain ⟨v0, hv0, rfl⟩ := hv; rw [mapS_den hu]; exact d.fr t v0 hv0
  ·intro q hq; obtain ⟨q0, hq0, rfl⟩ := List.mem_map.1 hq; simp only; rw [mapC_den hu]; exact d.bk q0 hq0
  ·intro r hr; exact d.rw r (List.mem_filter.1 hr).1
  ·intro x hx; exact d.ex x (List.mem_filter.1 hx).1
  ·intro G hG u hp hs
   rcases List.mem_append.1 hG with hG | hG
   ·exact d.fx G hG u hp fun b hb hl hn => hs b hb hl fun hm => hn (hsub.subset hm)
   ·have := List.mem_singleton.1 hG; subst this; have hrow := rowFX_den d hF; unfold rowFX at hF; split at hF
    ·next r e' hr he' =>
     injection hF with hF
     subst hF; refine ownsRow_same hrow fun g hg => ?_
     obtain ⟨p, hp, rfl⟩ := ownBlock_slice hg; rw [he] at he'; injection he' with he'
     subst he'; have hA : (β.row m).1 = some p := by rw [hx]; exact hp
     have hin : p.block ∈ foot β S := List.mem_append_right _ (List.mem_filterMap.2 ⟨r, rowOf_mem hr, by rw [rowOf_m hr, hA]; rfl⟩); have hl := d.foot_lt _ hin; refine hs _ (d.row_base (rowOf_mem hr) (by rw [rowOf_m hr]; exact hml) (by rw [rowOf_m hr]; exact hA)) hl.1 fun hm => ?_
     unfold foot at hm
     rcases List.mem_append.1 hm with hm | hm
     ·obtain ⟨q, hq, e'⟩ := List.mem_map.1 hm; obtain ⟨q0, hq0, rfl⟩ := List.mem_map.1 hq; exact d.row_ne hq0 (rowOf_mem hr) (by rw [rowOf_m hr]; exact hA) e'.symm
     ·obtain ⟨r', hr', e'⟩ := List.mem_filterMap.1 hm; obtain ⟨hr1, hr2⟩ := List.mem_filter.1 hr'; rw [Option.map_eq_some_iff] at e'; obtain ⟨p', hp', e'⟩ := e'; exact d.rows_ne hr1 (rowOf_mem hr) (by rw [rowOf_m hr]; simpa using hr2) hp' (by rw [rowOf_m hr]; exact hA) e'
    ·cases hF
 ·cases h
theorem retires_den : ∀ {ms : List Nat} {S S' : St}, (∀ m ∈ ms, σ.lnames.lookup m = none) → Den σ S β ρ w0 a w → retires ms S = some S' → Den σ S' β ρ w0 a w ∧ S'.nv = S.nv ∧ S'.nt = S.nt
 | [], S, S', _, d, h => by injection h with h; subst h; exact ⟨d, rfl, rfl⟩
 | m :: ms, S, S', hml, d, h => by
  unfold retires at h; rw [Option.bind_eq_some_iff] at h; obtain ⟨S1, h1, h2⟩ := h; obtain ⟨d1, e1, e2⟩ := retire_den d (hml m (List.mem_cons_self ..)) h1; obtain ⟨d2, e3, e4⟩ := retires_den (fun k hk => hml k (List.mem_cons_of_mem _ hk)) d1 h2; exact ⟨d2, e3.trans e1, e4.trans e2⟩
theorem Den.below (d : Den σ S β ρ w0 a w) {w' : World} (hb : Below w.heap.size w w') (hbase : σ.base ≤ w.heap.size) : Den σ S β ρ w0 a w' := by
 have hlt := d.foot_lt; refine ⟨d.df, d.nt, d.fr, ?_, ?_, d.nd, d.rn, d.ex, ?_, d.kn, d.bl.trans (hb.mono hbase).kept⟩
 ·intro q hq; have := d.bk q hq; rw [hb.block _ (lt_of_some this.1)]; exact this
 ·intro r hr; refine owns_same (d.rw r hr) fun g hg => ?_
  obtain ⟨p, hp, rfl⟩ := ownBlock_slice hg; exact hb.block _ (hlt _ (List.mem_append_right _ (List.mem_filterMap.2 ⟨r, hr, by rw [hp]; rfl⟩))).1
 ·exact fx_step d.fx hb.size (fun b _ hl _ => hb.block b hl) (fun _ _ h => h)
end
section
variable {P : Program} {Γ : Cfg} {σ : Sm} {S : St} {k : St → VC} {β : Beta} {ρ : Nat → U} {a : Act} {w w0 : World} {K : Act → World → Prop} {Q : Exit → Act → World → Prop}
theorem mapM_eval (hfr : ∀ t v, S.fr.lookup t = some v → a.tmps[t]? = some (v.den β ρ)) : ∀ (l : List Operand) (vs : List SV1), l.mapM (fun x => (S.opd x).bind fun v => match v with | .s v => some v | _ => none) = some vs → l.map a.eval = vs.map (SV1.den β ρ)
 | [], vs, h => by simp at h; subst h; rfl
 | x :: l, vs, h => by
  rw [List.mapM_cons] at h; simp only [Option.bind_eq_bind, Option.bind_eq_some_iff, Option.pure_def, Option.some.injEq] at h; obtain ⟨v, ⟨u, hu, hv⟩, vs', hl, rfl⟩ := h; cases u with
  | tup _ => cases hv
  | s u =>
   injection hv with hv
   subst hv; rw [List.map_cons, List.map_cons, opd_den hfr hu, mapM_eval hfr l vs' hl]; rfl
theorem rowFXs_den (d : Den σ S β ρ w0 a w) : ∀ (ms : List Nat) (fx : List FX), ms.mapM (rowFX S) = some fx → ∀ F ∈ fx, F.den σ ρ w
 | [], fx, h => by simp at h; subst h; simp
 | m :: ms, fx, h => by
  rw [List.mapM_cons] at h; simp only [Option.bind_eq_bind, Option.bind_eq_some_iff, Option.pure_def, Option.some.injEq] at h; obtain ⟨F, hF, fx', hl, rfl⟩ := h; intro G hG
  rcases List.mem_cons.1 hG with rfl | hG
  ·exact rowFX_den d hF
  ·exact rowFXs_den d ms fx' hl G hG
theorem srts_ar : ∀ ls : List Lf, (lfsSrts ls).length = lfsAr ls
 | [] => rfl
 | l :: ls => by
  unfold lfsSrts lfsAr; rw [List.flatMap_cons, List.length_append]; have := srts_ar ls; unfold lfsSrts at this; rw [this]
  congr 1
  cases l <;> rfl
theorem Den.addFact {F : FX} (d : Den σ S β ρ w0 a w) (h : ∀ u, σ.pre0 u → Same σ.base (foot β S) w u → F.den σ ρ u) : Den σ { S with facts := S.facts ++ [F] } β ρ w0 a w :=
 ⟨d.df, d.nt, d.fr, d.bk, d.rw, d.nd, d.rn, d.ex, fun G hG => by
  rcases List.mem_append.1 hG with hG | hG
  ·exact d.fx G hG
  ·have := List.mem_singleton.1 hG; subst this; exact h, d.kn, d.bl⟩
theorem dens_len' (ρ : Nat → U) (l : List X) : (dens ρ l).length = l.length := List.length_map ..
theorem upto_mono {n m : Nat} : ∀ {x : X}, x.upto n = true → n ≤ m → x.upto m = true := by
 intro x
 induction x with
 | var k => intro h hm; simp only [X.upto, Nat.blt_eq] at h ⊢; omega
 | un o x ih => intro h hm; exact ih h hm
 | bin o x y ih1 ih2 => intro h hm; simp only [X.upto, Bool.and_eq_true] at h ⊢; exact ⟨ih1 h.1 hm, ih2 h.2 hm⟩
 | tri o x y z ih1 ih2 ih3 => intro h hm; simp only [X.upto, Bool.and_eq_true] at h ⊢; exact ⟨⟨ih1 h.1.1 hm, ih2 h.1.2 hm⟩, ih3 h.2 hm⟩
 | _ => intro _ _; rfl
theorem vars_upto : ∀ (k n : Nat), (vars n k).all (·.upto (n + k)) = true
 | 0, _ => rfl
 | k + 1, n => by
  show (X.upto (n + (k + 1)) (.var n) && (vars (n + 1) k).all (·.upto (n + (k + 1)))) = true; rw [Bool.and_eq_true]; refine ⟨by simp only [X.upto, Nat.blt_eq]; omega, ?_⟩; have := vars_upto k (n + 1); rw [show n + 1 + k = n + (k + 1) by omega] at this; exact this
theorem shsV_pre (us post : List U) : ∀ (ss : List Sh) (k : Nat), k + lfsAr (shsLfs ss) ≤ us.length → shsV (us ++ post) k ss = shsV us k ss
 | [], _, _ => rfl
 | s :: ss, k, h => by
  simp only [shsLfs, List.flatMap_cons, lfsAr_app] at h; unfold shsV; rw [shval_pre _ _ _ _ (by omega), shsV_pre us post ss _ (by unfold shsLfs; omega)]
theorem exs_typed {σ : Sm} : ∀ (l : List Srt) (S : St) (ρ : Nat → U) (k : St → VC), (exs l S k).den σ ρ → ∃ ρ', Alike S.nv ρ ρ' ∧ (dens ρ' (vars S.nv l.length)).map U.srt = l ∧ (k { S with nv := S.nv + l.length }).den σ ρ'
 | [], S, ρ, k, h => ⟨ρ, Alike.refl _ _, rfl, h⟩
 | so :: l, S, ρ, k, h => by
  unfold exs at h; obtain ⟨x, hx, h⟩ := VC.ex_inst h; obtain ⟨ρ', h1, h2, h3⟩ := exs_typed l { S with nv := S.nv + 1 } (upd ρ S.nv x) k h
  refine ⟨ρ', (Alike.upd S.nv ρ x).trans h1 (Nat.le_succ _), ?_, ?_⟩
  ·show U.srt (ρ' S.nv) :: (dens ρ' (vars (S.nv + 1) l.length)).map U.srt = _; have h2 : (dens ρ' (vars (S.nv + 1) l.length)).map U.srt = l := h2; rw [h2, h1 S.nv (Nat.lt_succ_self _), upd_self, hx]
  ·simp only [List.length_cons] at h3 ⊢
   rw [show S.nv + (l.length + 1) = S.nv + 1 + l.length by omega]; exact h3
theorem given_alike {n : Nat} {ρ ρ' : Nat → U} (h : Alike n ρ ρ') {fs : List FX} (hf : fs.all (·.upto n) = true) {u : World} (hF : ∀ F ∈ fs, F.den σ ρ u) : ∀ F ∈ fs, F.den σ ρ' u := fun F hFm =>
 (FX.den_alike h σ u F (List.all_eq_true.1 hf F hFm)).2 (hF F hFm)
theorem callS_den {f dn : Nat} {o : Oper} {args : List SV1} {av : Array Value} (hcon : ∀ gh, Γ.con.lookup f = some gh → Keeps P f ⟨gh, σ.pre f, σ.post f, σ.fact f, σ.pan f⟩) (hlm : ∀ m, Γ.lnm.contains m = false → σ.lnames.lookup m = none) (hb : σ.base ≤ w.heap.size) (hpre : σ.pre0 w) (d : Den σ S β ρ w0 a w)
  (hrun : ∀ fn, P.funcs[f]? = some fn → fn.body.isNone = false → (fn.name == "runtime.NumGoroutine") = false → (execOp a.eval o).run P w = .ok (.enter f av) w) (hav : ∀ ρ' : Nat → U, (∀ t v, S.fr.lookup t = some v → a.tmps[t]? = some (v.den β ρ')) → av.toList = args.map (SV1.den β ρ'))
  (h : (callS P Γ f dn o.dst args S k).den σ ρ) {tc : List Nat} (hK : ∀ a' w', AOut σ S k β ρ w0 tc a' w' → K a' w') : o.wp P a w K Q := by
 unfold callS at h; split at h
 ·exact h.elim
 ·next fn hfn =>
  split at h
  ·next pin pout hpin hpout =>
   split at h
   ·exact h.elim
   ·next gh hgh =>
    split at h
    ·exact h.elim
    ·next hc =>
     simp only [Bool.or_eq_true, not_or, Bool.not_eq_true] at hc; obtain ⟨hc2, hc3⟩ := hc; dsimp only at h; split at h
     ·exact h.elim
     next hng =>
     generalize hms : dedup (args.flatMap SV1.rowNames ++ (Γ.shows.lookup dn).getD []) = ms at h hng; obtain ⟨S1, ρ1, hx, d1, a1, n1, e1, e2, e3, e4, e5⟩ := expose_den _ S ρ _ d h; clear h; split at hx
     ·next shs us S2 fx hfl hS2 hfx =>
      generalize hfsd : (if Γ.retire.contains dn = true then S2.facts else S2.facts ++ fx) = fs at hx; split at hx
      ·next hok =>
       obtain ⟨rfl, hok2, hus, hfs⟩ := hok; have d2n : Den σ S2 β ρ1 w0 a w ∧ S2.nv = S1.nv ∧ S2.nt = S1.nt := by
        split at hS2
        ·next hrt =>
         refine retires_den (fun m hm => hlm m ?_) d1 hS2; rw [hrt, Bool.true_and, Bool.or_eq_true, not_or] at hng; have := hng.2; rw [Bool.not_eq_true, List.any_eq_false] at this; simpa using this m hm
        ·injection hS2 with hS2; subst hS2; exact ⟨d1, rfl, rfl⟩
       obtain ⟨d2, hnv, hnt⟩ := d2n; obtain ⟨ρg, ag, tg, hx⟩ := exs_typed _ S2 ρ1 _ hx; rw [List.length_replicate] at tg hx; obtain ⟨hp, h⟩ := hx; have hfx' := rowFXs_den d1 _ _ hfx; have facts2 : ∀ F ∈ S2.facts, F.den σ ρ1 w := fun F hF => d2.fx F hF w hpre fun _ _ _ _ => rfl
       have factsw : ∀ F ∈ fs, F.den σ ρ1 w := by
        intro F hF; rw [← hfsd] at hF; split at hF
        ·exact facts2 F hF
        ·rcases List.mem_append.1 hF with hF | hF
         ·exact facts2 F hF
         ·exact hfx' F hF
       have husg : dens ρg us = dens ρ1 us := dens_alike ag us hus; have hpre_f : σ.pre f (dens ρg (us ++ vars S2.nv gh)) w := given_out (hp w) (given_alike ag hfs factsw); obtain ⟨f1, f2⟩ := flats_den (β := β) (ρ := ρ1) d1.ex args _ us hfl; have hvs := hav ρ1 (by rw [← e1]; exact d1.fr); unfold Oper.wp; rw [hrun fn hfn hc2 (by simpa using hc3)]; show Calls P f av w _; have hty : (dens ρg (us ++ vars S2.nv gh)).map U.srt = lfsSrts (shsLfs shs) ++ List.replicate gh .g := by
        rw [dens_append, List.map_append, husg, flats_typed ρ1 args _ us hfl, tg]
       have hcall := hcon gh hgh fn _ pout hfn hpin hpout (dens ρg (us ++ vars S2.nv gh)) w hty hpre_f; have hava : (shsV (dens ρg (us ++ vars S2.nv gh)) 0 shs).toArray = av := by
        apply Array.toList_inj.1; rw [hvs, ← f1, dens_append, husg]; have := shsV_pre (dens ρ1 us) (dens ρg (vars S2.nv gh)) shs 0 (by rw [dens_len', f2]; omega); exact this
       rw [hava] at hcall; refine hcall.mono ?_; rintro e w1 ⟨os, ho, rfl, hpost, hfact, hbel⟩; have d3 := d2.below hbel hb; obtain ⟨ρ2, a2, hvars, h⟩ := alls_den _ { S2 with nv := S2.nv + gh } ρg _ os ho h
       have a12 : Alike S2.nv ρ1 ρ2 := ag.trans a2 (Nat.le_add_right _ _); have d4 := (d3.alike a12 hok2).nv (S2.nv + gh + (lfsSrts (shsLfs pout)).length); rw [srts_ar] at hvars; have husd : dens ρ2 (us ++ vars S2.nv gh) = dens ρg (us ++ vars S2.nv gh) := by
        refine dens_alike a2 _ ?_; rw [List.all_append, Bool.and_eq_true]; refine ⟨List.all_eq_true.2 fun x hx => upto_mono (List.all_eq_true.1 hus x hx) (Nat.le_add_right _ _), vars_upto _ _⟩
       have hval : (shsFresh (S2.nv + gh) pout).map (SV1.den β ρ2) = shsV os 0 pout := shsfresh_den (vars_at hvars) pout 0 (by omega); have hpost' : σ.post f (dens ρ2 (us ++ vars S2.nv gh)) (dens ρ2 (vars (S2.nv + gh) (lfsAr (shsLfs pout)))) := by rw [husd, hvars]; exact hpost
       have hal : Alike S.nv ρ ρ2 := a1.trans a12 (by omega); have fin : ∀ S4 : St, S.nv ≤ S4.nv → (VC.post f (us ++ vars S2.nv gh) (vars (S2.nv + gh) (lfsAr (shsLfs pout))) (match shsFresh (S2.nv + gh) pout with | [v] => k (S4.put o.dst (.s v)) | vs => k (S4.put o.dst (.tup vs)))).den σ ρ2 → Den σ S4 β ρ2 w0 a w1 → K (a.put o.dst (resV os pout)) w1 := by
        intro S4 hnv4 h d5; have h := h hpost'; have one : ∀ v, shsFresh (S2.nv + gh) pout = [v] → K (a.put o.dst (resV os pout)) w1 := by
         intro v hv; rw [hv] at h; have hlen : ∃ s, pout = [s] := by
          cases pout with
          | nil => cases hv
          | cons s ss =>
           cases ss with
           | nil => exact ⟨s, rfl⟩
           | cons s' ss => cases hv
         obtain ⟨s, hs⟩ := hlen; have : resV os pout = (SV.s v).den β ρ2 := by
          rw [hv] at hval; rw [hs] at hval ⊢
          have := List.head_eq_of_cons_eq hval; exact this.symm
         rw [this]; exact hK _ _ ⟨_, β, ρ2, h, d5.put o.dst (.s v), hal, Near.refl _ _ _, by rw [put_nv]; exact hnv4⟩
        have many : (∀ v, shsFresh (S2.nv + gh) pout ≠ [v]) → K (a.put o.dst (resV os pout)) w1 := by
         intro hne; have h' : (k (S4.put o.dst (.tup (shsFresh (S2.nv + gh) pout)))).den σ ρ2 := by
          split at h
          ·next v hv => exact absurd hv (hne v)
          ·exact h
         have : resV os pout = (SV.tup (shsFresh (S2.nv + gh) pout)).den β ρ2 := by
          show _ = Value.tuple ((shsFresh (S2.nv + gh) pout).map (SV1.den β ρ2)).toArray; rw [hval]; unfold resV; split
          ·next s => exact absurd rfl (hne _)
          ·rfl
         rw [this]; exact hK _ _ ⟨_, β, ρ2, h', d5.put o.dst _, hal, Near.refl _ _ _, by rw [put_nv]; exact hnv4⟩
        by_cases hx : ∃ v, shsFresh (S2.nv + gh) pout = [v]
        ·obtain ⟨v, hv⟩ := hx; exact one v hv
        ·exact many fun v hv => hx ⟨v, hv⟩
       refine fin _ ?_ h ?_
       ·split
        ·show S.nv ≤ S2.nv + gh + _; omega
        ·show S.nv ≤ S2.nv + gh + _; omega
       split
       ·next hret =>
        refine d4.addFact fun u hu hs => ?_
        show σ.fact f (dens ρ2 (us ++ vars S2.nv gh)) (dens ρ2 (vars (S2.nv + gh) (lfsAr (shsLfs pout)))) u; rw [husd, hvars]; refine hfact u (fun b h1 h2 => hs b (by omega) h2 fun hm => ?_) ?_
        ·have := (d2.foot_lt b hm).1; omega
        ·have hsame : Same σ.base (foot β S2) w u := fun b h1 h2 h3 => (hs b h1 (by have := hbel.size; omega) h3).trans (hbel.block b h2)
         refine given_out (hp u) (given_alike ag hfs fun F hF => ?_); have f2 : ∀ F ∈ S2.facts, F.den σ ρ1 u := fun F hF => d2.fx F hF u hu hsame
         rw [← hfsd] at hF; split at hF
         ·exact f2 F hF
         ·next hr =>
          rcases List.mem_append.1 hF with hF | hF
          ·exact f2 F hF
          ·have hemp : ms = [] := by
            simp only [Bool.or_eq_true] at hret
            rcases hret with hret | hret
            ·exact absurd hret hr
            ·simpa using hret
           rw [hemp] at hfx; simp at hfx; subst hfx; cases hF
       ·exact d4
      ·exact hx.elim
     ·exact hx.elim
  ·exact h.elim
end
section
variable {P : Program} {Γ : Cfg} {σ : Sm} {S : St} {k : St → VC} {β : Beta} {ρ : Nat → U} {a : Act} {w w0 : World}
theorem dropRs_den (d : Den σ S β ρ w0 a w) (ks : List Nat) : Den σ (dropRs ks S) β ρ w0 a w :=
 d.less rfl (fun t v h => (forget_spec h).1) (List.Sublist.refl _) List.filter_sublist (fun _ h => h) (fun e h => (List.mem_filter.1 h).1) (fun _ h => h)
def ClaimAt (P : Program) (σ : Sm) (β : Beta) (ρ : Nat → U) (w : World) (q : Nat × Nat × Nat × Nat) (x : X) (A : Option Addr) : Prop :=
 (∃ i n c, P.info? q.2.2.2 = some i ∧ w.cell? ⟨β.blk q.2.1, q.2.2.1, none⟩ = some (.slice A n c) ∧ w.ownsRow 0 q.2.2.2 i.size (.slice A n c) n (x.den ρ).L) ∧ ∀ p, A = some p → σ.rowAt q.1 p.block
def ClaimsAt (P : Program) (σ : Sm) (β : Beta) (ρ : Nat → U) (w : World) : List (Nat × Nat × Nat × Nat) → List X → List (Option Addr) → Prop
 | [], _, [] => True
 | q :: l, x :: xs, A :: As => ClaimAt P σ β ρ w q x A ∧ ClaimsAt P σ β ρ w l xs As
 | _, _, _ => False
theorem ClaimsAt.near {β' : Beta} (hb : β'.blk = β.blk) : ∀ {l : List (Nat × Nat × Nat × Nat)} {xs : List X} {As : List (Option Addr)}, ClaimsAt P σ β ρ w l xs As → ClaimsAt P σ β' ρ w l xs As
 | [], _, [], _ => trivial
 | [], _, _ :: _, h => h.elim
 | _ :: _, [], _, h => h.elim
 | _ :: _, _ :: _, [], h => h.elim
 | q :: l, x :: xs, A :: As, h => ⟨by unfold ClaimAt; rw [hb]; exact h.1, ClaimsAt.near hb h.2⟩
theorem blocksOf_cons (A : Option Addr) (As : List (Option Addr)) : blocksOf (A :: As) = (A.map Addr.block).toList ++ blocksOf As := by
 unfold blocksOf; rw [List.filterMap_cons]; cases A <;> rfl
theorem setv_same {α : Type} {l : List α} {i : Nat} {v : α} (h : l[i]? = some v) : l.set i v = l := by
 apply List.ext_getElem?; intro j; rw [List.getElem?_set]; split
 ·next e =>
  subst e; have := (List.getElem?_eq_some_iff.1 h).1; rw [if_pos this, h]
 ·rfl
theorem claims_den : ∀ (l : List (Nat × Nat × Nat × Nat)) (xs : List X) (As : List (Option Addr)) (S S' : St) (β : Beta), Den σ S β ρ w0 a w → claims P l xs S = some S' → ClaimsAt P σ β ρ w l xs As → (blocksOf As).Nodup → (∀ g ∈ blocksOf As, g ∉ foot β S) →
  (∀ F ∈ S.facts, ∀ u, σ.pre0 u → (∀ b, σ.base ≤ b → b < w.heap.size → b ∉ foot β S → b ∉ blocksOf As → u.heap[b]? = w.heap[b]?) → F.den σ ρ u) →
  ∃ β', Near (fun _ => False) (· ∈ l.map (·.1)) β β' ∧ Den σ S' β' ρ w0 a w ∧ S'.nv = S.nv ∧ S'.facts = S.facts ∧ S'.nt = S.nt
 | [], xs, As, S, S', β, d, h, hA, _, _, _ => by
  unfold claims at h; injection h with h
  subst h; exact ⟨β, Near.refl _ _ _, d, rfl, rfl, rfl⟩
 | q :: l, [], As, S, S', β, d, h, hA, _, _, _ => by unfold claims at h; cases h
 | q :: l, x :: xs, [], S, S', β, d, h, hA, _, _, _ => hA.elim
 | q :: l, x :: xs, A :: As, S, S', β, d, h, hA, hnd, hdis, hfx => by
  unfold claims at h; split at h
  ·next t cs i S1 hb hi hS1 =>
   split at h
   ·next a' n c hc =>
    split at h
    ·cases h
    ·next hnc =>
     obtain ⟨⟨⟨i', n', c', hi', hcell, hown⟩, hat⟩, hrest⟩ := hA; obtain ⟨u1, ⟨u2, uk⟩, u3, u4, u5, u6, u7, u8⟩ := unrow_spec hS1; rw [hi] at hi'; injection hi' with hi'
     subst hi'; have hmem : (q.2.1, t, cs) ∈ S.blk := lookup_mem hb; have hbk := d.bk _ hmem; have hcv : w.cell? ⟨β.blk q.2.1, q.2.2.1, none⟩ = some (.slice (a'.den ρ).P (n.den ρ).N (c.den ρ).N) := by
      rw [cell_of_row w _ _ _ _ _ hbk.1, cells_get, hc]; rfl
     rw [hcv] at hcell; injection hcell with hcell
     injection hcell with e1 e2 e3
     subst e1; subst e2; subst e3
     let β1 : Beta := { β with row := fun k => if k = q.1 then ((a'.den ρ).P, (c.den ρ).N) else β.row k }
     have hN : Near (fun _ => False) (· = q.1) β β1 := ⟨fun _ _ => rfl, fun k hk => if_neg hk, rfl⟩
     have hm : β1.row q.1 = ((a'.den ρ).P, (c.den ρ).N) := if_pos rfl; have hk : ∀ k, k ≠ q.1 → β1.row k = β.row k := fun k hk => if_neg hk
     have hne : ∀ r ∈ S.row, r.m ≠ q.1 := fun r hr e => hnc (by rw [List.contains_iff_mem]; exact List.mem_map.2 ⟨r, hr, e⟩)
     let S2 : St := { S1.setBlk q.2.1 (cs.set q.2.2.1 (.row q.1 n)) with row := ⟨q.1, q.2.2.2, i.size, i.bytes, n, x⟩ :: S1.row, exp := (q.1, a', c) :: S1.exp }
     have hrows : S.row.filterMap (fun r => (β1.row r.m).1.map Addr.block) = S.row.filterMap fun r => (β.row r.m).1.map Addr.block := filterMap_same fun r hr => by rw [hk _ (hne r hr)]
     have hblks : S2.blk.map (fun p => β1.blk p.1) = S.blk.map fun p => β.blk p.1 := by
      show (S1.blk.map _).map _ = _; rw [u5, List.map_map]; refine List.map_congr_left fun p _ => ?_
      simp only [Function.comp_apply]; split
      ·next e => rw [e]
      ·rfl
     have hfoot : foot β1 S2 = S.blk.map (fun p => β.blk p.1) ++ (((a'.den ρ).P.map Addr.block).toList ++ S.row.filterMap fun r => (β.row r.m).1.map Addr.block) := by
      unfold foot; rw [hblks]; show _ ++ List.filterMap _ (_ :: S1.row) = _; rw [u3, List.filterMap_cons, hrows, hm]; cases (a'.den ρ).P <;> rfl
     have hsub : ∀ b, b ∈ foot β S → b ∈ foot β1 S2 := fun b h => by
      rw [hfoot]; unfold foot at h
      rcases List.mem_append.1 h with h | h
      ·exact List.mem_append_left _ h
      ·exact List.mem_append_right _ (List.mem_append_right _ h)
     have hinv : ∀ b, b ∈ foot β1 S2 → b ∈ foot β S ∨ b ∈ blocksOf ((a'.den ρ).P :: As) := fun b h => by
      rw [hfoot] at h
      rcases List.mem_append.1 h with h | h
      ·exact .inl (List.mem_append_left _ h)
      ·rcases List.mem_append.1 h with h | h
       ·exact .inr (by rw [blocksOf_cons]; exact List.mem_append_left _ h)
       ·exact .inl (List.mem_append_right _ h)
     rw [blocksOf_cons] at hnd; obtain ⟨nd1, nd2, nd3⟩ := List.nodup_append.1 hnd; have d2 : Den σ S2 β1 ρ w0 a w := by
      refine ⟨d.df, d.nt.trans u1.symm, ?_, ?_, ?_, ?_, ?_, ?_, ?_, ?_, d.bl⟩
      ·intro t v hv; have hv : S1.fr.lookup t = some v := hv; rw [u6] at hv; obtain ⟨hv1, hv2⟩ := forget_spec hv; rw [SV.den_near hN ρ v (fun _ _ e => e) (fun j hj e => by subst e; rw [hv2] at hj; cases hj)]; exact d.fr t v hv1
      ·intro p hp; have hp : p ∈ S1.blk.map fun p => if p.1 = q.2.1 then (q.2.1, p.2.1, cs.set q.2.2.1 (.row q.1 n)) else p := hp
       rw [u5] at hp; obtain ⟨p0, hp0, rfl⟩ := List.mem_map.1 hp; have hold : p0.2.2.map (C1.den β1 ρ) = p0.2.2.map (C1.den β ρ) := cells_near hN ρ p0.2.2 (fun _ _ e => e) (fun j hj e => by
        subst e; obtain ⟨c0, hc0, hcn⟩ := List.any_eq_true.1 hj; have hz := u8 p0 hp0 c0 hc0; rw [hz] at hcn; cases hcn)
       split
       ·next e =>
        have e2 : p0 = (q.2.1, t, cs) := nodup_map_inj (f := fun q : Nat × Nat × List C1 => β.blk q.1) (List.nodup_append.1 d.nd).1 hp0 hmem (by rw [e]); subst e2; refine ⟨?_, hbk.2⟩; show w.heap[β.blk q.2.1]? = some (.cells ((cs.set q.2.2.1 (.row q.1 n)).map (C1.den β1 ρ)).toArray t (0, 0)); have hv : (C1.row q.1 n).den β1 ρ = .slice (a'.den ρ).P (n.den ρ).N (c.den ρ).N := by
         show Value.slice (β1.row q.1).1 (n.den ρ).N (β1.row q.1).2 = _; rw [hm]
        rw [List.map_set, hv, hold]; rw [setv_same (by rw [List.getElem?_map, hc]; rfl)]; exact hbk.1
       ·show w.heap[β.blk p0.1]? = some (.cells (p0.2.2.map (C1.den β1 ρ)).toArray p0.2.1 (0, 0)) ∧ _; rw [hold]; exact d.bk p0 hp0
      ·intro r hr
       rcases List.mem_cons.1 hr with rfl | hr
       ·show σ.owns w q.1 q.2.2.2 i.size (.slice (β1.row q.1).1 (n.den ρ).N (β1.row q.1).2) (n.den ρ).N (x.den ρ).L; rw [hm]; refine ⟨hown, fun g hg => ?_⟩; obtain ⟨p, hp, rfl⟩ := ownBlock_slice hg; exact hat p hp
       ·have hr : r ∈ S1.row := hr; rw [u3] at hr; rw [hk _ (hne r hr)]; exact d.rw r hr
      ·rw [hfoot]; have hn0 := List.nodup_append.1 d.nd; refine List.nodup_append.2 ⟨hn0.1, List.nodup_append.2 ⟨nd1, hn0.2.1, fun x hx y hy e => ?_⟩, fun x hx y hy e => ?_⟩
       ·subst e; exact hdis x (by rw [blocksOf_cons]; exact List.mem_append_left _ hx) (List.mem_append_right _ hy)
       ·subst e
        rcases List.mem_append.1 hy with hy | hy
        ·exact hdis x (by rw [blocksOf_cons]; exact List.mem_append_left _ hy) (List.mem_append_left _ hx)
        ·exact hn0.2.2 x hx x hy rfl
      ·show (q.1 :: S1.row.map RowS.m).Nodup; rw [u3]; exact List.nodup_cons.2 ⟨fun hm' => hnc (by rw [List.contains_iff_mem]; exact hm'), d.rn⟩
      ·intro e he
       rcases List.mem_cons.1 he with rfl | he
       ·exact hm
       ·have he : e ∈ S1.exp := he; rw [u7] at he; obtain ⟨he1, he2⟩ := List.mem_filter.1 he; rw [hk _ (by simpa using he2)]; exact d.ex e he1
      ·intro F hF u hp hs; have hF : F ∈ S1.facts := hF; rw [u4] at hF; refine hfx F hF u hp fun b h1 h2 h3 h4 => hs b h1 h2 fun hm' => ?_
       rcases hinv b hm' with h | h
       ·exact h3 h
       ·exact h4 h
      ·intro z hz; have hz : z ∈ S1.known := hz; rw [uk] at hz; exact d.kn z hz
     obtain ⟨β2, n2, d3, e1, e2, e3⟩ := claims_den l xs As S2 S' β1 d2 h (ClaimsAt.near (β := β) (β' := β1) rfl hrest) nd2 (fun g hg hf => by
      rcases hinv g hf with h | h
      ·exact hdis g (by rw [blocksOf_cons]; exact List.mem_append_right _ hg) h
      ·rw [blocksOf_cons] at h; rw [hfoot] at hf
       rcases List.mem_append.1 hf with hf | hf
       ·exact hdis g (by rw [blocksOf_cons]; exact List.mem_append_right _ hg) (List.mem_append_left _ hf)
       ·rcases List.mem_append.1 hf with hf | hf
        ·exact nd3 g hf g hg rfl
        ·exact hdis g (by rw [blocksOf_cons]; exact List.mem_append_right _ hg) (List.mem_append_right _ hf)) (fun F hF u hp hs => by
      have hF : F ∈ S1.facts := hF; rw [u4] at hF; refine hfx F hF u hp fun b h1 h2 h3 h4 => hs b h1 h2 (fun hm' => ?_) fun hm' => h4 (by rw [blocksOf_cons]; exact List.mem_append_right _ hm')
      rcases hinv b hm' with h | h
      ·exact h3 h
      ·exact h4 h)
     refine ⟨β2, ⟨fun m _ => n2.blk m (fun h => h), fun m hm' => ?_, n2.junk⟩, d3, e1.trans u2, e2.trans u4, e3.trans u1⟩; rw [n2.row m fun h => hm' (List.mem_cons_of_mem _ h)]; exact hk m fun e => hm' (by rw [e]; exact List.mem_cons_self ..)
   ·cases h
  ·cases h
end
end Go.Proofs.Ytgjbcahpgkchfaa.Vc
