/- Of the texts Ty7, Ty8, Ty9, Ty10, Ty11, Ty12, Ty13. -/
import Derived.Test.YtgjbcahpgkchfaaG21
import Derived.Deep.QuietTactic
set_option linter.unusedSimpArgs false
set_option linter.unusedVariables false
namespace Go.Proofs.Ytgjbcahpgkchfaa
open Go Go.RowKit Vc
set_option maxRecDepth 100000
def CloneC : Ctr where
 gh := 1
 pre us w := InP (fun b => b.length ≤ 2048) us w
 post us os := ∀ b : List Ins, us.getLast? = some (.g b) → os = [.n b.length, .l (b.flatMap iC)]
 fact _ _ _ := True
theorem insInfo : (Try.prog.info? 31).map (fun i => (i.zero, i.size, i.bytes)) = some (some (.agg #[.int .i64 0, .int .i64 0, .int .i64 0]), 3, 24) := by kernel_rfl
theorem run_buildSlice0 {P : Program} {t e : TypeId} {i : TypeInfo} (hu : P.underlying t = some (.slice e)) (hi : P.info? e = some i) (w : World) : (Instr.buildSlice t 0 #[]).run P w = .ok (.slice (some ⟨w.heap.size, 0, none⟩) 0 0) (w.alloc (.cells #[] e)) := by
 simp [Instr.buildSlice, run_underlying hu, sizeOf, typeInfo, hi, newRow, newObj, Instr.fill, Sem.run, Result.andThen]
 congr 2
 apply Array.eq_empty_of_size_eq_zero; simp
theorem sliceNil {P : Program} {t e : Nat} (hu : P.underlying t = some (.slice e)) (A : Option Addr) (n c : Nat) (w : World) : (binOp .eql t (.slice A n c) (.slice none 0 0)).run P w = .ok (.bool A.isNone) w := by
 have h := eqC_den (P := P) (w := w) (ρ := fun k => if k = 0 then .p A else if k = 1 then .n n else .n c) (β := ⟨fun _ => 0, fun _ => (none, 0), fun _ => undef⟩) (t := t) (x := .slc (.var 0) (.var 1) (.var 2)) (y := .slc .pnil (.nat 0) (.nat 0)) (q := .un .isnil (.var 0)) (by unfold eqC; rw [hu]); unfold binOp; simp only [Sem.run_bind]; have h : (Op.equal t (.slice A n c) (.slice none 0 0)).run P w = .ok A.isNone w := h; rw [h]; rfl
theorem flat_one (b : List Ins) : ∀ u, u ∈ b.flatMap iC → u.oneCell' = true := by
 intro u hu; obtain ⟨x, _, hx⟩ := List.mem_flatMap.1 hu; simp only [iC, List.mem_cons, List.not_mem_nil, or_false] at hx
 rcases hx with rfl | rfl | rfl <;> rfl
theorem clone_keeps : KeepsF Try.prog 12 CloneC 31 := by
  intro fn' pin' i h1 h2 h3 us w _ hp
  rw [Try.func12] at h1; injection h1 with h1; subst h1
  obtain rfl : [Sh.one .slc] = pin' := Option.some.inj h2
  obtain ⟨A, c, b, rfl, hI, hl⟩ := hp
  show Calls Try.prog 12 #[.slice A b.length c] w _
  have hq := fun w => sliceNil (P := Try.prog) (t := 32) Try.underlying32 A b.length c w
  obtain ⟨i0, hi0, hz0, hz1, hz2⟩ := info_parts insInfo
  rw [h3] at hi0
  injection hi0 with hi0
  subst hi0
  have hbs := fun w => run_buildSlice0 (P := Try.prog) (t := 32) Try.underlying32 h3 w
  cases A with
  | none =>
    have hb : b = [] := by
      cases b with
      | nil => rfl
      | cons x l =>
        obtain ⟨_, _, h, _⟩ := hI.2 (by simp)
        cases h
    subst hb
    clear hI hl
    simp only [Option.isNone_none, List.length_nil] at hq ⊢
    go_enter Try.func12, Try.ntmps12
    go_wp2_with fail
    go_ret
    exact ⟨none, 0, 0, [], rfl, fun b' hb => by obtain rfl := g_inj' hb; rfl, ⟨by simp, .inl ⟨rfl, rfl⟩⟩, Below.refl _ _⟩
  | some p =>
    rw [Option.isNone_some] at hq
    have hown0 : (w.alloc (.cells #[] 31)).ownsRow w.heap.size 31 3 (.slice (some ⟨w.heap.size, 0, none⟩) 0 0) 0 [] := World.ownsRow_made (base := w.heap.size) (e := 31) (size := 3) w #[] 0 (by omega) (by simp [maxLen]) (by simp)
    have hb0 : Below w.heap.size w (w.alloc (.cells #[] 31)) := (Below.refl _ w).alloc (Nat.le_refl _) _
    have HI := Lib.hid hI
    clear hI
    go_enter Try.func12, Try.ntmps12
    go_wp2_with (at_builtin; refine wpList_append_any _ rfl (.tmp 5) (.tmp 6) 32 rfl w.heap.size 31 i _ 3 24 Try.underlying32 h3 hz0 hz1 hz2 rfl (by omega) _ 0 [] (by rfl) hown0 w.heap.size _ b.length c (b.flatMap iC) (by rfl) (Rd.below HI.out hb0) (flat_one b) (by simp [maxLen]; omega) (by omega) hb0.size ?_
                 intro v1 w1 hown1 hg1 hat1)
    go_ret
    have hbel := hb0.grown hg1 hb0.size (fun k hk => by have : some w.heap.size = some k := hk; injection this with this; omega)
    obtain ⟨A, cc, rfl⟩ : ∃ A cc, v1 = .slice A b.length cc := by
      rcases hown1.2 with ⟨e, h⟩ | ⟨g, cap, cur, e, _⟩
      · exact ⟨none, 0, by rw [e, show b.length = 0 by omega]⟩
      · exact ⟨_, cap, by rw [e, Nat.zero_add]⟩
    refine ⟨A, cc, b.length, _, rfl, fun b' hb => by obtain rfl := g_inj' hb; rfl, ?_, hbel⟩
    rw [hz1]
    rw [Nat.zero_add] at hown1
    exact hown1
theorem flat_ext {xs ys : List Value} {n : Nat} (h1 : xs.length = n * 3) (h2 : ys.length = n * 3) (h : ∀ q, q < n → ∀ r, r < 3 → xs[q * 3 + r]? = ys[q * 3 + r]?) : xs = ys := by
 apply List.ext_getElem?; intro i
 rcases Nat.lt_or_ge i (n * 3) with hi | hi
 ·have := h (i / 3) (by omega) (i % 3) (Nat.mod_lt _ (by omega)); rw [show i / 3 * 3 + i % 3 = i by omega] at this; exact this
 ·rw [List.getElem?_eq_none (by omega), List.getElem?_eq_none (by omega)]
theorem flat_set (l : List Ins) {k : Nat} (hk : k < l.length) (y : Ins) : ∀ q, q < l.length → ∀ r, r < 3 → ((l.set k y).flatMap iC)[q * 3 + r]? = if q = k then (iC y)[r]? else (iC (l[q]?.getD y))[r]? := fun q hq r hr => by
 rw [flat3 (l.set k y) (by rw [List.length_set]; exact hq) r hr, List.getElem_set]
 by_cases e : k = q
 ·rw [if_pos e, if_pos e.symm]
 ·rw [if_neg e, if_neg (fun h => e h.symm), List.getElem?_eq_getElem hq]; rfl
theorem flat_seta (l : List Ins) {k : Nat} (hk : k < l.length) (v : Int) : (l.flatMap iC).set (k * 3 + 1) (.int .i64 v) = (l.set k { l[k] with a := v }).flatMap iC := by
 refine flat_ext (n := l.length) (by rw [List.length_set, flat_len]) (by rw [flat_len, List.length_set]) fun q hq r hr => ?_
 rw [flat_set l hk _ q hq r hr, List.getElem?_set, flat_len]
 by_cases e : q = k
 ·subst e; rw [if_pos rfl]
  by_cases e2 : r = 1
  ·subst e2; rw [if_pos rfl, if_pos (by omega)]; rfl
  ·rw [if_neg (by omega), flat3 l hk r hr]
   match r, hr with
   | 0, _ => rfl
   | 1, _ => exact absurd rfl e2
   | 2, _ => rfl
 ·rw [if_neg e, if_neg (by omega), flat3 l hq r hr, List.getElem?_eq_getElem hq]; rfl
theorem flat_seto (l : List Ins) {k : Nat} (hk : k < l.length) (v : Int) : (l.flatMap iC).set (k * 3) (.int .i64 v) = (l.set k { l[k] with op := v }).flatMap iC := by
 refine flat_ext (n := l.length) (by rw [List.length_set, flat_len]) (by rw [flat_len, List.length_set]) fun q hq r hr => ?_
 rw [flat_set l hk _ q hq r hr, List.getElem?_set, flat_len]
 by_cases e : q = k
 ·subst e; rw [if_pos rfl]
  by_cases e2 : r = 0
  ·subst e2; rw [if_pos (by omega), if_pos (by omega)]; rfl
  ·rw [if_neg (by omega), flat3 l hk r hr]
   match r, hr with
   | 0, _ => exact absurd rfl e2
   | 1, _ => rfl
   | 2, _ => rfl
 ·rw [if_neg e, if_neg (by omega), flat3 l hq r hr, List.getElem?_eq_getElem hq]; rfl
theorem flat_setb (l : List Ins) {k : Nat} (hk : k < l.length) (v : Int) : (l.flatMap iC).set (k * 3 + 2) (.int .i64 v) = (l.set k { l[k] with b := v }).flatMap iC := by
 refine flat_ext (n := l.length) (by rw [List.length_set, flat_len]) (by rw [flat_len, List.length_set]) fun q hq r hr => ?_
 rw [flat_set l hk _ q hq r hr, List.getElem?_set, flat_len]
 by_cases e : q = k
 ·subst e; rw [if_pos rfl]
  by_cases e2 : r = 2
  ·subst e2; rw [if_pos rfl, if_pos (by omega)]; rfl
  ·rw [if_neg (by omega), flat3 l hk r hr]
   match r, hr with
   | 0, _ => rfl
   | 1, _ => rfl
   | 2, _ => exact absurd rfl e2
 ·rw [if_neg e, if_neg (by omega), flat3 l hq r hr, List.getElem?_eq_getElem hq]; rfl
theorem flat_put (l : List Ins) {k : Nat} (hk : k < l.length) (x : Ins) : (((l.flatMap iC).set (k * 3) (.int .i64 x.op)).set (k * 3 + 1) (.int .i64 x.a)).set (k * 3 + 2) (.int .i64 x.b) = (l.set k x).flatMap iC := by
 rw [flat_seto l hk, flat_seta _ (by rw [List.length_set]; exact hk), flat_setb _ (by rw [List.length_set, List.length_set]; exact hk)]
 congr 1
 rw [List.set_set, List.set_set]
 congr 1
 simp
theorem flat_at {l : List Ins} {k : Nat} {x : Ins} (h : l[k]? = some x) : ∀ j v, [Value.int .i64 x.op, Value.int .i64 x.a, Value.int .i64 x.b][j]? = some v → (l.flatMap iC)[k * 3 + j]? = some v := fun j v hv => by
 have hk := lt_of_some h; have hj : j < 3 := lt_of_some hv; rw [flat3 l hk j hj]; rw [List.getElem?_eq_getElem hk] at h; injection h with h
 rw [h]; exact hv
def threadT (b : List Ins) (j : Nat) : List Ins := (b.take j).map (threadI b) ++ b.drop j
theorem threadT_len (b : List Ins) (j : Nat) : (threadT b j).length = b.length := by
 unfold threadT; rw [List.length_append, List.length_map, List.length_take, List.length_drop]; omega
theorem threadT_at {b : List Ins} {j : Nat} (hj : j < b.length) : (threadT b j)[j]? = some b[j] := by
 unfold threadT; rw [List.getElem?_append_right (by simp; omega), List.length_map, List.length_take, Nat.min_eq_left (by omega), Nat.sub_self, List.getElem?_drop, Nat.add_zero]; exact List.getElem?_eq_getElem hj
theorem threadT_set {b : List Ins} {j : Nat} (hj : j < b.length) : (threadT b j).set j (threadI b b[j]) = threadT b (j + 1) := by
 unfold threadT; rw [List.set_append_right _ _ (by simp; omega), List.length_map, List.length_take, Nat.min_eq_left (by omega), Nat.sub_self, List.drop_eq_getElem_cons hj, List.set_cons_zero, List.take_succ_eq_append_getElem hj, List.map_append, List.append_assoc]; rfl
theorem threadT_same {b : List Ins} {j : Nat} (hj : j < b.length) (h : threadI b b[j] = b[j]) : threadT b (j + 1) = threadT b j := by
 have hl : j < (threadT b j).length := by rw [threadT_len]; exact hj
 have e := threadT_at hj; rw [List.getElem?_eq_getElem hl] at e; injection e with e
 rw [← threadT_set hj, h, ← e]; exact List.set_getElem_self hl
theorem chase_both {b : List Ins} : ∀ (n t : Nat), (isJ b (chase b n t) → chase b (n + 1) t = nx b (chase b n t)) ∧ (¬ isJ b (chase b n t) → chase b (n + 1) t = chase b n t) := by
 intro n
 induction n with
 | zero =>
  intro t; exact ⟨fun h => by rw [chase_step (t := t) h]; rfl, fun h => by rw [chase_stay (t := t) h]; rfl⟩
 | succ n ih =>
  intro t
  by_cases h : isJ b t
  ·rw [chase_step h, chase_step h]; exact ih _
  ·rw [chase_stay h, chase_stay h]; exact ⟨fun h' => absurd h' h, fun _ => rfl⟩
theorem chase_done {b : List Ins} {m t : Nat} (h : ¬ isJ b (chase b m t)) : ∀ d, chase b (m + d) t = chase b m t
 | 0 => rfl
 | d + 1 => by rw [← Nat.add_assoc, (chase_both _ _).2 (by rw [chase_done h d]; exact h), chase_done h d]
theorem isJ_op {b : List Ins} {k : Nat} (hk : k < b.length) : isJ b k ↔ b[k].op = 14 := by
 unfold isJ; rw [List.getElem?_eq_getElem hk]; constructor
 ·rintro ⟨x, h, ho⟩; injection h with h
  rw [h]; exact ho
 ·exact fun h => ⟨_, rfl, h⟩
theorem nx_a {b : List Ins} {k : Nat} (hk : k < b.length) : nx b k = b[k].a.toNat := by
 unfold nx; rw [List.getElem?_eq_getElem hk]
theorem thread_to {b : List Ins} {x : Ins} (hj : jmpB x = true) (hlt : chase b b.length x.a.toNat < b.length) (h : ¬ isJ b (chase b b.length x.a.toNat)) : threadI b x = { x with a := (chase b b.length x.a.toNat : Nat) } := by
 unfold threadI; rw [if_pos hj, List.getElem?_eq_getElem hlt]; simp only; rw [if_neg]; exact fun ho => h ((isJ_op hlt).2 ho)
theorem thread_stay {b : List Ins} {x : Ins} (h : isJ b (chase b b.length x.a.toNat)) : threadI b x = x := by
 unfold threadI; split
 ·obtain ⟨y, hy, ho⟩ := h; rw [hy]; simp only [ho, if_true]
 ·rfl
theorem thread_no {b : List Ins} {x : Ins} (hj : ¬ jmpB x = true) : threadI b x = x := by
 unfold threadI; rw [if_neg hj]
def WayC (P : List Ins → Prop) (f : List Ins → List Ins) : Ctr where
 gh := 1
 pre us w := InP P us w
 post us os := ∀ b : List Ins, us.getLast? = some (.g b) → ∃ A c, os = [.p A, .n (f b).length, .n c]
 fact us os w := ∀ (b : List Ins) A n c, us.getLast? = some (.g b) → os = [.p A, .n n, .n c] → n = (f b).length → InsM w A (f b)
def cfg_thread : Cfg := { con := [(12, 1), (25, 0)], own := 1, loops := [(3, { slots := [12, 3, 10], rows := [9] }), (8, { slots := [6, 7], extra := [.un (.co .i) (.var 11)] })], lents := [(12, [(999999, 31)])] }
def vcd_thread : { v : VC // vcOf Try.prog cfg_thread 13 = v } := by refine ⟨?v, ?h⟩; rotate_left; conv => lhs; reduce
theorem vce_thread : vcOf Try.prog cfg_thread 13 = vcd_thread.1 := vcd_thread.2
theorem thread_keeps : Keeps Try.prog 13 (WayC (fun b => Within b ∧ b.length ≤ 2048) threadL) := by
 refine keeps_v Try.func13 cfg_thread vce_thread [.p, .n, .n, .g] (WayC (fun b => Within b ∧ b.length ≤ 2048) threadL) [(12, CloneC), (25, JumpsC)] ⟨clone_keeps, jumps_keeps, trivial⟩ (by kernel_rfl) (fun _ _ _ h hb => inP_on h hb) ?_; intro x0 x1 x2 α x3 w hp; have hp : InP (fun b => Within b ∧ b.length ≤ 2048) [.p x0, .n x1, .n x2, .g x3] w := hp; obtain ⟨A, c, b, he, hI, hW, hl⟩ := hp; simp only [List.cons.injEq, U.p.injEq, U.n.injEq, and_true] at he; obtain ⟨rfl, rfl, rfl, hg⟩ := he; cases hg; refine ⟨[(3, { inv := fun v => ∃ j : Nat, j ≤ b.length ∧ v = [.n b.length, .l ((threadT b j).flatMap iC), .i j], mea := fun v => match v with | [_, _, .i i] => b.length - i.toNat | _ => 0 }), (8, { inv := fun v => ∃ (m : Nat) (t0 : Int), m ≤ b.length ∧ 0 ≤ t0 ∧ t0.toNat < b.length ∧ v = [.i (chase b m t0.toNat : Nat), .i m, .i t0], mea := fun v => match v with | [_, .i i, _] => b.length - i.toNat | _ => 0 })], vc_use ?Q ?h ?g⟩
 case h => intro O C s I b; conv => lhs; reduce
 dsimp only [std]; simp only [ctrOf, invOf, List.lookup, Nat.reduceBEq, Option.getD_some, Int.reduceOfNat, Int.reduceNegSucc]; refine ⟨List Ins, b, fun w h => ?_, ?_⟩
 ·obtain ⟨A, c, b', h1, h2, h3, h4⟩ := h; exact ⟨A, c, b', h1, h2, h4⟩
 intro n xs hpo; have hpo := hpo b rfl; simp only [List.cons.injEq, U.n.injEq, U.l.injEq, and_true] at hpo; obtain ⟨rfl, rfl⟩ := hpo; refine ⟨⟨0, Nat.zero_le _, rfl⟩, fun _ _ => trivial, ?_⟩; rintro m xs i ⟨j, hj, he⟩; simp only [List.cons.injEq, U.n.injEq, U.l.injEq, U.i.injEq, and_true] at he; obtain ⟨rfl, rfl, rfl⟩ := he; refine ⟨fun hlt => ?_, fun hge x3 x4 => ⟨fun p hb => ?_, fun w hw p A n c hb ho hn => ?_⟩⟩
 ·have hlt : j < b.length := by omega
  have hz : b.length - ((j : Int) + 1).toNat < b.length - j := by omega
  have hlT : j < (threadT b j).length := by rw [threadT_len]; exact hlt
  have eT : (threadT b j)[j] = b[j] := by
   have e := threadT_at hlt; rw [List.getElem?_eq_getElem hlT] at e; injection e
  simp only [Int.toNat_natCast]; refine ⟨by omega, by omega, b[j].op, b[j].a, b[j].b, flat_at (threadT_at hlt), fun _ _ => trivial, fun q hq => ?_⟩; have hq : [U.b q] = [.b (jmpB b[j])] := hq; simp only [List.cons.injEq, U.b.injEq, and_true] at hq; subst hq; refine ⟨fun hjm => ?_, fun hjm => ?_⟩
  ·refine ⟨by omega, ⟨j + 1, hlt, ?_⟩, fun _ _ => trivial, hz, trivial⟩; rw [threadT_same hlt (thread_no hjm)]; rfl
  ·obtain ⟨h0, h1⟩ := hW _ (List.getElem_mem hlt) hjm; refine ⟨⟨0, b[j].a, Nat.zero_le _, h0, h1, ?_⟩, fun _ _ => trivial, ?_⟩
   ·show [U.i b[j].a, .i 0, .i b[j].a] = [.i ((b[j].a.toNat : Nat) : Int), .i 0, .i b[j].a]; rw [Int.toNat_of_nonneg h0]
   rintro t i ⟨m, t0, hm, g0, g1, he⟩; simp only [List.cons.injEq, U.i.injEq, and_true] at he; obtain ⟨rfl, rfl, rfl⟩ := he; have hcl := chase_lt hW m _ h1; have stay : isJ b (chase b b.length b[j].a.toNat) → (-9223372036854775808 ≤ (j : Int) + 1 ∧ (j : Int) + 1 ≤ 9223372036854775807) ∧ (∃ j' : Nat, j' ≤ b.length ∧ [U.n b.length, .l ((threadT b j).flatMap iC), .i ((j : Int) + 1)] = [.n b.length, .l ((threadT b j').flatMap iC), .i j']) := fun h => by
    refine ⟨by omega, j + 1, hlt, ?_⟩; rw [threadT_same hlt (thread_stay h)]; rfl
   have turn : ¬ isJ b (chase b b.length b[j].a.toNat) → ∃ j' : Nat, j' ≤ b.length ∧ [U.n b.length, .l (((threadT b j).flatMap iC).set (j * 3 + 1) (.int .i64 (chase b b.length b[j].a.toNat : Nat))), .i ((j : Int) + 1)] = [.n b.length, .l ((threadT b j').flatMap iC), .i j'] := fun h => by
    refine ⟨j + 1, hlt, ?_⟩; rw [flat_seta _ hlT, eT, ← thread_to hjm (chase_lt hW _ _ h1) h, threadT_set hlt]; rfl
   have h3 : j * 3 + 1 < b.length * 3 := by omega
   simp only [Int.toNat_natCast, flat_len, threadT_len]; refine ⟨fun hmn => ?_, fun hmn => ?_⟩
   ·refine ⟨fun w h => (inP_get h.1.1.1).nn hcl, by omega, by omega, b[chase b m b[j].a.toNat].op, fun w h => (inP_get h.1.1.1).ld0 hcl, fun h14 => ?_, fun h14 => ?_⟩
    ·have hJ := (isJ_op hcl).2 h14; obtain ⟨k0, k1⟩ := hW _ (List.getElem_mem hcl) (jmpB_iff.2 (.inl h14)); refine ⟨b[chase b m b[j].a.toNat].a, fun w h => (inP_get h.1.1.1).ld1 hcl, by omega, ⟨m + 1, b[j].a, by omega, h0, h1, ?_⟩, fun _ _ => trivial, by omega, trivial⟩; rw [(chase_both _ _).1 hJ, nx_a hcl, Int.toNat_of_nonneg k0]; rfl
    ·have hJ : ¬ isJ b (chase b m b[j].a.toNat) := fun h => h14 ((isJ_op hcl).1 h)
     have e := chase_done hJ (b.length - m); rw [show m + (b.length - m) = b.length by omega] at e; rw [e] at stay turn; refine ⟨b[chase b m b[j].a.toNat].op, fun w h => (inP_get h.1.1.1).ld0 hcl, fun _ => ⟨by omega, by omega, by omega, turn hJ, fun _ _ => trivial, hz, trivial⟩, fun h => absurd h h14⟩
   ·obtain rfl : m = b.length := by omega
    refine ⟨fun w h => (inP_get h.1.1.1).nn hcl, by omega, by omega, b[chase b b.length b[j].a.toNat].op, fun w h => (inP_get h.1.1.1).ld0 hcl, fun h14 => ?_, fun h14 => ?_⟩
    ·have hJ : ¬ isJ b (chase b b.length b[j].a.toNat) := fun h => h14 ((isJ_op hcl).1 h)
     exact ⟨by omega, by omega, by omega, turn hJ, fun _ _ => trivial, hz, trivial⟩
    ·obtain ⟨s1, s2⟩ := stay ((isJ_op hcl).2 h14); exact ⟨s1, s2, fun _ _ => trivial, hz, trivial⟩
 ·obtain rfl := g_inj' hb; refine ⟨x3, x4, ?_⟩; rw [thread_len]
 ·obtain rfl := g_inj' hb; simp only [List.cons.injEq, U.p.injEq, U.n.injEq, and_true] at ho; obtain ⟨rfl, rfl, rfl⟩ := ho; obtain rfl : j = b.length := by omega
  have := Rd.of_own hw.2; unfold threadT at this; rw [List.take_length, List.drop_length, List.append_nil] at this; unfold InsM; rw [thread_len]; exact this
structure DropI (b : List Ins) (todo : List Nat) (g : List Bool) : Prop where
 len : g.length = b.length
 way : ∀ t, t ∈ todo → Way b t
 seen : ∀ k, g[k]? = some false → Way b k
 start : 0 ∈ todo ∨ g[0]? = some false
 next : ∀ (k : Nat) (x : Ins), g[k]? = some false → b[k]? = some x → ∀ j, j ∈ nextS k x → j ∈ todo ∨ g[j]? = some false
 room : todo.length + 2 * g.countP id ≤ 2 * b.length + 1
theorem DropI.start_ (b : List Ins) : DropI b [0] (List.replicate b.length true) := by
 have hn : ∀ k, (List.replicate b.length true)[k]? ≠ some false := fun k h => by
  rw [List.getElem?_replicate] at h; split at h <;> cases h
 refine ⟨by simp, fun t ht => ?_, fun k h => absurd h (hn k), .inl (by simp), fun k x h => absurd h (hn k), ?_⟩
 ·rw [List.mem_singleton] at ht; subst ht; exact .start
 ·rw [List.countP_replicate]; simp; omega
section
variable {b : List Ins} {todo : List Nat} {g : List Bool} {k : Nat}
theorem DropI.pop (h : DropI b (todo ++ [k]) g) (hk : g[k]? = some false) : DropI b todo g := by
 have red : ∀ j, j ∈ todo ++ [k] → j ∈ todo ∨ g[j]? = some false := fun j hj => by
  rcases List.mem_append.1 hj with hj | hj
  ·exact .inl hj
  ·rw [List.mem_singleton] at hj; subst hj; exact .inr hk
 refine ⟨h.len, fun t ht => h.way t (List.mem_append_left _ ht), h.seen, ?_, fun i x hi hx j hj => ?_, ?_⟩
 ·rcases h.start with s | s
  ·exact red _ s
  ·exact .inr s
 ·rcases h.next i x hi hx j hj with s | s
  ·exact red _ s
  ·exact .inr s
 ·have := h.room; rw [List.length_append, List.length_singleton] at this; omega
theorem count_set {g : List Bool} {k : Nat} (hk : g[k]? = some true) : (g.set k false).countP id + 1 = g.countP id := by
 induction g generalizing k with
 | nil => simp at hk
 | cons a l ih =>
  cases k with
  | zero => simp at hk; subst hk; simp
  | succ k =>
   rw [List.getElem?_cons_succ] at hk; have := ih hk; rw [List.set_cons_succ, List.countP_cons, List.countP_cons]; omega
theorem next_two (k : Nat) (x : Ins) : (nextS k x).length ≤ 2 := by
 unfold nextS; rw [List.length_append]; split <;> split <;> simp
theorem DropI.visit (h : DropI b (todo ++ [k]) g) (hk : g[k]? = some true) {x : Ins} (hx : b[k]? = some x) : DropI b (todo ++ nextS k x) (g.set k false) := by
 have hlt := lt_of_some hk; have old : ∀ j, g[j]? = some false → (g.set k false)[j]? = some false := fun j hj => by
  rw [List.getElem?_set]
  by_cases e : k = j
  ·rw [if_pos e, if_pos hlt]
  ·rw [if_neg e]; exact hj
 have new : ∀ j, (g.set k false)[j]? = some false → j = k ∨ g[j]? = some false := fun j hj => by
  rw [List.getElem?_set] at hj; split at hj
  ·next e => exact .inl e.symm
  ·exact .inr hj
 have me : (g.set k false)[k]? = some false := List.getElem?_set_self hlt; have hw := h.way k (by simp); have red : ∀ j, j ∈ todo ++ [k] → j ∈ todo ++ nextS k x ∨ (g.set k false)[j]? = some false := fun j hj => by
  rcases List.mem_append.1 hj with hj | hj
  ·exact .inl (List.mem_append_left _ hj)
  ·rw [List.mem_singleton] at hj; subst hj; exact .inr me
 refine ⟨by rw [List.length_set]; exact h.len, fun t ht => ?_, fun j hj => ?_, ?_, fun i y hi hy j hj => ?_, ?_⟩
 ·rcases List.mem_append.1 ht with ht | ht
  ·exact h.way t (List.mem_append_left _ ht)
  ·exact .step hw hx ht
 ·rcases new j hj with rfl | hj
  ·exact hw
  ·exact h.seen j hj
 ·rcases h.start with s | s
  ·exact red _ s
  ·exact .inr (old _ s)
 ·rcases new i hi with rfl | hi
  ·rw [hx] at hy; injection hy with hy
   subst hy; exact .inl (List.mem_append_right _ hj)
  ·rcases h.next i y hi hy j hj with s | s
   ·exact red _ s
   ·exact .inr (old _ s)
 ·have h1 := h.room; have h2 := count_set hk; have h3 := next_two k x; rw [List.length_append, List.length_singleton] at h1; rw [List.length_append]; omega
theorem DropI.over (h : DropI b [] g) (hlt : ∀ k, Way b k → k < b.length) : g = goneL b := by
 have hall : ∀ k, Way b k → g[k]? = some false := fun k hw => by
  induction hw with
  | start => exact h.start.resolve_left (by simp)
  | step hw hx hj ih => exact (h.next _ _ ih hx _ hj).resolve_left (by simp)
 apply List.ext_getElem?; intro k
 rcases Nat.lt_or_ge k b.length with hk | hk
 ·by_cases hw : Way b k
  ·rw [hall k hw, goneL_no hk hw]
  ·rw [goneL_yes hk hw]; have hkg : k < g.length := by rw [h.len]; exact hk
   rw [List.getElem?_eq_getElem hkg]; cases e : g[k] with
   | true => rfl
   | false => exact absurd (h.seen k (by rw [List.getElem?_eq_getElem hkg, e])) hw
 ·rw [List.getElem?_eq_none (by rw [h.len]; exact hk), List.getElem?_eq_none (by rw [goneL_len]; exact hk)]
end
def natV9 (l : List Nat) : List Value := l.map fun k : Nat => Value.int .i64 (k : Int)
theorem natV9_app (l m : List Nat) : natV9 (l ++ m) = natV9 l ++ natV9 m := List.map_append
def isT9 : Value → Bool
 | .bool t => t
 | _ => false
theorem isT9_count (g : List Bool) : (g.map Value.bool).countP isT9 = g.countP id := by
 rw [List.countP_map]; rfl
theorem bo_at {g : List Bool} {k : Nat} {v : Bool} (h : g[k]? = some v) : ∀ j u, [Value.bool v][j]? = some u → (g.map Value.bool)[k + j]? = some u := fun j u hu => by
 have hj : j < 1 := lt_of_some hu; obtain rfl : j = 0 := by omega
 rw [Nat.add_zero, List.getElem?_map, h]; exact hu
def cfg_drop : Cfg := { con := [(25, 0), (26, 1)], own := 1, loops := [(3, { slots := [12, 3], rows := [9] }), (8, { slots := [5, 3], rows := [19, 9], kill := [19, 9] })], retire := [76] }
def vcd_drop : { v : VC // vcOf Try.prog cfg_drop 14 = v } := by refine ⟨?v, ?h⟩; rotate_left; conv => lhs; reduce
theorem vce_drop : vcOf Try.prog cfg_drop 14 = vcd_drop.1 := vcd_drop.2
def GoodP (b : List Ins) : Prop := ∃ ps nns loc, Good ps nns loc b ∧ b.length ≤ 2048
theorem drop_keeps : Keeps Try.prog 14 (WayC GoodP dropL) := by
 refine keeps_v Try.func14 cfg_drop vce_drop [.p, .n, .n, .g] (WayC GoodP dropL) [(25, JumpsC), (26, WithoutC)] ⟨jumps_keeps, without_keeps, trivial⟩ (by kernel_rfl) (fun _ _ _ h hb => inP_on h hb) ?_; intro x0 x1 x2 α x3 w hp; have hp : InP GoodP [.p x0, .n x1, .n x2, .g x3] w := hp; obtain ⟨A, c, b, he, hI, ps, nns, loc, hG, hl⟩ := hp; simp only [List.cons.injEq, U.p.injEq, U.n.injEq, and_true] at he; obtain ⟨rfl, rfl, rfl, hg⟩ := he; cases hg; have hW := hG.within; have hlt0 : ∀ k, Way b k → k < b.length := fun k hw => by
  obtain ⟨H, hT⟩ := hG.flow; exact hT.way_lt hw
 refine ⟨[(3, { inv := fun v => ∃ j : Nat, j ≤ b.length ∧ v = [.n b.length, .l ((List.replicate j true ++ List.replicate (b.length - j) false).map Value.bool), .i j], mea := fun v => match v with | [_, _, .i i] => b.length - i.toNat | _ => 0 }), (8, { inv := fun v => ∃ (todo : List Nat) (g : List Bool), DropI b todo g ∧ v = [.n todo.length, .l (natV9 todo), .n b.length, .l (g.map Value.bool)], mea := fun v => match v with | [.n m, _, _, .l g] => m + 2 * g.countP isT9 | _ => 0 })], vc_use ?Q ?h ?g⟩
 case h => intro O C s I b; conv => lhs; reduce
 dsimp only [std]; simp only [ctrOf, invOf, List.lookup, Nat.reduceBEq, Option.getD_some, Int.reduceOfNat, Int.reduceNegSucc]; refine ⟨by omega, by omega, by omega, ⟨0, Nat.zero_le _, by rw [List.replicate_zero, List.nil_append, List.map_replicate]; rfl⟩, fun _ _ => trivial, ?_⟩; rintro m xs i ⟨j, hj, he⟩; simp only [List.cons.injEq, U.n.injEq, U.l.injEq, U.i.injEq, and_true] at he; obtain ⟨rfl, rfl, rfl⟩ := he; refine ⟨fun hlt => ?_, fun hge => ?_⟩
 ·have hlt : j < b.length := by omega
  have hz : b.length - ((j : Int) + 1).toNat < b.length - j := by omega
  simp only [Int.toNat_natCast]; refine ⟨by omega, by omega, by simp; omega, by omega, ⟨j + 1, hlt, ?_⟩, fun _ _ => trivial, hz, trivial⟩; rw [bo_set, List.set_append_right _ _ (by simp), List.length_replicate, Nat.sub_self, show b.length - j = (b.length - (j + 1)) + 1 by omega, List.replicate_succ, List.set_cons_zero, List.replicate_succ', List.append_assoc]; rfl
 ·obtain rfl : j = b.length := by omega
  refine ⟨⟨[0], List.replicate b.length true, DropI.start_ b, by rw [Nat.sub_self, List.replicate_zero, List.append_nil]; rfl⟩, fun _ _ => trivial, ?_⟩; rintro m xs m2 ys ⟨todo, g, hD, he⟩; simp only [List.cons.injEq, U.n.injEq, U.l.injEq, and_true] at he; obtain ⟨rfl, rfl, rfl, rfl⟩ := he; refine ⟨fun hlt => ?_, fun hge => ?_⟩
  ·rcases List.eq_nil_or_concat todo with rfl | ⟨td, k, rfl⟩
   ·simp at hlt
   rw [List.concat_eq_append] at hD ⊢
   have hk := hlt0 k (hD.way k (by simp)); have hkg : k < g.length := by rw [hD.len]; exact hk
   have hroom := hD.room; have hn : ((((td ++ [k]).length : Nat) : Int) - 1).toNat = td.length := by rw [List.length_append, List.length_singleton]; omega
   have htk : (natV9 (td ++ [k])).take td.length = natV9 td := by
    rw [natV9_app]; have : (natV9 td).length = td.length := by simp [natV9]
    rw [← this, List.take_left]
   have hnl : (td ++ [k]).length = td.length + 1 := by simp
   have hcs : ∀ v, g[k] = v → g[k]? = some v := fun v e => by rw [List.getElem?_eq_getElem hkg, e]
   rw [hn]; refine ⟨by omega, by omega, by omega, (k : Int), ?_, by omega, by omega, by omega, g[k], ?_, fun hgk => ?_, fun hgk => ?_⟩
   ·intro j v hv; have hj : j < 1 := lt_of_some hv; obtain rfl : j = 0 := by omega
    rw [natV9_app, Nat.add_zero, List.getElem?_append_right (by simp [natV9])]; simp only [natV9, List.length_map, Nat.sub_self]; exact hv
   ·rw [Int.toNat_natCast]; exact bo_at (List.getElem?_eq_getElem hkg)
   ·have hgk : g[k] = false := by simpa using hgk
    refine ⟨⟨td, g, hD.pop (hcs _ hgk), by rw [htk]⟩, fun _ _ => trivial, by rw [hnl]; omega, trivial⟩
   ·have hv := fun {x : Ins} (hx : b[k]? = some x) => hD.visit (hcs _ hgk) hx
    have hv := hv (List.getElem?_eq_getElem hk); have hct := count_set (hcs _ hgk); have hvr := hv.room; rw [List.length_append] at hvr; simp only [Int.toNat_natCast, bo_set, isT9_count, List.length_map, htk]; have fin : ∀ (l : List Nat), nextS k b[k] = l → (∃ (todo : List Nat) (g' : List Bool), DropI b todo g' ∧ [U.n (td.length + l.length), .l (natV9 td ++ natV9 l), .n b.length, .l ((g.set k false).map Value.bool)] = [.n todo.length, .l (natV9 todo), .n b.length, .l (g'.map Value.bool)]) ∧ td.length + l.length + 2 * (g.set k false).countP id < (td ++ [k]).length + 2 * g.countP id ∧ td.length + l.length ≤ 2 * b.length + 1 := fun l e => by
     have h3 := next_two k b[k]; rw [e] at hv h3 hvr; refine ⟨⟨td ++ l, g.set k false, hv, by rw [List.length_append, natV9_app]⟩, by rw [hnl]; omega, by omega⟩
    refine ⟨by omega, fun w h => (inP_get h.1.1).nn hk, by omega, b[k].op, b[k].a, b[k].b, fun w h => (inP_get h.1.1).ld hk, fun _ _ => trivial, fun q hq => ?_⟩; have hq : [U.b q] = [.b (jmpB b[k])] := hq; simp only [List.cons.injEq, U.b.injEq, and_true] at hq; subst hq; have ld0 : ∀ w, InP GoodP [U.p x0, .n b.length, .n x2, .g b] w → LoadsAt w (x0.map (·.add (k * 3))) [.int .i64 b[k].op] := fun w h => (inP_get h).ld0 hk
    refine ⟨fun hjm => ?_, fun hjm => ?_⟩
    ·obtain ⟨h0, h1⟩ := hW _ (List.getElem_mem hk) hjm; have hja := jmpB_iff.1 hjm; have ea : (b[k].a.toNat : Int) = b[k].a := Int.toNat_of_nonneg h0; refine ⟨b[k].a, fun w h => (inP_get h.1.1.1).ld1 hk, by omega, by omega, b[k].op, fun w h => ld0 w h.1.1.1, fun h14 => ⟨b[k].op, fun w h => ld0 w h.1.1.1, fun h17 => ?_, fun h17 => by omega⟩, fun h14 => ?_⟩
     ·obtain ⟨f1, f2, f3⟩ := fin [b[k].a.toNat, k + 1] (by unfold nextS; rw [if_pos hja, if_pos ⟨h14, h17⟩]; rfl); simp only [natV9, List.map_cons, List.map_nil, ea] at f1; refine ⟨by omega, by omega, by omega, ?_, fun _ _ => trivial, f2, trivial⟩; rw [List.append_assoc]; exact f1
     ·obtain ⟨f1, f2, f3⟩ := fin [b[k].a.toNat] (by unfold nextS; rw [if_pos hja, if_neg (by omega)]; rfl); simp only [natV9, List.map_cons, List.map_nil, ea] at f1; exact ⟨f1, fun _ _ => trivial, f2, trivial⟩
    ·have hja : ¬ (b[k].op = 14 ∨ b[k].op = 15) := fun h => hjm (jmpB_iff.2 h)
     refine ⟨b[k].op, fun w h => ld0 w h.1.1.1, fun h14 => ⟨b[k].op, fun w h => ld0 w h.1.1.1, fun h17 => ?_, fun h17 => ?_⟩, fun h14 => by omega⟩
     ·obtain ⟨f1, f2, f3⟩ := fin [k + 1] (by unfold nextS; rw [if_neg hja, if_pos ⟨h14, h17⟩]; rfl); exact ⟨by omega, by omega, by omega, f1, fun _ _ => trivial, f2, trivial⟩
     ·obtain ⟨f1, f2, f3⟩ := fin [] (by unfold nextS; rw [if_neg hja, if_neg (by omega)]; rfl); simp only [natV9, List.map_nil, List.append_nil] at f1; exact ⟨f1, fun _ _ => trivial, f2, trivial⟩
  ·have h0 : todo = [] := List.eq_nil_of_length_eq_zero (by omega); subst h0; obtain rfl := hD.over hlt0; intro A4 c4; refine ⟨List Ins × List Bool, (b, goneL b), fun w h => ⟨x0, x2, A4, c4, (b, goneL b), ?_, inP_get h.1.1.1, ?_, (goneL_len b).symm, hW, hl⟩, ?_⟩
   ·rw [goneL_len]
   ·have := Rd.of_own h.2; unfold BoM; rw [goneL_len]; exact this
   intro A5 n5 c5 hpo; obtain ⟨A6, c6, e6⟩ := hpo (b, goneL b) rfl; simp only [List.cons.injEq, U.p.injEq, U.n.injEq, and_true] at e6; obtain ⟨rfl, rfl, rfl⟩ := e6; refine ⟨fun p hb => ?_, fun w hw p A n c hb ho hn => ?_⟩
   ·obtain rfl := g_inj' hb; exact ⟨A5, c5, rfl⟩
   ·obtain rfl := g_inj' hb; simp only [List.cons.injEq, U.p.injEq, U.n.injEq, and_true] at ho; obtain ⟨rfl, rfl, rfl⟩ := ho; exact hw.2 (b, goneL b) A5 _ c5 rfl rfl rfl
def TruthC : Ctr where
 gh := 0
 pre us _ := match us with | [.b _] => True | _ => False
 post us os := match us with | [.b t] => os = [.i (if t then 1 else 0), .b true] | _ => False
 fact _ _ _ := True
def Num (n : Int) : Prop := 0 ≤ n ∧ n ≤ 1099511627775
def SumA (op a b : Int) (os : List U) : Prop := ∃ n t, os = [.i n, .b t] ∧ sumS op a b = if t then some n else none
def SumC : Ctr where
 gh := 0
 pre us _ := match us with | [.i _, .i a, .i b] => Num a ∧ Num b | _ => False
 post us os := match us with | [.i op, .i a, .i b] => SumA op a b os | _ => False
 fact _ _ _ := True
theorem num_tdiv {a b : Int} (ha : Num a) (hb : Num b) : 0 ≤ a.tdiv b ∧ a.tdiv b ≤ 1099511627775 := by
 have h1 : 0 ≤ a.tdiv b := Int.tdiv_nonneg ha.1 hb.1; have h2 : a.tdiv b ≤ a := Int.tdiv_le_self b ha.1; have := ha.2; omega
theorem num_mul {a b : Int} (ha : Num a) (hb : Num b) (h : a ≠ 0 → ¬ Int.tdiv 1099511627775 a < b) : 0 ≤ a * b ∧ a * b ≤ 1099511627775 := by
 have hs : sumS 7 a b = some (a * b) := by
  unfold sumS; rw [if_neg (by omega), if_neg (by omega), if_pos rfl, if_neg]; exact fun hh => h hh.1 hh.2
 exact sumS_bd hs ha hb
def cfg_truth : Cfg := {  }
def vcd_truth : { v : VC // vcOf Try.prog cfg_truth 31 = v } := by refine ⟨?v, ?h⟩; rotate_left; conv => lhs; reduce
theorem vce_truth : vcOf Try.prog cfg_truth 31 = vcd_truth.1 := vcd_truth.2
def cfg_sum : Cfg := { con := [(31, 0)] }
def vcd_sum : { v : VC // vcOf Try.prog cfg_sum 28 = v } := by refine ⟨?v, ?h⟩; rotate_left; conv => lhs; reduce
theorem vce_sum : vcOf Try.prog cfg_sum 28 = vcd_sum.1 := vcd_sum.2
theorem truth_keeps : Keeps Try.prog 31 TruthC := by
 refine keeps_v Try.func31 cfg_truth vce_truth [.b] TruthC [] trivial (by kernel_rfl) (fun _ _ _ h _ => h) ?_
 intro t w hp; refine ⟨[], vc_use ?Q ?h ?g⟩
 case h => intro O C s I b; conv => lhs; reduce
 dsimp only [std]; exact ⟨fun h => ⟨by rw [h]; rfl, fun _ _ => trivial⟩, fun h => ⟨by rw [show t = false by simpa using h]; rfl, fun _ _ => trivial⟩⟩
theorem sum_keeps : Keeps Try.prog 28 SumC := by
 refine keeps_v Try.func28 cfg_sum vce_sum [.i, .i, .i] SumC [(31, TruthC)] ⟨truth_keeps, trivial⟩ (by kernel_rfl) (fun _ _ _ h _ => h) ?_; intro op a b w hp; have hp : Num a ∧ Num b := hp; obtain ⟨ha, hb⟩ := hp; refine ⟨[], vc_use ?Q ?h ?g⟩
 case h => intro O C s I b; conv => lhs; reduce
 dsimp only [std]; simp only [ctrOf, invOf, List.lookup, Nat.reduceBEq, Option.getD_some, Int.reduceOfNat, Int.reduceNegSucc]; have ha1 := ha.1; have ha2 := ha.2; have hb1 := hb.1; have hb2 := hb.2; have t1 := fun h => num_mul ha hb h
 have t2 : Num 1099511627775 := ⟨by omega, by omega⟩
 have t3 := num_tdiv t2 ha; have t4 := num_tdiv ha hb; have tr : ∀ (t : Bool) (n : Int) (u : Bool), TruthC.post [.b t] [.i n, .b u] → n = (if t then 1 else 0) ∧ u = true := fun t n u h => by
  have h : [U.i n, .b u] = [.i (if t then 1 else 0), .b true] := h; simp only [List.cons.injEq, U.i.injEq, U.b.injEq, and_true] at h; exact h
 refine ⟨fun h5 => ⟨by omega, ⟨_, _, rfl, ?_⟩, fun _ _ => trivial⟩, fun h5 => ⟨fun h6 => ⟨by omega, ⟨_, _, rfl, ?_⟩, fun _ _ => trivial⟩, fun h6 => ⟨fun h7 => ⟨fun h0 => ⟨by omega, fun hlt => ⟨⟨_, _, rfl, ?_⟩, fun _ _ => trivial⟩, fun hlt => ⟨?_, ⟨_, _, rfl, ?_⟩, fun _ _ => trivial⟩⟩, fun h0 => ⟨?_, ⟨_, _, rfl, ?_⟩, fun _ _ => trivial⟩⟩, fun h7 => ⟨fun h8 => ⟨fun h0 => ⟨⟨_, _, rfl, ?_⟩, fun _ _ => trivial⟩, fun h0 => ⟨by omega, ⟨_, _, rfl, ?_⟩, fun _ _ => trivial⟩⟩, fun h8 => ⟨fun h9 => ⟨fun h0 => ⟨⟨_, _, rfl, ?_⟩, fun _ _ => trivial⟩, fun h0 => ⟨⟨_, _, rfl, ?_⟩, fun _ _ => trivial⟩⟩, fun h9 => ⟨fun h10 => ⟨fun _ _ => trivial, fun n u hu => ⟨⟨_, _, rfl, ?_⟩, fun _ _ => trivial⟩⟩, fun h10 => ⟨fun h11 => ⟨fun _ _ => trivial, fun n u hu => ⟨⟨_, _, rfl, ?_⟩, fun _ _ => trivial⟩⟩, fun h11 => ⟨fun h12 => ⟨fun _ _ => trivial, fun n u hu => ⟨⟨_, _, rfl, ?_⟩, fun _ _ => trivial⟩⟩, fun h12 => ⟨⟨_, _, rfl, ?_⟩, fun _ _ => trivial⟩⟩⟩⟩⟩⟩⟩⟩⟩
 ·unfold sumS; rw [if_pos h5]; simp only [decide_eq_true_eq]
 ·unfold sumS; rw [if_neg h5, if_pos h6]; simp only [decide_eq_true_eq]
 ·unfold sumS; rw [if_neg h5, if_neg h6, if_pos h7, if_pos ⟨h0, hlt⟩]; rfl
 ·have := t1 fun _ => hlt
  omega
 ·unfold sumS; rw [if_neg h5, if_neg h6, if_pos h7, if_neg (fun h => hlt h.2)]; rfl
 ·have := t1 fun h => absurd h0 h
  omega
 ·unfold sumS; rw [if_neg h5, if_neg h6, if_pos h7, if_neg (fun h => h.1 h0)]; rfl
 ·unfold sumS; rw [if_neg h5, if_neg h6, if_neg h7, if_pos h8, if_pos h0]; rfl
 ·unfold sumS; rw [if_neg h5, if_neg h6, if_neg h7, if_pos h8, if_neg h0]; rfl
 ·unfold sumS; rw [if_neg h5, if_neg h6, if_neg h7, if_neg h8, if_pos h9, if_pos h0]; rfl
 ·unfold sumS; rw [if_neg h5, if_neg h6, if_neg h7, if_neg h8, if_pos h9, if_neg h0]; rfl
 ·obtain ⟨rfl, rfl⟩ := tr _ _ _ hu; unfold sumS; rw [if_neg h5, if_neg h6, if_neg h7, if_neg h8, if_neg h9, if_pos h10]; simp only [beq_iff_eq, if_true]
 ·obtain ⟨rfl, rfl⟩ := tr _ _ _ hu; unfold sumS; rw [if_neg h5, if_neg h6, if_neg h7, if_neg h8, if_neg h9, if_neg h10, if_pos h11]; simp only [decide_eq_true_eq, if_true]
 ·obtain ⟨rfl, rfl⟩ := tr _ _ _ hu; unfold sumS; rw [if_neg h5, if_neg h6, if_neg h7, if_neg h8, if_neg h9, if_neg h10, if_neg h11, if_pos h12]; simp only [decide_eq_true_eq, if_true]
 ·unfold sumS; rw [if_neg h5, if_neg h6, if_neg h7, if_neg h8, if_neg h9, if_neg h10, if_neg h11, if_neg h12]; rfl
theorem find_range {α : Type} {g : Nat → Option α} {v : α} : ∀ (n j : Nat), j < n → (∀ k, k < j → g k = none) → g j = some v → (List.range n).findSome? g = some v
 | 0, j, h, _, _ => absurd h (Nat.not_lt_zero _)
 | n + 1, j, h, h0, h1 => by
  rw [List.range_succ, List.findSome?_append]
  rcases Nat.lt_or_ge j n with hj | hj
  ·rw [find_range n j hj h0 h1]; rfl
  ·obtain rfl : j = n := by omega
   have : (List.range j).findSome? g = none := by
    rw [List.findSome?_eq_none_iff]; intro k hk; exact h0 k (List.mem_range.1 hk)
   rw [this]; simp [h1]
theorem edit_hit {f : List Ins → Nat → Option Edit} {b : List Ins} {j : Nat} {e : Edit} (hj : j < b.length) (h0 : ∀ k, k < j → f b k = none) (h1 : f b j = some e) : editL f b = e.run b j := by
 unfold editL; rw [find_range b.length j hj (fun k hk => by rw [h0 k hk]; rfl) (show Option.map _ (f b j) = some (e.run b j) by rw [h1]; rfl)]
theorem edit_miss {f : List Ins → Nat → Option Edit} {b : List Ins} (h0 : ∀ k, k < b.length → f b k = none) (hW : Within b) : editL f b = withoutL b (List.replicate b.length false) := by
 have h1 : (List.range b.length).findSome? (fun i => (f b i).map fun e => e.run b i) = none := by
  rw [List.findSome?_eq_none_iff]; intro k hk; rw [h0 k (List.mem_range.1 hk)]; rfl
 unfold editL; rw [h1]; exact (without_none b fun x hx hj => by have := hW x hx hj; omega).symm
theorem marks_one {n i : Nat} : marks n i 1 = (List.replicate n false).set i true := by
 apply List.ext_getElem?; intro k; rw [List.getElem?_set, List.length_replicate]
 rcases Nat.lt_or_ge k n with hk | hk
 ·rw [marks_at hk]
  by_cases e : i = k
  ·rw [if_pos e, if_pos (by omega), decide_eq_true (by omega), decide_eq_true (by omega)]; rfl
  ·rw [if_neg e, List.getElem?_replicate, if_pos hk]
   by_cases h : i ≤ k
   ·rw [decide_eq_false (show ¬ k < i + 1 by omega), Bool.and_false]
   ·rw [decide_eq_false h, Bool.false_and]
 ·rw [List.getElem?_eq_none (by rw [marks_len]; exact hk)]
  by_cases e : i = k
  ·rw [if_pos e, if_neg (by omega)]
  ·rw [if_neg e, List.getElem?_replicate, if_neg (by omega)]
theorem marks_two {n i : Nat} : marks n i 2 = ((List.replicate n false).set i true).set (i + 1) true := by
 apply List.ext_getElem?; intro k; rw [← marks_one, List.getElem?_set, marks_len]
 rcases Nat.lt_or_ge k n with hk | hk
 ·rw [marks_at hk, marks_at hk]
  by_cases e : i + 1 = k
  ·rw [if_pos e, if_pos (by omega), decide_eq_true (by omega), decide_eq_true (by omega)]; rfl
  ·rw [if_neg e]
   by_cases h : i ≤ k
   ·by_cases h2 : k < i + 1
    ·rw [decide_eq_true h2, decide_eq_true (show k < i + 2 by omega)]
    ·rw [decide_eq_false h2, decide_eq_false (show ¬ k < i + 2 by omega)]
   ·rw [decide_eq_false h, Bool.false_and, Bool.false_and]
 ·rw [List.getElem?_eq_none (by rw [marks_len]; exact hk), List.getElem?_eq_none (by rw [marks_len]; exact hk)]; split
  ·next e => rw [if_neg (by omega)]
  ·rfl
theorem within_set {b : List Ins} {k : Nat} {x : Ins} (hW : Within b) (h : jmpB x = true → 0 ≤ x.a ∧ x.a.toNat < b.length) : Within (b.set k x) := by
 intro y hy hj; rw [List.length_set]
 rcases List.mem_or_eq_of_mem_set hy with hy | rfl
 ·exact hW y hy hj
 ·exact h hj
theorem without_end {P : List Ins → Prop} {f : List Ins → List Ins} {b out : List Ins} {gone : List Bool} {x0 A1 A2 : Option Addr} {c0 c1 c2 : Nat} {K : World → Prop} (hl : out.length = b.length) (hg : gone.length = b.length) (hW : Within out) (hlen : b.length ≤ 2048) (e : f b = withoutL out gone)
  (h1 : ∀ w, K w → Rd w w.heap.size 3 A1 b.length (out.flatMap iC)) (h2 : ∀ w, K w → Rd w w.heap.size 1 A2 b.length (gone.map Value.bool)) :
  ∃ (α : Type) (x : α), (∀ w, K w → WithoutC.pre [.p A1, .n b.length, .n c1, .p A2, .n b.length, .n c2, .g x] w) ∧ ∀ (A : Option Addr) (n c : Nat), WithoutC.post [.p A1, .n b.length, .n c1, .p A2, .n b.length, .n c2, .g x] [.p A, .n n, .n c] → (WayC P f).post [.p x0, .n b.length, .n c0, .g b] [.p A, .n n, .n c] ∧ ∀ w, K w ∧ WithoutC.fact [.p A1, .n b.length, .n c1, .p A2, .n b.length, .n c2, .g x] [.p A, .n n, .n c] w → (WayC P f).fact [.p x0, .n b.length, .n c0, .g b] [.p A, .n n, .n c] w := by
 refine ⟨List Ins × List Bool, (out, gone), fun w h => ⟨A1, c1, A2, c2, (out, gone), by simp only [hl, hg], ?_, ?_, by simp only; omega, hW, by simp only; omega⟩, fun A n c hpo => ?_⟩
 ·have := h1 w h; rw [← hl] at this; exact this
 ·have := h2 w h; rw [← hg] at this; exact this
 ·obtain ⟨A', c', e'⟩ := hpo (out, gone) rfl; simp only [List.cons.injEq, U.p.injEq, U.n.injEq, and_true] at e'; obtain ⟨rfl, rfl, rfl⟩ := e'; refine ⟨fun p hb => ?_, fun w hw p A n c hb ho hn => ?_⟩
  ·obtain rfl := g_inj' hb; exact ⟨A, c, by rw [e]⟩
  ·obtain rfl := g_inj' hb; simp only [List.cons.injEq, U.p.injEq, U.n.injEq, and_true] at ho; obtain ⟨rfl, rfl, rfl⟩ := ho; rw [e]; exact hw.2 (out, gone) _ _ _ rfl rfl rfl
theorem marks_v1 (n i : Nat) : (List.replicate n (Value.bool false)).set i (.bool true) = (marks n i 1).map Value.bool := by
 rw [marks_one, List.map_set, List.map_replicate]
theorem marks_v2 (n i : Nat) : ((List.replicate n (Value.bool false)).set i (.bool true)).set (i + 1) (.bool true) = (marks n i 2).map Value.bool := by
 rw [marks_two, List.map_set, List.map_set, List.map_replicate]
theorem none_v (n : Nat) : List.replicate n (Value.bool false) = (List.replicate n false).map Value.bool := by rw [List.map_replicate]
theorem flat_put3 (l : List Ins) {k : Nat} (hk : k < l.length) (o a c : Int) : (((l.flatMap iC).set (k * 3) (.int .i64 o)).set (k * 3 + 1) (.int .i64 a)).set (k * 3 + 2) (.int .i64 c) = (l.set k ⟨o, a, c⟩).flatMap iC := flat_put l hk ⟨o, a, c⟩
theorem aims_ld {w : World} {b : List Ins} {A : Option Addr} (h : BoM w A (aimT b b.length)) {k : Nat} (hk : k < b.length) : ¬ A.isNone = true ∧ LoadsAt w (A.map (·.add k)) [.bool (aimB b k)] := by
 have hk2 : k < (aimT b b.length).length := by rw [aimT_len]; exact hk
 have e := aimT_at b b.length hk; rw [List.getElem?_eq_getElem hk2, List.take_length] at e; injection e with e
 have := h.ld hk2; rw [e] at this; exact ⟨h.nn hk2, this⟩
theorem num_sum (op a b n : Int) (t : Bool) (h : SumC.post [.i op, .i a, .i b] [.i n, .b t]) : sumS op a b = if t then some n else none := by
 obtain ⟨n', t', e, h⟩ := h; simp only [List.cons.injEq, U.i.injEq, U.b.injEq, and_true] at e; obtain ⟨rfl, rfl⟩ := e; exact h
def cfg_fold : Cfg := { con := [(27, 1), (12, 1), (28, 0), (26, 1)], own := 1, loops := [(4, { slots := [6] })], retire := [111], lents := [(12, [(999999, 31)])], early := [(1, [.bin .le (.int 0) (.un .cast (.var 1)), .bin .le (.un .cast (.var 1)) (.int 9223372036854775807), .bin .le (.un .cast (.var 1)) (.int 140737488355328)])] }
def vcd_fold : { v : VC // vcOfP Try.prog cfg_fold [(1, [0, 1002002, 5, 20, 17, 24]), (6, [1000009, 37, 41, 45, 49]), (12, [1000010, 41, 1011005])] 15 = v } := by refine ⟨?v, ?h⟩; rotate_left; conv => lhs; reduce
theorem vce_fold : vcOf Try.prog cfg_fold 15 = vcd_fold.1 := by kernel_rfl
theorem fold_keeps : Keeps Try.prog 15 (WayC GoodP foldL) := by
 refine keeps_v Try.func15 cfg_fold vce_fold [.p, .n, .n, .g] (WayC GoodP foldL) [(27, AimsC), (12, CloneC), (28, SumC), (26, WithoutC)] ⟨aims_keeps, clone_keeps, sum_keeps, without_keeps, trivial⟩ (by kernel_rfl) (fun _ _ _ h hb => inP_on h hb) ?_; intro x0 x1 x2 α x3 w hp; have hp : InP GoodP [.p x0, .n x1, .n x2, .g x3] w := hp; obtain ⟨A, c, b, he, hI, ps, nns, loc, hG, hl⟩ := hp; simp only [List.cons.injEq, U.p.injEq, U.n.injEq, and_true] at he; obtain ⟨rfl, rfl, rfl, hg⟩ := he; cases hg; have hW := hG.within; refine ⟨[(4, { inv := fun v => ∃ j : Nat, j ≤ b.length ∧ (∀ k, k < j → foldAt b k = none) ∧ v = [.i j], mea := fun v => match v with | [.i i] => b.length - i.toNat | _ => 0 })], vc_use ?Q ?h ?g⟩
 case h => intro O C s I b; conv => lhs; reduce
 dsimp only [std]; simp only [ctrOf, invOf, List.lookup, Nat.reduceBEq, Option.getD_some, Int.reduceOfNat, Int.reduceNegSucc]; refine ⟨by omega, by omega, by omega, List Ins, b, fun w h => ?_, fun A1 n1 c1 hpo => ?_⟩
 ·obtain ⟨A, c, b', h1, h2, ps', nns', loc', h3, h4⟩ := h; exact ⟨A, c, b', h1, h2, h3.within, h4⟩
 obtain ⟨A2, c2, e2⟩ := hpo b rfl; simp only [List.cons.injEq, U.p.injEq, U.n.injEq, and_true] at e2; obtain ⟨rfl, rfl, rfl⟩ := e2; have haim : ∀ {w : World}, AimsC.fact [.p x0, .n b.length, .n x2, .g b] [.p A1, .n b.length, .n c1] w → BoM w A1 (aimT b b.length) := fun h => h b A1 _ c1 rfl rfl rfl
 refine ⟨List Ins, b, fun w h => ?_, fun n xs hpo => ?_⟩
 ·obtain ⟨A, c, b', h1, h2, ps', nns', loc', h3, h4⟩ := h.1; exact ⟨A, c, b', h1, h2, h4⟩
 have hpo := hpo b rfl; simp only [List.cons.injEq, U.n.injEq, U.l.injEq, and_true] at hpo; obtain ⟨rfl, rfl⟩ := hpo; refine ⟨⟨0, Nat.zero_le _, fun k hk => by omega, rfl⟩, fun _ _ => trivial, ?_⟩; rintro i ⟨j, hjl, hno, he⟩; simp only [List.cons.injEq, U.i.injEq, and_true] at he; subst he; have e1 : ((j : Int) + 1).toNat = j + 1 := by omega
 have e2 : ((j : Int) + 2).toNat = j + 2 := by omega
 simp only [e1, e2, Int.toNat_natCast, flat_len, List.length_replicate, List.length_set]; refine ⟨by omega, fun hlt => ?_, fun hge A2 c2 A3 c3 => ?_⟩
 ·have hj0 : j < b.length := by omega
  have hj1 : j + 1 < b.length := by omega
  have g0 : b[j]? = some b[j] := List.getElem?_eq_getElem hj0; have g1 : b[j + 1]? = some b[j + 1] := List.getElem?_eq_getElem hj1; have next : foldAt b j = none → (∃ j' : Nat, j' ≤ b.length ∧ (∀ k, k < j' → foldAt b k = none) ∧ [U.i ((j : Int) + 1)] = [.i (j' : Int)]) ∧ b.length - (j + 1) < b.length - j := fun h => by
   refine ⟨⟨j + 1, by omega, fun k hk => ?_, rfl⟩, by omega⟩
   by_cases e : k = j
   ·rw [e]; exact h
   ·exact hno k (by omega)
  have hf : foldAt b j = if b[j].op = 1 ∧ aimB b (j + 1) = false then (if b[j + 1].op = 13 then some ⟨1, some ⟨1, if b[j].a = 0 then 1 else 0, 0⟩⟩ else if b[j + 1].op = 1 ∧ aimB b (j + 2) = false then (match b[j + 2]? with | some z => (sumS z.op b[j].a b[j + 1].a).map fun n => ⟨2, some ⟨1, n, 0⟩⟩ | none => none) else none) else none := by
   unfold foldAt; rw [g0, g1]; rfl
  refine ⟨by omega, by omega, b[j].op, b[j].a, b[j].b, flat_at g0, by omega, b[j + 1].op, b[j + 1].a, b[j + 1].b, flat_at g1, fun hx => ?_, fun hx => ?_⟩
  ·obtain ⟨n1, n2⟩ := next (by rw [hf, if_neg (fun h => hx h.1)]); exact ⟨n1, fun _ _ => trivial, n2, trivial⟩
  ·have hnx := fitL_push (hG.fit _ (List.getElem_mem hj0)) hx; refine ⟨fun w h => (aims_ld (haim h.1.2) hj1).1, by omega, aimB b (j + 1), fun w h => (aims_ld (haim h.1.2) hj1).2, fun ha => ?_, fun ha => ?_⟩
   ·obtain ⟨n1, n2⟩ := next (by rw [hf, if_neg (fun h => by rw [ha] at h; cases h.2)]); exact ⟨n1, fun _ _ => trivial, n2, trivial⟩
   ·have ha : aimB b (j + 1) = false := by simpa using ha
    rw [if_pos ⟨hx, ha⟩] at hf; refine ⟨fun hy => ?_, fun hy => ?_⟩
    ·rw [if_pos hy] at hf; refine ⟨fun _ _ => ⟨hnx, by omega, by omega⟩, fun n t hs => ?_⟩; have hs := num_sum _ _ _ _ _ hs; have hn : n = if b[j].a = 0 then 1 else 0 := by
      unfold sumS at hs; rw [if_neg (by omega), if_neg (by omega), if_neg (by omega), if_neg (by omega), if_neg (by omega), if_pos rfl] at hs; cases t with
      | true => injection hs with hs; exact hs.symm
      | false => cases hs
     rw [← hn] at hf; refine ⟨by omega, by omega, by omega, fun A2 c2 A3 c3 => ?_⟩; refine without_end (out := b.set (j + 1) ⟨1, n, 0⟩) (gone := marks b.length j 1) (by rw [List.length_set]) (marks_len _ _ _) (within_set hW (fun h => by cases h)) hl ((edit_hit hj0 hno hf).trans rfl) (fun w h => ?_) (fun w h => ?_)
     ·have := Rd.of_own h.1.2; rw [flat_put3 b hj1] at this; exact this
     ·have := Rd.of_own h.2; rw [marks_v1] at this; exact this
    ·rw [if_neg hy] at hf; refine ⟨fun hy1 => ?_, fun hy1 => ?_⟩
     ·obtain ⟨n1, n2⟩ := next (by rw [hf, if_neg (fun h => hy1 h.1)]); exact ⟨n1, fun _ _ => trivial, n2, trivial⟩
     ·have hny := fitL_push (hG.fit _ (List.getElem_mem hj1)) hy1; refine ⟨by omega, fun hle => ?_, fun hle => ?_⟩
      ·obtain ⟨n1, n2⟩ := next (by rw [hf, List.getElem?_eq_none (by omega)]; split <;> rfl); exact ⟨n1, fun _ _ => trivial, n2, trivial⟩
      ·have hj2 : j + 2 < b.length := by omega
       have g2 : b[j + 2]? = some b[j + 2] := List.getElem?_eq_getElem hj2; refine ⟨by omega, by omega, aimB b (j + 2), fun w h => (aims_ld (haim h.1.2) hj2).2, fun ha2 => ?_, fun ha2 => ?_⟩
       ·obtain ⟨n1, n2⟩ := next (by rw [hf, if_neg (fun h => by rw [ha2] at h; cases h.2)]); exact ⟨n1, fun _ _ => trivial, n2, trivial⟩
       ·have ha2 : aimB b (j + 2) = false := by simpa using ha2
        rw [if_pos ⟨hy1, ha2⟩, g2] at hf; refine ⟨by omega, by omega, b[j + 2].op, fun k v hv => ?_, fun _ _ => ⟨hnx, hny⟩, fun n t hs => ?_⟩
        ·have hk : k < 1 := lt_of_some hv; obtain rfl : k = 0 := by omega
         rw [flat3 b hj2 0 (by omega)]; exact hv
        ·have hs := num_sum _ _ _ _ _ hs; refine ⟨fun ht => ?_, fun ht => ?_⟩
         ·rw [ht, if_pos rfl] at hs; simp only [hs, Option.map_some] at hf; refine ⟨by omega, by omega, by omega, by omega, by omega, fun A2 c2 A3 c3 => ?_⟩; refine without_end (out := b.set (j + 2) ⟨1, n, 0⟩) (gone := marks b.length j 2) (by rw [List.length_set]) (marks_len _ _ _) (within_set hW (fun h => by cases h)) hl ((edit_hit hj0 hno hf).trans rfl) (fun w h => ?_) (fun w h => ?_)
          ·have := Rd.of_own h.1.2; rw [flat_put3 b hj2] at this; exact this
          ·have := Rd.of_own h.2; rw [marks_v2] at this; exact this
         ·rw [show t = false by simpa using ht] at hs; obtain ⟨n1, n2⟩ := next (by rw [hf]; simp only [hs]; rfl); exact ⟨n1, fun _ _ => trivial, n2, trivial⟩
 ·refine without_end (out := b) (gone := List.replicate b.length false) rfl (by simp) hW hl (edit_miss (fun k hk => ?_) hW) (fun w h => Rd.of_own h.1.2) (fun w h => ?_)
  ·by_cases e : k < j
   ·exact hno k e
   ·unfold foldAt; rw [List.getElem?_eq_none (show b.length ≤ k + 1 by omega)]; split
    ·next h => cases h
    ·rfl
  ·have := Rd.of_own h.2; rw [none_v] at this; exact this
theorem flat_one0 {b : List Ins} {k : Nat} (hk : k < b.length) : ∀ j v, [Value.int .i64 b[k].op][j]? = some v → (b.flatMap iC)[k * 3 + j]? = some v := fun j v hv => by
 have hj : j < 1 := lt_of_some hv; obtain rfl : j = 0 := by omega
 rw [flat3 b hk 0 (by omega)]; exact hv
theorem flat_one1 {b : List Ins} {k : Nat} (hk : k < b.length) : ∀ j v, [Value.int .i64 b[k].a][j]? = some v → (b.flatMap iC)[k * 3 + 1 + j]? = some v := fun j v hv => by
 have hj : j < 1 := lt_of_some hv; obtain rfl : j = 0 := by omega
 rw [Nat.add_zero, flat3 b hk 1 (by omega)]; exact hv
def cfg_settle : Cfg := { con := [(27, 1), (12, 1), (26, 1)], own := 1, loops := [(4, { slots := [6] })], retire := [63], lents := [(12, [(999999, 31)])], early := [(1, [.bin .le (.int 0) (.un .cast (.var 1)), .bin .le (.un .cast (.var 1)) (.int 9223372036854775807), .bin .le (.un .cast (.var 1)) (.int 140737488355328)])] }
def vcd_settle : { v : VC // vcOfP Try.prog cfg_settle [(1, [0, 1002002, 5, 20, 17, 24])] 16 = v } := by refine ⟨?v, ?h⟩; rotate_left; conv => lhs; reduce
theorem vce_settle : vcOf Try.prog cfg_settle 16 = vcd_settle.1 := by kernel_rfl
theorem settle_keeps : Keeps Try.prog 16 (WayC GoodP settleL) := by
 refine keeps_v Try.func16 cfg_settle vce_settle [.p, .n, .n, .g] (WayC GoodP settleL) [(27, AimsC), (12, CloneC), (26, WithoutC)] ⟨aims_keeps, clone_keeps, without_keeps, trivial⟩ (by kernel_rfl) (fun _ _ _ h hb => inP_on h hb) ?_; intro x0 x1 x2 α x3 w hp; have hp : InP GoodP [.p x0, .n x1, .n x2, .g x3] w := hp; obtain ⟨A, c, b, he, hI, ps, nns, loc, hG, hl⟩ := hp; simp only [List.cons.injEq, U.p.injEq, U.n.injEq, and_true] at he; obtain ⟨rfl, rfl, rfl, hg⟩ := he; cases hg; have hW := hG.within; refine ⟨[(4, { inv := fun v => ∃ j : Nat, j ≤ b.length ∧ (∀ k, k < j → settleAt b k = none) ∧ v = [.i j], mea := fun v => match v with | [.i i] => b.length - i.toNat | _ => 0 })], vc_use ?Q ?h ?g⟩
 case h => intro O C s I b; conv => lhs; reduce
 dsimp only [std]; simp only [ctrOf, invOf, List.lookup, Nat.reduceBEq, Option.getD_some, Int.reduceOfNat, Int.reduceNegSucc]; refine ⟨by omega, by omega, by omega, List Ins, b, fun w h => ?_, fun A1 n1 c1 hpo => ?_⟩
 ·obtain ⟨A, c, b', h1, h2, ps', nns', loc', h3, h4⟩ := h; exact ⟨A, c, b', h1, h2, h3.within, h4⟩
 obtain ⟨A2, c2, e2⟩ := hpo b rfl; simp only [List.cons.injEq, U.p.injEq, U.n.injEq, and_true] at e2; obtain ⟨rfl, rfl, rfl⟩ := e2; have haim : ∀ {w : World}, AimsC.fact [.p x0, .n b.length, .n x2, .g b] [.p A1, .n b.length, .n c1] w → BoM w A1 (aimT b b.length) := fun h => h b A1 _ c1 rfl rfl rfl
 refine ⟨List Ins, b, fun w h => ?_, fun n xs hpo => ?_⟩
 ·obtain ⟨A, c, b', h1, h2, ps', nns', loc', h3, h4⟩ := h.1; exact ⟨A, c, b', h1, h2, h4⟩
 have hpo := hpo b rfl; simp only [List.cons.injEq, U.n.injEq, U.l.injEq, and_true] at hpo; obtain ⟨rfl, rfl⟩ := hpo; refine ⟨⟨0, Nat.zero_le _, fun k hk => by omega, rfl⟩, fun _ _ => trivial, ?_⟩; rintro i ⟨j, hjl, hno, he⟩; simp only [List.cons.injEq, U.i.injEq, and_true] at he; subst he; have e1 : ((j : Int) + 1).toNat = j + 1 := by omega
 simp only [e1, Int.toNat_natCast, flat_len, List.length_replicate, List.length_set]; refine ⟨by omega, fun hlt => ?_, fun hge A2 c2 A3 c3 => ?_⟩
 ·have hj0 : j < b.length := by omega
  have hj1 : j + 1 < b.length := by omega
  have g0 : b[j]? = some b[j] := List.getElem?_eq_getElem hj0; have g1 : b[j + 1]? = some b[j + 1] := List.getElem?_eq_getElem hj1; have next : settleAt b j = none → (∃ j' : Nat, j' ≤ b.length ∧ (∀ k, k < j' → settleAt b k = none) ∧ [U.i ((j : Int) + 1)] = [.i (j' : Int)]) ∧ b.length - (j + 1) < b.length - j := fun h => by
   refine ⟨⟨j + 1, by omega, fun k hk => ?_, rfl⟩, by omega⟩
   by_cases e : k = j
   ·rw [e]; exact h
   ·exact hno k (by omega)
  have hf : settleAt b j = if b[j].op = 1 ∧ b[j + 1].op = 15 ∧ aimB b (j + 1) = false then (if b[j].a = 0 then some ⟨1, some ⟨14, b[j + 1].a, b[j + 1].b⟩⟩ else some ⟨2, none⟩) else none := by
   unfold settleAt; rw [g0, g1]
  refine ⟨by omega, by omega, by omega, b[j].op, flat_one0 hj0, fun hx => ?_, fun hx => ⟨by omega, b[j + 1].op, flat_one0 hj1, fun hy => ?_, fun hy => ?_⟩⟩
  ·obtain ⟨n1, n2⟩ := next (by rw [hf, if_neg (fun h => hx h.1)]); exact ⟨n1, fun _ _ => trivial, n2, trivial⟩
  ·obtain ⟨n1, n2⟩ := next (by rw [hf, if_neg (fun h => hy h.2.1)]); exact ⟨n1, fun _ _ => trivial, n2, trivial⟩
  ·refine ⟨fun w h => (aims_ld (haim h.1.2) hj1).1, by omega, aimB b (j + 1), fun w h => (aims_ld (haim h.1.2) hj1).2, fun ha => ?_, fun ha => ?_⟩
   ·obtain ⟨n1, n2⟩ := next (by rw [hf, if_neg (fun h => by rw [ha] at h; cases h.2.2)]); exact ⟨n1, fun _ _ => trivial, n2, trivial⟩
   ·have ha : aimB b (j + 1) = false := by simpa using ha
    rw [if_pos ⟨hx, hy, ha⟩] at hf; refine ⟨by omega, by omega, b[j].a, flat_one1 hj0, fun h0 => ?_, fun h0 => ?_⟩
    ·rw [if_pos h0] at hf; have h15 := hW _ (List.getElem_mem hj1) (jmpB_iff.2 (.inr hy)); refine ⟨by omega, fun A2 c2 A3 c3 => ?_⟩; refine without_end (out := b.set (j + 1) ⟨14, b[j + 1].a, b[j + 1].b⟩) (gone := marks b.length j 1) (by rw [List.length_set]) (marks_len _ _ _) (within_set hW (fun _ => h15)) hl ((edit_hit hj0 hno hf).trans rfl) (fun w h => ?_) (fun w h => ?_)
     ·have := Rd.of_own h.1.2; rw [flat_seto b hj1] at this; exact this
     ·have := Rd.of_own h.2; rw [marks_v1] at this; exact this
    ·rw [if_neg h0] at hf; refine ⟨by omega, by omega, fun A2 c2 A3 c3 => ?_⟩; refine without_end (out := b) (gone := marks b.length j 2) rfl (marks_len _ _ _) hW hl ((edit_hit hj0 hno hf).trans rfl) (fun w h => Rd.of_own h.1.2) (fun w h => ?_); have := Rd.of_own h.2; rw [marks_v2] at this; exact this
 ·refine without_end (out := b) (gone := List.replicate b.length false) rfl (by simp) hW hl (edit_miss (fun k hk => ?_) hW) (fun w h => Rd.of_own h.1.2) (fun w h => ?_)
  ·by_cases e : k < j
   ·exact hno k e
   ·unfold settleAt; rw [List.getElem?_eq_none (show b.length ≤ k + 1 by omega)]; split
    ·next h => cases h
    ·rfl
  ·have := Rd.of_own h.2; rw [none_v] at this; exact this
def cfg_lose : Cfg := { con := [(27, 1), (26, 1)], own := 1, loops := [(3, { slots := [15] })], retire := [86], early := [(1, [.bin .le (.int 0) (.un .cast (.var 1)), .bin .le (.un .cast (.var 1)) (.int 9223372036854775807), .bin .le (.un .cast (.var 1)) (.int 140737488355328)])] }
def vcd_lose : { v : VC // vcOfP Try.prog cfg_lose [(1, [0, 1002002, 5, 20, 17, 24])] 17 = v } := by refine ⟨?v, ?h⟩; rotate_left; conv => lhs; reduce
theorem vce_lose : vcOf Try.prog cfg_lose 17 = vcd_lose.1 := by kernel_rfl
theorem lose_keeps : Keeps Try.prog 17 (WayC GoodP loseL) := by
 refine keeps_v Try.func17 cfg_lose vce_lose [.p, .n, .n, .g] (WayC GoodP loseL) [(27, AimsC), (26, WithoutC)] ⟨aims_keeps, without_keeps, trivial⟩ (by kernel_rfl) (fun _ _ _ h hb => inP_on h hb) ?_; intro x0 x1 x2 α x3 w hp; have hp : InP GoodP [.p x0, .n x1, .n x2, .g x3] w := hp; obtain ⟨A, c, b, he, hI, ps, nns, loc, hG, hl⟩ := hp; simp only [List.cons.injEq, U.p.injEq, U.n.injEq, and_true] at he; obtain ⟨rfl, rfl, rfl, hg⟩ := he; cases hg; have hW := hG.within; refine ⟨[(3, { inv := fun v => ∃ j : Nat, j ≤ b.length ∧ (∀ k, k < j → loseAt b k = none) ∧ v = [.i j], mea := fun v => match v with | [.i i] => b.length - i.toNat | _ => 0 })], vc_use ?Q ?h ?g⟩
 case h => intro O C s I b; conv => lhs; reduce
 dsimp only [std]; simp only [ctrOf, invOf, List.lookup, Nat.reduceBEq, Option.getD_some, Int.reduceOfNat, Int.reduceNegSucc]; refine ⟨by omega, by omega, by omega, List Ins, b, fun w h => ?_, fun A1 n1 c1 hpo => ?_⟩
 ·obtain ⟨A, c, b', h1, h2, ps', nns', loc', h3, h4⟩ := h; exact ⟨A, c, b', h1, h2, h3.within, h4⟩
 obtain ⟨A2, c2, e2⟩ := hpo b rfl; simp only [List.cons.injEq, U.p.injEq, U.n.injEq, and_true] at e2; obtain ⟨rfl, rfl, rfl⟩ := e2; have haim : ∀ {w : World}, AimsC.fact [.p x0, .n b.length, .n x2, .g b] [.p A1, .n b.length, .n c1] w → BoM w A1 (aimT b b.length) := fun h => h b A1 _ c1 rfl rfl rfl
 refine ⟨⟨0, Nat.zero_le _, fun k hk => by omega, rfl⟩, fun _ _ => trivial, ?_⟩; rintro i ⟨j, hjl, hno, he⟩; simp only [List.cons.injEq, U.i.injEq, and_true] at he; subst he; have e1 : ((j : Int) + 1).toNat = j + 1 := by omega
 simp only [e1, Int.toNat_natCast, List.length_replicate, List.length_set]; refine ⟨fun hlt => ?_, fun hge A3 c3 => ?_⟩
 ·have hj0 : j < b.length := by omega
  have g0 : b[j]? = some b[j] := List.getElem?_eq_getElem hj0; have next : loseAt b j = none → (∃ j' : Nat, j' ≤ b.length ∧ (∀ k, k < j' → loseAt b k = none) ∧ [U.i ((j : Int) + 1)] = [.i (j' : Int)]) ∧ b.length - (j + 1) < b.length - j := fun h => by
   refine ⟨⟨j + 1, by omega, fun k hk => ?_, rfl⟩, by omega⟩
   by_cases e : k = j
   ·rw [e]; exact h
   ·exact hno k (by omega)
  have hf : loseAt b j = if b[j].op = 14 ∧ b[j].a = (j : Int) + 1 then some ⟨1, none⟩ else match b[j + 1]? with | some y => if idleB b[j] = true ∧ y.op = 2 ∧ aimB b (j + 1) = false then some ⟨2, none⟩ else none | none => none := by
   unfold loseAt; rw [g0]; rfl
  have busy : idleB b[j] = false → ¬ (b[j].op = 14 ∧ b[j].a = (j : Int) + 1) → loseAt b j = none := fun h1 h2 => by
   rw [hf, if_neg h2]; split
   ·rw [if_neg]; intro h; rw [h1] at h; cases h.1
   ·rfl
  have notid : ∀ {n : Int}, b[j].op ≠ 1 → b[j].op ≠ 3 → b[j].op ≠ 22 → b[j].op ≠ 24 → idleB b[j] = false := fun h1 h3 h4 h5 => by
   unfold idleB; rw [decide_eq_false h1, decide_eq_false h3, decide_eq_false h4, decide_eq_false h5]; rfl
  refine ⟨fun w h => (inP_get h.1.1).nn hj0, by omega, b[j].op, b[j].a, b[j].b, fun w h => (inP_get h.1.1).ld hj0, fun h14 => ⟨by omega, fun ha => ?_, fun ha => ?_⟩, fun h14 => ?_⟩
  ·rw [if_pos ⟨h14, ha⟩] at hf; refine ⟨by omega, fun A3 c3 => ?_⟩; refine without_end (out := b) (gone := marks b.length j 1) rfl (marks_len _ _ _) hW hl ((edit_hit hj0 hno hf).trans rfl) (fun w h => inP_get h.1.1.1) (fun w h => ?_); have := Rd.of_own h.2; rw [marks_v1] at this; exact this
  ·obtain ⟨n1, n2⟩ := next (busy (notid (n := 0) (by omega) (by omega) (by omega) (by omega)) (fun h => ha h.2)); exact ⟨fun h => absurd h (by omega), fun _ => ⟨n1, fun _ _ => trivial, n2, trivial⟩⟩
  ·rw [if_neg (fun h => h14 h.1)] at hf; refine ⟨fun hi => ⟨by omega, fun hlt1 => ?_, fun hlt1 => ?_⟩, fun hi => ?_⟩
   ·have hid : idleB b[j] = true := by
     unfold idleB; simp only [Bool.or_eq_true, decide_eq_true_eq]; exact hi
    have hj1 : j + 1 < b.length := by omega
    have g1 : b[j + 1]? = some b[j + 1] := List.getElem?_eq_getElem hj1; rw [g1] at hf; simp only at hf; refine ⟨by omega, b[j + 1].op, fun w h => (inP_get h.1.1).ld0 hj1, fun h2 => ⟨fun w h => (aims_ld (haim h.1.2) hj1).1, by omega, aimB b (j + 1), fun w h => (aims_ld (haim h.1.2) hj1).2, fun ha => ?_, fun ha => ?_⟩, fun h2 => ?_⟩
    ·have ha : aimB b (j + 1) = false := by simpa using ha
     rw [if_pos ⟨hid, h2, ha⟩] at hf; refine ⟨by omega, by omega, fun A3 c3 => ?_⟩; refine without_end (out := b) (gone := marks b.length j 2) rfl (marks_len _ _ _) hW hl ((edit_hit hj0 hno hf).trans rfl) (fun w h => inP_get h.1.1.1) (fun w h => ?_); have := Rd.of_own h.2; rw [marks_v2] at this; exact this
    ·obtain ⟨n1, n2⟩ := next (by rw [hf, if_neg (fun h => by rw [ha] at h; cases h.2.2)]); exact ⟨n1, fun _ _ => trivial, n2, trivial⟩
    ·obtain ⟨n1, n2⟩ := next (by rw [hf, if_neg (fun h => h2 h.2.1)]); exact ⟨n1, fun _ _ => trivial, n2, trivial⟩
   ·rw [List.getElem?_eq_none (show b.length ≤ j + 1 by omega)] at hf; obtain ⟨n1, n2⟩ := next hf; exact ⟨n1, fun _ _ => trivial, n2, trivial⟩
   ·obtain ⟨n1, n2⟩ := next (busy (notid (n := 0) (by omega) (by omega) (by omega) (by omega)) (fun h => h14 h.1)); exact ⟨by omega, n1, fun _ _ => trivial, n2, trivial⟩
 ·refine without_end (out := b) (gone := List.replicate b.length false) rfl (by simp) hW hl (edit_miss (fun k hk => hno k (by omega)) hW) (fun w h => inP_get h.1.1.1) (fun w h => ?_); have := Rd.of_own h.2; rw [none_v] at this; exact this
end Go.Proofs.Ytgjbcahpgkchfaa
