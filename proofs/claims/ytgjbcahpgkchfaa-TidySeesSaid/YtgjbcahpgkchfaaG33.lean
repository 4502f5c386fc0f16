/- Of the texts Ty18, Ty19, Ty20, Ty21, Ty22, Ty23. -/
import Derived.Test.YtgjbcahpgkchfaaG23
import Derived.Test.YtgjbcahpgkchfaaG09
import Derived.Test.YtgjbcahpgkchfaaG32
import Derived.Deep.QuietTactic
import Derived.Test.YtgjbcahpgkchfaaG10
set_option linter.unusedSimpArgs false
set_option linter.unusedVariables false
namespace Go.Proofs.Ytgjbcahpgkchfaa
open Go Go.RowKit Vc
set_option maxRecDepth 100000
theorem insM_insR {w : World} {A : Option Addr} {b : List Ins} (h : InsM w A b) : InsR w w.heap.size A b := InsR.of_lay h
theorem insR_insM {w : World} {A : Option Addr} {b : List Ins} (h : InsR w w.heap.size A b) : InsM w A b := by
 refine ⟨flat_len b, fun hn => ?_⟩; obtain ⟨g, off, rfl, hg, -⟩ := h 0 hn; refine ⟨g, off, rfl, hg, fun j u hj => ?_⟩; have hjl := lt_of_some hj; rw [flat_len] at hjl; obtain ⟨g', off', e, _, h1, h2, h3⟩ := h (j / 3) (by omega); injection e with e
 injection e with e1 e2
 subst e1; subst e2; have e3 := flat3 b (show j / 3 < b.length by omega) (j % 3) (Nat.mod_lt _ (by omega)); rw [show j / 3 * 3 + j % 3 = j by omega, hj] at e3; have hm : j % 3 = 0 ∨ j % 3 = 1 ∨ j % 3 = 2 := by omega
 rcases hm with e | e | e <;> rw [e] at e3 <;> injection e3 with e3 <;> subst e3
 ·rw [show off + j = off + j / 3 * 3 by omega]; exact h1
 ·rw [show off + j = off + j / 3 * 3 + 1 by omega]; exact h2
 ·rw [show off + j = off + j / 3 * 3 + 2 by omega]; exact h3
def CodeM (w : World) (A : Option Addr) (ds : List PceD) : Prop := Rd w w.heap.size 5 A ds.length (ds.flatMap PceD.cells) ∧ ∀ d, d ∈ ds → InsM w d.A d.p.body
theorem CodeM.on {w w' : World} {A : Option Addr} {ds : List PceD} (h : CodeM w A ds) (hb : Below w.heap.size w w') : CodeM w' A ds := ⟨Rd.more (Rd.below h.1 hb) hb.size, fun d hd => (h.2 d hd).on hb⟩
theorem strs_on {w w' : World} {A : Option Addr} {ns : List (List UInt8)} (h : Strs w w.heap.size A ns) (hb : Below w.heap.size w w') : Strs w' w'.heap.size A ns := Rd.more (Rd.below h hb) hb.size
theorem CodeM.pcs {w : World} {A : Option Addr} {ds : List PceD} (h : CodeM w A ds) : PcsR w w.heap.size A (ds.map (·.p)) := PcsR.of_lay h.1 fun x hx => insM_insR (h.2 x hx)
theorem flat5 (ds : List PceD) {k : Nat} (hk : k < ds.length) : ∀ j, j < 5 → (ds.flatMap PceD.cells)[k * 5 + j]? = (ds[k].cells)[j]? := by
 induction ds generalizing k with
 | nil => exact absurd hk (by simp)
 | cons x l ih =>
  intro j hj; rw [List.flatMap_cons]; cases k with
  | zero =>
   rw [List.getElem?_append_left (by show _ < 5; omega)]; simp
  | succ k =>
   rw [List.getElem?_append_right (by show 5 ≤ _; omega), show x.cells.length = 5 from rfl, show (k + 1) * 5 + j - 5 = k * 5 + j by omega]; simp only [List.length_cons] at hk; exact ih (by omega) j hj
theorem flat5_len (ds : List PceD) : (ds.flatMap PceD.cells).length = ds.length * 5 := by
 induction ds with
 | nil => rfl
 | cons x l ih => rw [List.flatMap_cons, List.length_append, ih, show x.cells.length = 5 from rfl, List.length_cons]; omega
theorem code_of {w : World} {A : Option Addr} : ∀ {ps : List Pce}, PcsR w w.heap.size A ps → ∃ ds, CodeM w A ds ∧ ds.map (·.p) = ps := by
 intro ps h; have hex : ∀ k : Fin ps.length, ∃ d : PceD, d.p = ps[k] ∧ InsM w d.A d.p.body ∧ ∃ b off, A = some ⟨b, off, none⟩ ∧ b < w.heap.size ∧ ∀ j v, d.cells[j]? = some v → w.cell? ⟨b, off + k * 5 + j, none⟩ = some v := fun k => by
  obtain ⟨b, off, A', c, e, hb, k0, k1, k2, k3, k4, hI⟩ := h k k.2; refine ⟨⟨ps[k], A', c⟩, rfl, insR_insM hI, b, off, e, hb, fun j v hv => ?_⟩; have hj : j < 5 := lt_of_some hv
  match j, hj with
  | 0, _ => injection hv with hv; rw [← hv]; exact k0
  | 1, _ => injection hv with hv; rw [← hv]; exact k1
  | 2, _ => injection hv with hv; rw [← hv]; exact k2
  | 3, _ => injection hv with hv; rw [← hv]; exact k3
  | 4, _ => injection hv with hv; rw [← hv]; exact k4
 obtain ⟨F, hF⟩ := Classical.axiomOfChoice hex; have hlen : (List.ofFn F).length = ps.length := List.length_ofFn; refine ⟨List.ofFn F, ⟨⟨flat5_len _, fun hn => ?_⟩, fun d hd => ?_⟩, ?_⟩
 ·rw [hlen] at hn; obtain ⟨b, off, e, hb, _⟩ := (hF ⟨0, hn⟩).2.2; refine ⟨b, off, e, hb, fun j v hv => ?_⟩; have hjl := lt_of_some hv; rw [flat5_len, hlen] at hjl; have hk : j / 5 < ps.length := by omega
  obtain ⟨b', off', e', _, hc⟩ := (hF ⟨j / 5, hk⟩).2.2; rw [e] at e'; injection e' with e'
  injection e' with e1 e2
  subst e1; subst e2; have e3 := flat5 (List.ofFn F) (by rw [hlen]; exact hk) (j % 5) (Nat.mod_lt _ (by omega)); rw [show j / 5 * 5 + j % 5 = j by omega, hv] at e3; have := hc (j % 5) v (by rw [e3]; simp); rw [show off + (j / 5) * 5 + j % 5 = off + j by omega] at this; exact this
 ·obtain ⟨k, rfl⟩ := (List.mem_ofFn ..).1 hd; exact (hF k).2.1
 ·apply List.ext_getElem
  ·simp
  ·intro k h1 h2; simp only [List.getElem_map, List.getElem_ofFn]; exact (hF ⟨k, h2⟩).1
noncomputable def flC (ps : List Pce) : Pce → Bool := (flow_fun ps).choose
theorem flC_ok (ps : List Pce) (p : Pce) : IsFlow ps p.body (flC ps p) := (flow_fun ps).choose_spec p
noncomputable def chkC (ps : List Pce) (nns : Nat) : Int := chkS (flC ps) ps nns
def CheckC : Ctr where
 gh := 1
 pre us w := ∃ A c A' c', ∃ x : List PceD × Nat, us = [.p A, .n x.1.length, .n c, .p A', .n x.2, .n c', .g x] ∧ CodeM w A x.1 ∧ x.1.length ≤ maxLen ∧ ∀ d, d ∈ x.1 → d.p.body.length ≤ maxLen
 post us os := ∀ x : List PceD × Nat, us.getLast? = some (.g x) → os = [.i (chkC (x.1.map (·.p)) x.2)]
 fact _ _ _ := True
theorem check_keeps : Keeps Try.prog 10 CheckC := by
 intro fn' pin' pout' h1 h2 h3 us w _ hp; rw [Try.func10] at h1; injection h1 with h1; subst h1
 obtain rfl : [Sh.agg [.slc, .slc]] = pin' := Option.some.inj h2; obtain rfl : [Sh.one (.int .i64)] = pout' := Option.some.inj h3; obtain ⟨A, c, A', c', ⟨ds, nn⟩, rfl, hC, hl, hb⟩ := hp; have hcall := codeCheck_any (flC (ds.map (·.p))) (ds.map (·.p)) nn A A' c c' w.heap.size w hC.pcs (Nat.le_refl _) (flC_ok _) (by rw [List.length_map]; exact hl) (fun p hp => by
  obtain ⟨d, hd, rfl⟩ := List.mem_map.1 hp; exact hb d hd)
 rw [List.length_map] at hcall; refine Calls.mono (show Calls Try.prog 10 #[codV A ds.length c A' nn c'] w _ from hcall) ?_; rintro e w' ⟨rfl, hb⟩; exact ⟨[.i _], rfl, rfl, fun x hx => by obtain rfl := g_inj' hx; rfl, fun _ _ _ => trivial, hb⟩
theorem own_seg {w u : World} {base e size n c : Nat} {A : Option Addr} {xs : List Value} (h : w.ownsRow base e size (.slice A n c) n xs) (hu : ∀ b, base ≤ b → b < w.heap.size → u.heap[b]? = w.heap[b]?) : Rd u u.heap.size size A n xs := by
 have h' : u.ownsRow base e size (.slice A n c) n xs := by
  refine ⟨h.1, h.2.imp_right ?_⟩; rintro ⟨g, cap, cur, e1, e2, e3, e4⟩; refine ⟨g, cap, cur, e1, e2, ?_, e4⟩; rw [hu g e2 ?_]
  ·exact e3
  ·rcases Nat.lt_or_ge g w.heap.size with h | h
   ·exact h
   ·rw [Array.getElem?_eq_none h] at e3; cases e3
 exact Rd.of_own h'
def CloneI : Ctr where
 gh := 1
 pre us w := InP (fun b => b.length ≤ 2048) us w
 post us os := ∀ b : List Ins, us.getLast? = some (.g b) → ∃ A c, os = [.p A, .n b.length, .n c]
 fact us os w := ∀ (b : List Ins) A n c, us.getLast? = some (.g b) → os = [.p A, .n n, .n c] → n = b.length → InsM w A b
theorem clonei_keeps : Keeps Try.prog 12 CloneI := by
 intro fn pin pout h1 h2 h3 us w ht hp; obtain ⟨i, hi, _⟩ := info_parts insInfo; have hcall := clone_keeps fn pin i h1 h2 hi us w ht hp; rw [Try.func12] at h1; injection h1 with h1; subst h1
 obtain rfl : [Sh.one .slc] = pout := Option.some.inj h3; refine hcall.mono ?_; rintro e w' ⟨A, c, n, xs, rfl, hpo, hown, hb⟩; refine ⟨[.p A, .n n, .n c], rfl, rfl, fun b hg => ?_, fun u hu _ b A' n' c' hg ho hn => ?_, hb⟩
 ·have := hpo b hg; simp only [List.cons.injEq, U.n.injEq, and_true] at this; exact ⟨A, c, by rw [this.1]⟩
 ·have := hpo b hg; simp only [List.cons.injEq, U.n.injEq, U.l.injEq, and_true] at this; simp only [List.cons.injEq, U.p.injEq, U.n.injEq, and_true] at ho; obtain ⟨rfl, rfl, rfl⟩ := ho; obtain ⟨rfl, rfl⟩ := this; have hs := own_seg hown hu; rw [show i.size = 3 from by
   obtain ⟨j, hj, _, hz, _⟩ := info_parts insInfo; rw [hi] at hj; injection hj with hj
   rw [hj]; exact hz] at hs
  exact hs
def CloneS : Ctr where
 gh := 1
 pre us w := ∃ A c, ∃ ns : List (List UInt8), us = [.p A, .n ns.length, .n c, .g ns] ∧ Strs w w.heap.size A ns ∧ ns.length ≤ 8796093022207
 post us os := ∀ ns : List (List UInt8), us.getLast? = some (.g ns) → ∃ A c, os = [.p A, .n ns.length, .n c]
 fact us os w := ∀ (ns : List (List UInt8)) A n c, us.getLast? = some (.g ns) → os = [.p A, .n n, .n c] → n = ns.length → Strs w w.heap.size A ns
theorem strInfo7 : (Try.prog.info? 9).map (fun i => (i.zero, i.size, i.bytes)) = some (some (.string ByteArray.empty), 1, 16) := by kernel_rfl
theorem clones_keeps : Keeps Try.prog 11 CloneS := by
  intro fn' pin' pout' h1 h2 h3 us w _ hp
  rw [Try.func11] at h1; injection h1 with h1; subst h1
  obtain rfl : [Sh.one .slc] = pin' := Option.some.inj h2
  obtain rfl : [Sh.one .slc] = pout' := Option.some.inj h3
  obtain ⟨A, c, ns, rfl, hI, hl⟩ := hp
  show Calls Try.prog 11 #[.slice A ns.length c] w _
  have hq := fun w => sliceNil (P := Try.prog) (t := 23) Try.underlying23 A ns.length c w
  obtain ⟨i, hi, hz0, hz1, hz2⟩ := info_parts strInfo7
  have hbs := fun w => run_buildSlice0 (P := Try.prog) (t := 23) Try.underlying23 hi w
  cases A with
  | none =>
    have hb : ns = [] := by
      cases ns with
      | nil => rfl
      | cons x l =>
        obtain ⟨_, _, h, _⟩ := hI.2 (by simp)
        cases h
    subst hb
    clear hI hl
    simp only [Option.isNone_none, List.length_nil] at hq ⊢
    go_enter Try.func11, Try.ntmps11
    go_wp2_with fail
    go_ret
    refine ⟨[.p none, .n 0, .n 0], rfl, rfl, fun b' hb => by obtain rfl := g_inj' hb; exact ⟨none, 0, rfl⟩, fun u hu _ b A n c hb ho hn => ?_, Below.refl _ _⟩
    obtain rfl := g_inj' hb
    simp only [List.cons.injEq, U.p.injEq, U.n.injEq, and_true] at ho
    obtain ⟨rfl, rfl, rfl⟩ := ho
    exact Rd.nil _ _ _ _
  | some p =>
    rw [Option.isNone_some] at hq
    have hown0 : (w.alloc (.cells #[] 9)).ownsRow w.heap.size 9 1 (.slice (some ⟨w.heap.size, 0, none⟩) 0 0) 0 [] := World.ownsRow_made (base := w.heap.size) (e := 9) (size := 1) w #[] 0 (by omega) (by simp [maxLen]) (by simp)
    have hb0 : Below w.heap.size w (w.alloc (.cells #[] 9)) := (Below.refl _ w).alloc (Nat.le_refl _) _
    have HI := Lib.hid hI
    clear hI
    go_enter Try.func11, Try.ntmps11
    go_wp2_with (at_builtin; refine wpList_append_any _ rfl (.tmp 5) (.tmp 6) 23 rfl w.heap.size 9 i _ 1 16 Try.underlying23 hi hz0 hz1 hz2 rfl (by omega) _ 0 [] (by rfl) hown0 w.heap.size _ ns.length c (ns.map fun p => .string (bs p)) (by rfl) (Rd.below HI.out hb0) (fun u hu => by obtain ⟨x, _, rfl⟩ := List.mem_map.1 hu; rfl) (by simp [maxLen]; omega) (by omega) hb0.size ?_
                 intro v1 w1 hown1 hg1 hat1)
    go_ret
    have hbel := hb0.grown hg1 hb0.size (fun k hk => by have : some w.heap.size = some k := hk; injection this with this; omega)
    obtain ⟨A, cc, rfl⟩ : ∃ A cc, v1 = .slice A ns.length cc := by
      rcases hown1.2 with ⟨e, h⟩ | ⟨g, cap, cur, e, _⟩
      · exact ⟨none, 0, by rw [e, show ns.length = 0 by omega]⟩
      · exact ⟨_, cap, by rw [e, Nat.zero_add]⟩
    rw [Nat.zero_add] at hown1
    refine ⟨[.p A, .n ns.length, .n cc], rfl, rfl, fun b' hb => by obtain rfl := g_inj' hb; exact ⟨A, cc, rfl⟩, fun u hu _ b A' n' c' hb ho hn => ?_, hbel⟩
    obtain rfl := g_inj' hb
    simp only [List.cons.injEq, U.p.injEq, U.n.injEq, and_true] at ho
    obtain ⟨rfl, rfl, rfl⟩ := ho
    exact own_seg hown1 hu
def cfg_tidy : Cfg := { con := [(10, 1), (11, 1), (12, 1), (18, 2), (13, 1), (14, 1), (15, 1), (16, 1), (17, 1)], own := 1, loops := [(6, { slots := [26], blks := [5], rows := [100320] }), (10, { slots := [8, 9], extra := [.un (.co .i) (.var 15)], gh := 1 })], rcells := [(5, 0, 34)], unroll := [(13, 6)] }
set_option maxHeartbeats 4000000 in
def vcd_tidy : { v : VC // vcOfP Try.prog cfg_tidy [] 5 = v } := by refine ⟨?v, ?h⟩; rotate_left; conv => lhs; reduce
theorem vce_tidy : vcOf Try.prog cfg_tidy 5 = vcd_tidy.1 := by kernel_rfl
theorem good_of_chk {ps : List Pce} {nns : Nat} (h : chkC ps nns = 0) : ps.length ≤ 32 ∧ ∀ p, p ∈ ps → Good ps nns p.locals p.body ∧ p.body.length ≤ 2048 ∧ p.locals ≤ 32 ∧ p.params ≤ 8 ∧ 0 ≤ p.params ∧ p.params ≤ p.locals := by
 unfold chkC chkS at h
 by_cases h1 : 32 < ps.length
 ·rw [if_pos h1] at h; cases h
 rw [if_neg h1] at h
 by_cases h2 : ps.any bigB = true
 ·rw [if_pos h2] at h; cases h
 rw [if_neg h2] at h
 by_cases h3 : ps.any (badB ps.length nns) = true
 ·rw [if_pos h3] at h; cases h
 rw [if_neg h3] at h
 by_cases h4 : ps.all (flC ps) = true
 ·refine ⟨by omega, fun p hp => ?_⟩; obtain ⟨b1, b2, b3⟩ := not_big (by simpa using h2) hp; have hb : badB ps.length nns p = false := by
   rw [Bool.not_eq_true, List.any_eq_false] at h3; simpa using h3 p hp
  unfold badB at hb; simp only [Bool.or_eq_false_iff, decide_eq_false_iff_not, Bool.not_eq_false'] at hb; obtain ⟨⟨c1, c2⟩, c3⟩ := hb; refine ⟨⟨fun x hx => ?_, (flC_ok ps p).1 (List.all_eq_true.1 h4 p hp)⟩, b1, b2, b3, by omega, by omega⟩; exact List.all_eq_true.1 c3 x hx
 ·rw [if_neg h4] at h; cases h
theorem tidied_ex {ps : List Pce} {nns : Nat} {loc : Int} : ∀ (n : Nat) (b : List Ins), Good ps nns loc b → weight b ≤ n → ∃ c, Tidied b c
 | n, b, hg, hn => by
  rcases round_less hg with h | h
  ·exact ⟨b, .done h⟩
  ·cases n with
   | zero => omega
   | succ n =>
    obtain ⟨c, hc⟩ := tidied_ex n (roundL b) (round_ok hg).1 (by omega); exact ⟨c, .more hc⟩
theorem tidied_uniq {b c : List Ins} (h : Tidied b c) : ∀ {d : List Ins}, Tidied b d → d = c := by
 induction h with
 | done h => exact fun hd => hd.fixed h
 | more h ih =>
  intro d hd; cases hd with
  | done hf =>
   have e := hf.round; rw [e] at h; exact (h.fixed hf).symm
  | more hd => exact ih hd
open Classical in
noncomputable def tidyF (b : List Ins) : List Ins := if h : ∃ c, Tidied b c then h.choose else b
theorem tidyF_ok {ps : List Pce} {nns : Nat} {loc : Int} {b : List Ins} (hg : Good ps nns loc b) : Tidied b (tidyF b) := by
 have h := tidied_ex _ b hg (Nat.le_refl _); unfold tidyF; rw [dif_pos h]; exact h.choose_spec
theorem tidyF_of {b c : List Ins} (h : Tidied b c) : tidyF b = c := by
 have hx : ∃ c, Tidied b c := ⟨c, h⟩
 unfold tidyF; rw [dif_pos hx]; exact tidied_uniq h hx.choose_spec
noncomputable def tidyP (p : Pce) : Pce := { p with body := tidyF p.body }
def TidyC : Ctr where
 gh := 1
 pre us w := ∃ A c A' c', ∃ x : List PceD × List (List UInt8), us = [.p A, .n x.1.length, .n c, .p A', .n x.2.length, .n c', .g x] ∧ CodeM w A x.1 ∧ Strs w w.heap.size A' x.2 ∧ x.1.length ≤ maxLen ∧ (∀ d, d ∈ x.1 → d.p.body.length ≤ maxLen) ∧ x.2.length ≤ 8796093022207
 post us os := ∀ x : List PceD × List (List UInt8), us.getLast? = some (.g x) →
  (chkC (x.1.map (·.p)) x.2.length ≠ 0 → os = [.p none, .n 0, .n 0, .p none, .n 0, .n 0, .i (chkC (x.1.map (·.p)) x.2.length)]) ∧
  (chkC (x.1.map (·.p)) x.2.length = 0 → ∃ A c A' c', os = [.p A, .n x.1.length, .n c, .p A', .n x.2.length, .n c', .i 0])
 fact us os w := ∀ (x : List PceD × List (List UInt8)) A n c A' n' c' e, us.getLast? = some (.g x) → os = [.p A, .n n, .n c, .p A', .n n', .n c', .i e] → chkC (x.1.map (·.p)) x.2.length = 0 → (∃ ds, CodeM w A ds ∧ ds.map (·.p) = x.1.map fun d => tidyP d.p) ∧ Strs w w.heap.size A' x.2
theorem tidy_get {A A' : Option Addr} {n c n' c' : Nat} {ds : List PceD} {ns : List (List UInt8)} {w : World} (h : TidyC.pre [.p A, .n n, .n c, .p A', .n n', .n c', .g (ds, ns)] w) : CodeM w A ds ∧ Strs w w.heap.size A' ns := by
 obtain ⟨B, e, B', e', x, he, h1, h2, _⟩ := h; simp only [List.cons.injEq, U.p.injEq, U.n.injEq, and_true] at he; obtain ⟨rfl, _, _, rfl, _, _, hg⟩ := he; cases hg; exact ⟨h1, h2⟩
theorem CodeM.ld {w : World} {A : Option Addr} {ds : List PceD} (h : CodeM w A ds) {k : Nat} (hk : k < ds.length) : ¬ A.isNone = true ∧ LoadsAt w (A.map (·.add (k * 5))) ds[k].cells := by
 obtain ⟨g, o, rfl, _⟩ := h.1.2 (by omega); refine ⟨by simp, loadsR h.1 (by omega) fun j v hv => ?_⟩; have hj : j < 5 := lt_of_some hv; rw [flat5 ds hk j hj]; exact hv
open Classical in
noncomputable def gOf (v : List U) : List Ins := if h : ∃ b : List Ins, v.getLast? = some (.g b) then h.choose else []
theorem gOf_eq {v : List U} {b : List Ins} (h : v.getLast? = some (.g b)) : gOf v = b := by
 have hx : ∃ b : List Ins, v.getLast? = some (.g b) := ⟨b, h⟩
 unfold gOf; rw [dif_pos hx]; exact (g_inj' (h.symm.trans hx.choose_spec)).symm
noncomputable def mea10 (v : List U) : Nat := match v with
 | [_, _, _, .b true, _, _] => 1 + weight (gOf v)
 | _ => 0
theorem mea10_less {A A' : Option Addr} {n c n' c' : Nat} {t : Bool} {i i' : Int} {b b' : List Ins} (h : t = true → weight b' < weight b) : mea10 [.p A', .n n', .n c', .b t, .i i', .g b'] < mea10 [.p A, .n n, .n c, .b true, .i i, .g b] := by
 have e1 : mea10 [.p A, .n n, .n c, .b true, .i i, .g b] = 1 + weight b := by
  show 1 + weight (gOf _) = _; rw [gOf_eq (b := b) rfl]
 rw [e1]; cases t with
 | false => show 0 < _; omega
 | true =>
  have := h rfl; show 1 + weight (gOf _) < _; rw [gOf_eq (b := b') rfl]; omega
def bodyAt (ds : List PceD) (i : Int) : List Ins := (ds[i.toNat]?.map fun d => d.p.body).getD []
def I6 (ds : List PceD) (ns : List (List UInt8)) : Inv where
 inv v := ∃ (j : Nat) (xs : List Value) (A' : Option Addr) (c' : Nat), j ≤ ds.length ∧ v = [.n j, .l xs, .i j, .p A', .n ns.length, .n c']
 fact v w := ∀ j xs i A' n' c', v = [.n j, .l xs, .i i, .p A', .n n', .n c'] → (∃ es : List PceD, xs = es.flatMap PceD.cells ∧ es.map (·.p) = (ds.take j).map (fun d => tidyP d.p) ∧ ∀ d, d ∈ es → InsM w d.A d.p.body) ∧ Strs w w.heap.size A' ns
 mea v := match v with | [_, _, .i i, _, _, _] => ds.length - i.toNat | _ => 0
noncomputable def I10 (ds : List PceD) : Inv where
 inv v := ∃ (A : Option Addr) (c : Nat) (t : Bool) (i : Int) (b : List Ins), v = [.p A, .n b.length, .n c, .b t, .i i, .g b] ∧ (∃ nns loc, Good (ds.map (·.p)) nns loc b) ∧ b.length ≤ 2048 ∧ (∀ c, Tidied b c → Tidied (bodyAt ds i) c) ∧ (t = false → Fixed b)
 fact v w := ∀ A n c t i (b : List Ins), v = [.p A, .n n, .n c, .b t, .i i, .g b] → n = b.length → InsM w A b
 mea := mea10
theorem v6_inj {a b c d : U} {A A' : Option Addr} {n n' k k' : Nat} {t t' : Bool} {i i' : Int} {x y : List Ins} (h : [U.p A, .n n, .n k, .b t, .i i, .g x] = [.p A', .n n', .n k', .b t', .i i', .g y]) : A = A' ∧ n = n' ∧ k = k' ∧ t = t' ∧ i = i' ∧ x = y := by
 simp only [List.cons.injEq, U.p.injEq, U.n.injEq, U.b.injEq, U.i.injEq, and_true] at h; obtain ⟨h1, h2, h3, h4, h5, h6⟩ := h; exact ⟨h1, h2, h3, h4, h5, g_inj' (congrArg some h6)⟩
section
variable {P : List Ins → Prop} {f : List Ins → List Ins} {A A' B B' : Option Addr} {n c n' c' m d m' d' : Nat} {b x : List Ins} {t : Bool} {w : World}
theorem way_pre (h : InsM w A b) (hP : P b) : (WayC P f).pre [.p A, .n b.length, .n c, .g b] w := ⟨A, c, b, rfl, h, hP⟩
theorem way_post (h : (WayC P f).post [.p A, .n n, .n c, .g b] [.p A', .n n', .n c']) : n' = (f b).length := by
 obtain ⟨_, _, e⟩ := h b rfl; simp only [List.cons.injEq, U.p.injEq, U.n.injEq, and_true] at e; exact e.2.1
theorem way_fact (h : (WayC P f).fact [.p A, .n n, .n c, .g b] [.p A', .n (f b).length, .n c'] w) : InsM w A' (f b) := h b A' _ c' rfl rfl rfl
theorem eq_pre (h : InsM w A b) (g : InsM w B x) (h1 : b.length ≤ 2048) (h2 : x.length ≤ 2048) : EqualC.pre [.p A, .n b.length, .n c, .p B, .n x.length, .n d, .g b, .g x] w := ⟨A, c, B, d, b, x, rfl, h, g, h1, h2⟩
theorem eq_post (h : EqualC.post [.p A, .n n, .n c, .p B, .n m, .n d, .g b, .g x] [.b t]) : t = true ↔ b = x := by
 obtain ⟨t', e, h⟩ := h b x rfl; simp only [List.cons.injEq, U.b.injEq, and_true] at e; subst e; exact h
end
theorem last_0 {b : List Ins} (h : Fixed b) : threadL b = b := h.1
theorem last_1 {b : List Ins} (h : Fixed b) : dropL (threadL b) = threadL b := by rw [h.1]; exact h.2.1
theorem last_2 {b : List Ins} (h : Fixed b) : foldL (dropL (threadL b)) = dropL (threadL b) := by rw [h.1, h.2.1]; exact h.2.2.1
theorem last_3 {b : List Ins} (h : Fixed b) : settleL (foldL (dropL (threadL b))) = foldL (dropL (threadL b)) := by rw [h.1, h.2.1, h.2.2.1]; exact h.2.2.2.1
theorem last_4 {b : List Ins} (h : Fixed b) : loseL (settleL (foldL (dropL (threadL b)))) = settleL (foldL (dropL (threadL b))) := by rw [h.1, h.2.1, h.2.2.1, h.2.2.2.1]; exact h.2.2.2.2
theorem fixed_all {b : List Ins} (h0 : threadL b = b) (h1 : dropL (threadL b) = threadL b) (h2 : foldL (dropL (threadL b)) = dropL (threadL b)) (h3 : settleL (foldL (dropL (threadL b))) = foldL (dropL (threadL b))) (h4 : loseL (settleL (foldL (dropL (threadL b)))) = settleL (foldL (dropL (threadL b)))) : Fixed b := by
 rw [h3, h2, h1, h0] at h4; rw [h2, h1, h0] at h3; rw [h1, h0] at h2; rw [h0] at h1; exact ⟨h0, h1, h2, h3, h4⟩
theorem tidy_keeps : Keeps Try.prog 5 TidyC := by
 refine keeps_v Try.func5 cfg_tidy vce_tidy [.p, .n, .n, .p, .n, .n, .g] TidyC [(10, CheckC), (11, CloneS), (12, CloneI), (18, EqualC), (13, WayC (fun b => Within b ∧ b.length ≤ 2048) threadL), (14, WayC GoodP dropL), (15, WayC GoodP foldL), (16, WayC GoodP settleL), (17, WayC GoodP loseL)] ⟨check_keeps, clones_keeps, clonei_keeps, equal_keeps, thread_keeps, drop_keeps, fold_keeps, settle_keeps, lose_keeps, trivial⟩ (by kernel_rfl) (fun _ _ _ h hb => by
  obtain ⟨A, c, A', c', x, h1, h2, h3, h4⟩ := h; exact ⟨A, c, A', c', x, h1, h2.on hb, strs_on h3 hb, h4⟩) ?_
 intro x0 x1 x2 x3 x4 x5 α x6 w hp; have hp : TidyC.pre [.p x0, .n x1, .n x2, .p x3, .n x4, .n x5, .g x6] w := hp; obtain ⟨A, c, A', c', ⟨ds, ns⟩, he, hC, hS, hl, hbl, hnl⟩ := hp; simp only [List.cons.injEq, U.p.injEq, U.n.injEq, and_true] at he; obtain ⟨rfl, rfl, rfl, rfl, rfl, rfl, hg⟩ := he; cases hg; simp only at hC hS hl hbl hnl; refine ⟨[(6, I6 ds ns), (10, I10 ds)], vc_use ?Q ?h ?g⟩
 case h => intro O C s I b; conv => lhs; reduce
 dsimp only [std]; simp (maxSteps := 4000000) only [ctrOf, invOf, List.lookup, Nat.reduceBEq, Option.getD_some, Int.reduceOfNat, Int.reduceNegSucc]; refine ⟨List PceD × Nat, (ds, ns.length), fun w h => ⟨x0, x2, x3, x5, (ds, ns.length), rfl, (tidy_get h).1, hl, hbl⟩, fun e he => ?_⟩; have he := he (ds, ns.length) rfl; simp only [List.cons.injEq, U.i.injEq, and_true] at he; subst he; refine ⟨fun hne => ⟨fun x hx => ?_, fun w hw x A n c A' n' c' e hx ho h0 => ?_⟩, fun h0 => ⟨List (List UInt8), ns, fun w h => ⟨x3, x5, ns, rfl, (tidy_get h.1).2, hnl⟩, fun A1 n1 c1 hpo => ?_⟩⟩
 ·obtain rfl := g_inj' hx; exact ⟨fun _ => rfl, fun h => absurd h hne⟩
 ·obtain rfl := g_inj' hx; exact absurd h0 hne
 obtain ⟨A2, c2, e2⟩ := hpo ns rfl; simp only [List.cons.injEq, U.p.injEq, U.n.injEq, and_true] at e2; obtain ⟨rfl, rfl, rfl⟩ := e2; obtain ⟨hp32, hgd⟩ := good_of_chk h0; rw [List.length_map] at hp32; rw [h0]; refine ⟨⟨0, [], A1, c1, Nat.zero_le _, rfl⟩, fun w hw j xs i A' n' c' he => ?_, ?_⟩
 ·simp only [List.cons.injEq, U.p.injEq, U.n.injEq, U.l.injEq, U.i.injEq, and_true] at he; obtain ⟨rfl, rfl, rfl, rfl, rfl, rfl⟩ := he; exact ⟨⟨[], rfl, rfl, fun d hd => by cases hd⟩, hw.2 ns A1 _ c1 rfl rfl rfl⟩
 rintro j xs i A1' n1' c1' ⟨j', ys, A', c', hj, he⟩; simp only [List.cons.injEq, U.p.injEq, U.n.injEq, U.l.injEq, U.i.injEq, and_true] at he; obtain ⟨rfl, rfl, rfl, rfl, rfl, rfl⟩ := he; have mem6 : ∀ {w : World}, (I6 ds ns).fact [.n j, .l xs, .i (j : Int), .p A1', .n ns.length, .n c1'] w → (∃ es : List PceD, xs = es.flatMap PceD.cells ∧ es.map (·.p) = (ds.take j).map (fun d => tidyP d.p) ∧ ∀ d, d ∈ es → InsM w d.A d.p.body) ∧ Strs w w.heap.size A1' ns := fun h => h _ _ _ _ _ _ rfl
 refine ⟨fun hlt => ?_, fun hge A4 c4 => ⟨fun x hx => ?_, fun w hw x A n c A' n' c' e hx ho h0 => ?_⟩⟩
 ·have hlt : j < ds.length := by omega
  have ej : ((j : Int) + 1).toNat = j + 1 := by omega
  have hmem : ds[j].p ∈ ds.map (·.p) := List.mem_map.2 ⟨_, List.getElem_mem hlt, rfl⟩; obtain ⟨hG, hb2, _⟩ := hgd _ hmem; have hbody : bodyAt ds (j : Int) = ds[j].p.body := by
   unfold bodyAt; rw [Int.toNat_natCast, List.getElem?_eq_getElem hlt]; rfl
  rw [Int.toNat_natCast]; refine ⟨fun w h => ((tidy_get h.1.1.1).1.ld hlt).1, by omega, bs ds[j].p.name, ds[j].p.opn, ds[j].p.params, ds[j].p.locals, ds[j].A, ds[j].p.body.length, ds[j].c, fun w h => ((tidy_get h.1.1.1).1.ld hlt).2, List Ins, ds[j].p.body, fun w h => ⟨_, _, _, rfl, (tidy_get h.1.1.1).1.2 _ (List.getElem_mem hlt), hb2⟩, fun A5 n5 c5 hpo => ?_⟩; obtain ⟨A6, c6, e6⟩ := hpo ds[j].p.body rfl; simp only [List.cons.injEq, U.p.injEq, U.n.injEq, and_true] at e6; obtain ⟨rfl, rfl, rfl⟩ := e6; refine ⟨List Ins, ds[j].p.body, ⟨A5, c5, true, j, ds[j].p.body, rfl, ⟨_, _, hG⟩, hb2, fun c h => by rw [hbody]; exact h, fun h => by cases h⟩, fun w hw A n c t i b he hn => ?_, ?_⟩
  ·obtain ⟨rfl, rfl, rfl, rfl, rfl, rfl⟩ := v6_inj (a := .n 0) (b := .n 0) (c := .n 0) (d := .n 0) he; exact hw.2 _ A5 _ c5 rfl rfl rfl
  intro A7 n7 c7 t7 α7 b7 hv; obtain ⟨A8, c8, t8, i8, b, he, ⟨nns8, loc8, hG8⟩, hl8, hT8, hF8⟩ := hv; simp only [List.cons.injEq, U.p.injEq, U.n.injEq, U.b.injEq, U.i.injEq, and_true] at he; obtain ⟨rfl, rfl, rfl, rfl, rfl, hg⟩ := he; cases hg; have fact10 : ∀ {w : World} {A : Option Addr} {c : Nat} {t : Bool} {i : Int} {b : List Ins}, (I10 ds).fact [.p A, .n b.length, .n c, .b t, .i i, .g b] w → InsM w A b := fun h => h _ _ _ _ _ _ rfl rfl
  have mk10 : ∀ {w : World} {A : Option Addr} {c : Nat} {t : Bool} {i : Int} {b : List Ins}, InsM w A b → (I10 ds).fact [.p A, .n b.length, .n c, .b t, .i i, .g b] w := fun h A n c t i b he hn => by
   obtain ⟨rfl, rfl, rfl, rfl, rfl, rfl⟩ := v6_inj (a := .n 0) (b := .n 0) (c := .n 0) (d := .n 0) he; exact h
  refine ⟨fun ht => ?_, fun ht A9 c9 => ?_⟩
  ·subst ht; have g1 := thread_ok hG8; obtain ⟨g2, l2, _, _⟩ := drop_ok g1; obtain ⟨g3, l3, s3⟩ := edit_ok (f := foldAt) g2 l2 (fold_ok g2 l2); obtain ⟨g4, l4, s4⟩ := edit_ok (f := settleAt) g3 l3 (settle_ok g3 l3); obtain ⟨g5, l5, s5⟩ := edit_ok (f := loseAt) g4 l4 (lose_ok g4 l4); have k1 : (threadL b).length ≤ 2048 := by rw [thread_len]; exact hl8
   have k2 : (dropL (threadL b)).length ≤ 2048 := by rcases (drop_ok g1).2.2.1 with s | s; rw [s]; exact k1; omega
   have k3 : (foldL (dropL (threadL b))).length ≤ 2048 := by rcases s3 with s | s; (show (editL foldAt _).length ≤ _); rw [s]; exact k2; (show (editL foldAt _).length ≤ _); omega
   have k4 : (settleL (foldL (dropL (threadL b)))).length ≤ 2048 := by rcases s4 with s | s; (show (editL settleAt (editL foldAt _)).length ≤ _); rw [s]; exact k3; (show (editL settleAt (editL foldAt _)).length ≤ _); have : (editL foldAt (dropL (threadL b))).length ≤ 2048 := k3; omega
   have k5 : (roundL b).length ≤ 2048 := Nat.le_trans (round_ok hG8).2 hl8; have p1 : GoodP (threadL b) := ⟨_, _, _, g1, k1⟩
   have p2 : GoodP (dropL (threadL b)) := ⟨_, _, _, g2, k2⟩
   have p3 : GoodP (foldL (dropL (threadL b))) := ⟨_, _, _, g3, k3⟩
   have p4 : GoodP (settleL (foldL (dropL (threadL b)))) := ⟨_, _, _, g4, k4⟩
   have leaf : ∀ (A : Option Addr) (c : Nat) (t : Bool), (t = false → Fixed b) → (I10 ds).inv [.p A, .n (roundL b).length, .n c, .b t, .i (j : Int), .g (roundL b)] := fun A c t ht => ⟨A, c, t, j, roundL b, rfl, ⟨_, _, (round_ok hG8).1⟩, k5, fun c h => hT8 c (.more h), fun h => by rw [(ht h).round]; exact ht h⟩
   have less : ∀ {A A' : Option Addr} {n c n' c' : Nat} {t : Bool} {i i' : Int}, (t = true → ¬ Fixed b) → (I10 ds).mea [.p A', .n n', .n c', .b t, .i i', .g (roundL b)] < (I10 ds).mea [.p A, .n n, .n c, .b true, .i i, .g b] := fun h => mea10_less fun ht => (round_less hG8).resolve_left (h ht)
   have p0 : Within b ∧ b.length ≤ 2048 := ⟨hG8.within, hl8⟩
   have k0 := hl8; refine ⟨List Ins, b, fun w h => way_pre (fact10 h.2) p0, fun A10 n10 c10 hpo => ?_⟩; obtain rfl := way_post hpo; refine ⟨List Ins, threadL b, List Ins, b, fun w h => eq_pre (way_fact h.2) (fact10 h.1.2) k1 k0, fun y0 hy => ?_⟩; have q0 := eq_post hy; refine ⟨by decide, List Ins, threadL b, fun w h => way_pre (way_fact h.1.2) p1, fun A11 n11 c11 hpo => ?_⟩; obtain rfl := way_post hpo; refine ⟨fun hx0 => ?_, fun hx0 => ?_⟩
   ·have hnf : ¬ Fixed b := fun hF => hx0 (q0.2 (last_0 hF))
    refine ⟨by decide, List Ins, dropL (threadL b), fun w h => way_pre (way_fact h.2) p2, fun A12 n12 c12 hpo => ?_⟩; obtain rfl := way_post hpo; refine ⟨by decide, List Ins, foldL (dropL (threadL b)), fun w h => way_pre (way_fact h.2) p3, fun A13 n13 c13 hpo => ?_⟩; obtain rfl := way_post hpo; refine ⟨by decide, List Ins, settleL (foldL (dropL (threadL b))), fun w h => way_pre (way_fact h.2) p4, fun A14 n14 c14 hpo => ?_⟩; obtain rfl := way_post hpo; exact ⟨by decide, List Ins, roundL b, leaf _ _ _ (fun h => by cases h), fun w h => mk10 (way_fact h.2), less (fun _ => hnf), trivial⟩
   refine ⟨List Ins, dropL (threadL b), List Ins, threadL b, fun w h => eq_pre (way_fact h.2) (way_fact h.1.1.2) k2 k1, fun y1 hy => ?_⟩; have q1 := eq_post hy; refine ⟨by decide, List Ins, dropL (threadL b), fun w h => way_pre (way_fact h.1.2) p2, fun A12 n12 c12 hpo => ?_⟩; obtain rfl := way_post hpo; refine ⟨fun hx1 => ?_, fun hx1 => ?_⟩
   ·have hnf : ¬ Fixed b := fun hF => hx1 (q1.2 (last_1 hF))
    refine ⟨by decide, List Ins, foldL (dropL (threadL b)), fun w h => way_pre (way_fact h.2) p3, fun A13 n13 c13 hpo => ?_⟩; obtain rfl := way_post hpo; refine ⟨by decide, List Ins, settleL (foldL (dropL (threadL b))), fun w h => way_pre (way_fact h.2) p4, fun A14 n14 c14 hpo => ?_⟩; obtain rfl := way_post hpo; exact ⟨by decide, List Ins, roundL b, leaf _ _ _ (fun h => by cases h), fun w h => mk10 (way_fact h.2), less (fun _ => hnf), trivial⟩
   refine ⟨List Ins, foldL (dropL (threadL b)), List Ins, dropL (threadL b), fun w h => eq_pre (way_fact h.2) (way_fact h.1.1.2) k3 k2, fun y2 hy => ?_⟩; have q2 := eq_post hy; refine ⟨by decide, List Ins, foldL (dropL (threadL b)), fun w h => way_pre (way_fact h.1.2) p3, fun A13 n13 c13 hpo => ?_⟩; obtain rfl := way_post hpo; refine ⟨fun hx2 => ?_, fun hx2 => ?_⟩
   ·have hnf : ¬ Fixed b := fun hF => hx2 (q2.2 (last_2 hF))
    refine ⟨by decide, List Ins, settleL (foldL (dropL (threadL b))), fun w h => way_pre (way_fact h.2) p4, fun A14 n14 c14 hpo => ?_⟩; obtain rfl := way_post hpo; exact ⟨by decide, List Ins, roundL b, leaf _ _ _ (fun h => by cases h), fun w h => mk10 (way_fact h.2), less (fun _ => hnf), trivial⟩
   refine ⟨List Ins, settleL (foldL (dropL (threadL b))), List Ins, foldL (dropL (threadL b)), fun w h => eq_pre (way_fact h.2) (way_fact h.1.1.2) k4 k3, fun y3 hy => ?_⟩; have q3 := eq_post hy; refine ⟨by decide, List Ins, settleL (foldL (dropL (threadL b))), fun w h => way_pre (way_fact h.1.2) p4, fun A14 n14 c14 hpo => ?_⟩; obtain rfl := way_post hpo; refine ⟨fun hx3 => ?_, fun hx3 => ?_⟩
   ·have hnf : ¬ Fixed b := fun hF => hx3 (q3.2 (last_3 hF))
    exact ⟨by decide, List Ins, roundL b, leaf _ _ _ (fun h => by cases h), fun w h => mk10 (way_fact h.2), less (fun _ => hnf), trivial⟩
   refine ⟨List Ins, loseL (settleL (foldL (dropL (threadL b)))), List Ins, settleL (foldL (dropL (threadL b))), fun w h => eq_pre (way_fact h.2) (way_fact h.1.1.2) k5 k4, fun y4 hy => ?_⟩; have q4 := eq_post hy; refine ⟨by decide, List Ins, roundL b, leaf _ _ _ (fun h => ?_), fun w h => mk10 (way_fact h.1.2), less (fun h hF => ?_), trivial⟩
   ·exact fixed_all (q0.1 hx0) (q1.1 hx1) (q2.1 hx2) (q3.1 hx3) (q4.1 (by simpa using h))
   ·rw [q4.2 (last_4 hF)] at h; cases h
  ·have hf := hF8 (by simpa using ht); have eb : tidyF ds[j].p.body = b := tidyF_of (by rw [← hbody]; exact hT8 b (.done hf)); refine ⟨by omega, by omega, by omega, ⟨j + 1, _, A1', c1', by omega, rfl⟩, fun w hw j' xs' i' A'' n'' c'' he => ?_, ?_, trivial⟩
   ·simp only [List.cons.injEq, U.p.injEq, U.n.injEq, U.l.injEq, U.i.injEq, and_true] at he; obtain ⟨rfl, rfl, rfl, rfl, rfl, rfl⟩ := he; obtain ⟨⟨es, hx, hes, hm⟩, hs⟩ := mem6 hw.1.1.2; refine ⟨⟨es ++ [⟨tidyP ds[j].p, A7, c7⟩], ?_, ?_, fun d hd => ?_⟩, hs⟩
    ·rw [List.flatMap_append, hx, ← eb]; rfl
    ·rw [List.map_append, hes, List.take_add_one, List.map_append, List.getElem?_eq_getElem hlt]; rfl
    ·rcases List.mem_append.1 hd with hd | hd
     ·exact hm d hd
     ·rw [List.mem_singleton] at hd; subst hd; show InsM w A7 (tidyF ds[j].p.body); rw [eb]; exact fact10 hw.2
   ·show ds.length - ((j : Int) + 1).toNat < ds.length - (j : Int).toNat; omega
 ·obtain rfl := g_inj' hx; have ej : j = ds.length := by omega
  exact ⟨fun h => absurd h0 h, fun _ => ⟨A4, c4, A1', c1', by rw [← ej]⟩⟩
 ·obtain rfl := g_inj' hx; simp only [List.cons.injEq, U.p.injEq, U.n.injEq, U.i.injEq, and_true] at ho; obtain ⟨rfl, rfl, rfl, rfl, rfl, rfl, rfl⟩ := ho; obtain ⟨⟨es, hxs, hes, hm⟩, hs⟩ := mem6 hw.1.2; have ej : j = ds.length := by omega
  have hle : es.length = j := by
   have := congrArg List.length hes; simp only [List.length_map, List.length_take] at this; omega
  refine ⟨⟨es, ⟨?_, hm⟩, by rw [hes, ej, List.take_length]⟩, hs⟩; have := Rd.of_own hw.2; rw [hxs] at this; rw [hle]; exact this
end Go.Proofs.Ytgjbcahpgkchfaa
namespace Go.Proofs.Ytgjbcahpgkchfaa
open Go Go.RowKit Vc
set_option maxRecDepth 100000
theorem plain_of {ps : List Pce} {nns : Nat} {loc : Int} {b : List Ins} {hs : List Int} (hg : Good ps nns loc b) (hF : Fixed b) (hl : b.length ≤ 2048) (hn : hs.length = b.length) (hT : Typ ps b (heldH hs)) : Plain b hs := by
 obtain ⟨f1, f2, f3, f4, f5⟩ := hF; obtain ⟨g2, l2, _, hall⟩ := drop_ok hg; rw [f2] at g2 l2; have hall := hall f2; have n3 := edit_none (fold_ok hg l2) f3; have n4 := edit_none (settle_ok hg l2) f4; have n5 := edit_none (lose_ok hg l2) f5; refine ⟨hn, fun k h hk => ?_, hg.within, hl, fun x hx h1 => fitL_push (hg.fit x hx) h1, fun k x hx h14 ha => ?_, fun x hx hj hJ => (thread_fix hg.within f1 hx hj).resolve_left (fun h => h hJ), fun k x y hx hy ha => ?_, fun k x y z hx hy hz ha1 ha2 h1 h2 => ?_⟩
 ·have hkl : k < b.length := by rw [← hn]; exact lt_of_some hk
  obtain ⟨g, hg'⟩ := hT.way (hall k hkl); unfold heldH at hg'; rw [hk] at hg'; simp only at hg'; split at hg'
  ·cases hg'
  ·omega
 ·have := n5 k (lt_of_some hx); unfold loseAt at this; rw [hx] at this; simp only at this; rw [if_pos ⟨h14, ha⟩] at this; cases this
 ·rintro (⟨h, h2⟩ | ⟨h, h2 | h2⟩)
  ·have := n5 k (lt_of_some hx); unfold loseAt at this; rw [hx, hy] at this; simp only at this; rw [if_neg (fun e => by have := e.1; omega), if_pos ⟨by unfold idleB; simpa using h, h2, ha⟩] at this; cases this
  ·have := n3 k (lt_of_some hx); unfold foldAt at this; rw [hx, hy] at this; simp only at this; rw [if_pos ⟨h, ha⟩, if_pos h2] at this; cases this
  ·have := n4 k (lt_of_some hx); unfold settleAt at this; rw [hx, hy] at this; simp only at this; rw [if_pos ⟨h, h2, ha⟩] at this; split at this <;> cases this
 ·have := n3 k (lt_of_some hx); unfold foldAt at this; rw [hx, hy] at this; simp only at this; rw [if_pos ⟨h1, ha1⟩, if_neg (show ¬ y.op = 13 by omega), if_pos ⟨h2, ha2⟩, hz] at this; simpa using this
theorem takes_map {ps qs : List Pce} (h : qs.map (·.params) = ps.map (·.params)) (x : Ins) : takesS qs x = takesS ps x := by
 have e : (qs[x.a.toNat]?).map (·.params) = (ps[x.a.toNat]?).map (·.params) := by
  rw [← List.getElem?_map, ← List.getElem?_map, h]
 unfold takesS; split
 ·cases h1 : qs[x.a.toNat]? <;> cases h2 : ps[x.a.toNat]? <;> rw [h1, h2] at e <;> simp at e ⊢
  exact e
 ·rfl
theorem typ_map {ps qs : List Pce} (h : qs.map (·.params) = ps.map (·.params)) {b : List Ins} {H : Nat → Option Int} (hT : Typ ps b H) : Typ qs b H := by
 refine ⟨hT.1, fun i g e => ?_⟩; obtain ⟨x, h1, h2, h3⟩ := hT.2 i g e; unfold mayS outS at *; rw [← takes_map h] at h2 h3; exact ⟨x, h1, h2, h3⟩
theorem good_map {ps qs : List Pce} (h : qs.map (·.params) = ps.map (·.params)) {nns : Nat} {loc : Int} {b : List Ins} (hg : Good ps nns loc b) : Good qs nns loc b := by
 have hl : qs.length = ps.length := by have := congrArg List.length h; simpa using this
 obtain ⟨H, hT⟩ := hg.flow; exact ⟨by rw [hl]; exact hg.fit, H, typ_map h hT⟩
theorem chk_of {ps : List Pce} {nns : Nat} (h32 : ps.length ≤ 32) (h : ∀ p, p ∈ ps → Good ps nns p.locals p.body ∧ p.body.length ≤ 2048 ∧ p.locals ≤ 32 ∧ p.params ≤ 8 ∧ 0 ≤ p.params ∧ p.params ≤ p.locals) : chkC ps nns = 0 := by
 unfold chkC chkS; rw [if_neg (by omega), if_neg, if_neg, if_pos]
 ·exact List.all_eq_true.2 fun p hp => (flC_ok ps p).2 (h p hp).1.flow
 ·intro e; obtain ⟨p, hp, hb⟩ := List.any_eq_true.1 e; obtain ⟨hg, _, _, _, a, b⟩ := h p hp; unfold badB at hb; rw [decide_eq_false (by omega), decide_eq_false (by omega), show p.body.all (fitS ps.length nns p) = true from List.all_eq_true.2 fun x hx => hg.fit x hx] at hb; cases hb
 ·intro e; obtain ⟨p, hp, hb⟩ := List.any_eq_true.1 e; obtain ⟨_, a, b, c, _⟩ := h p hp; unfold bigB at hb; rw [decide_eq_false (by omega), decide_eq_false (by omega), decide_eq_false (by omega)] at hb; cases hb
structure TidyOk (ps : List Pce) (nns : Nat) : Prop where
 chk : chkC (ps.map tidyP) nns = 0
 same : (ps.map tidyP).map tidyP = ps.map tidyP
 piece : ∀ q, q ∈ ps.map tidyP → Good (ps.map tidyP) nns q.locals q.body ∧ Fixed q.body ∧ q.body.length ≤ 2048 ∧ q.locals ≤ 32 ∧ 0 ≤ q.params ∧ q.params ≤ 8 ∧ q.params ≤ q.locals
theorem tidy_ok {ps : List Pce} {nns : Nat} (h : chkC ps nns = 0) : ps.length ≤ 32 ∧ TidyOk ps nns := by
 obtain ⟨h32, hgd⟩ := good_of_chk h; have hm : (ps.map tidyP).map (·.params) = ps.map (·.params) := by
  rw [List.map_map]; rfl
 have hp : ∀ q, q ∈ ps.map tidyP → Good (ps.map tidyP) nns q.locals q.body ∧ Fixed q.body ∧ q.body.length ≤ 2048 ∧ q.locals ≤ 32 ∧ 0 ≤ q.params ∧ q.params ≤ 8 ∧ q.params ≤ q.locals := fun q hq => by
  obtain ⟨p, hp, rfl⟩ := List.mem_map.1 hq; obtain ⟨g, a, b, c, d, e⟩ := hgd p hp; obtain ⟨g1, g2, g3⟩ := (tidyF_ok g).good g; exact ⟨good_map hm g1, g3, Nat.le_trans g2 a, b, d, c, e⟩
 refine ⟨h32, chk_of (by rw [List.length_map]; exact h32) fun q hq => ?_, ?_, hp⟩
 ·obtain ⟨a, _, b, c, d, e, f⟩ := hp q hq; exact ⟨a, b, c, e, d, f⟩
 ·rw [List.map_map]; refine List.map_congr_left fun p hp' => ?_
  obtain ⟨_, hF, _⟩ := hp (tidyP p) (List.mem_map.2 ⟨p, hp', rfl⟩); show ({ tidyP p with body := tidyF (tidyF p.body) } : Pce) = tidyP p; rw [tidyF_of (.done (show Fixed (tidyF p.body) from hF))]; rfl
theorem drop_all {b : List Ins} (h : ∀ k, k < b.length → Way b k) (hw : Within b) : dropL b = b := by
 have : goneL b = List.replicate b.length false := by
  apply List.ext_getElem?; intro k
  rcases Nat.lt_or_ge k b.length with hk | hk
  ·rw [goneL_no hk (h k hk), List.getElem?_replicate, if_pos hk]
  ·rw [List.getElem?_eq_none (by rw [goneL_len]; exact hk), List.getElem?_eq_none (by simpa using hk)]
 unfold dropL; rw [this]; exact without_none b fun x hx hj => by have := hw x hx hj; omega
def liveB : List Ins := [⟨1, 2, 0⟩, ⟨1, 3, 0⟩, ⟨5, 0, 0⟩, ⟨17, 0, 0⟩]
def liveC : List Ins := [⟨1, 5, 0⟩, ⟨17, 0, 0⟩]
def liveP : Pce := ⟨[], false, 0, 0, liveB⟩
theorem live_chk : chkC [liveP] 0 = 0 := by
 refine chk_of (by simp) fun p hp => ?_
 rw [List.mem_singleton] at hp; subst hp; refine ⟨⟨fun x hx => ?_, fun k => match k with | 0 => some 0 | 1 => some 1 | 2 => some 2 | 3 => some 1 | _ => none, rfl, fun i g e => ?_⟩, by decide, by decide, by decide, by decide, by decide⟩
 ·have hx : x ∈ liveB := hx; simp only [liveB, List.mem_cons, List.not_mem_nil, or_false] at hx
  rcases hx with rfl | rfl | rfl | rfl <;> rfl
 ·have nx : ∀ {k j : Nat} {x : Ins}, x.op ≠ 14 → x.op ≠ 15 → j ∈ nextS k x → j = k + 1 := fun h1 h2 hj => by
   rcases mem_next.1 hj with ⟨h, _⟩ | ⟨_, _, h⟩
   ·rcases jmpB_iff.1 h with h | h
    ·exact absurd h h1
    ·exact absurd h h2
   ·exact h
  match i, e with
  | 0, e => cases e; exact ⟨_, rfl, by unfold mayS; decide, fun j hj => by rw [nx (by decide) (by decide) hj]; rfl⟩
  | 1, e => cases e; exact ⟨_, rfl, by unfold mayS; decide, fun j hj => by rw [nx (by decide) (by decide) hj]; rfl⟩
  | 2, e => cases e; exact ⟨_, rfl, by unfold mayS; decide, fun j hj => by rw [nx (by decide) (by decide) hj]; rfl⟩
  | 3, e => cases e; exact ⟨_, rfl, by unfold mayS; decide, fun j hj => by simp [nextS] at hj⟩
  | k + 4, e => cases e
theorem way_next {b : List Ins} {k : Nat} {x : Ins} (h : Way b k) (hx : b[k]? = some x) (h1 : x.op ≠ 14) (h2 : x.op ≠ 17) : Way b (k + 1) := .step h hx (mem_next.2 (.inr ⟨h1, h2, rfl⟩))
theorem live_tidy : tidyF liveB = liveC := by
 have w0 : Way liveB 0 := .start; have w1 := way_next w0 (x := ⟨1, 2, 0⟩) rfl (by decide) (by decide); have w2 := way_next w1 (x := ⟨1, 3, 0⟩) rfl (by decide) (by decide); have w3 := way_next w2 (x := ⟨5, 0, 0⟩) rfl (by decide) (by decide); have v0 : Way liveC 0 := .start; have v1 := way_next v0 (x := ⟨1, 5, 0⟩) rfl (by decide) (by decide); have hB : ∀ k, k < liveB.length → Way liveB k := fun k hk => match k, hk with
  | 0, _ => w0 | 1, _ => w1 | 2, _ => w2 | 3, _ => w3
 have hC : ∀ k, k < liveC.length → Way liveC k := fun k hk => match k, hk with
  | 0, _ => v0 | 1, _ => v1
 have jB : Within liveB := fun x hx hj => by
  simp only [liveB, List.mem_cons, List.not_mem_nil, or_false] at hx
  rcases hx with rfl | rfl | rfl | rfl <;> cases hj
 have jC : Within liveC := fun x hx hj => by
  simp only [liveC, List.mem_cons, List.not_mem_nil, or_false] at hx
  rcases hx with rfl | rfl <;> cases hj
 have hr : roundL liveB = liveC := by
  unfold roundL; rw [show threadL liveB = liveB from rfl, drop_all hB jB]; rfl
 refine tidyF_of (.more ?_); rw [hr]; exact .done ⟨rfl, drop_all hC jC, rfl, rfl, rfl⟩
def cfg_same : Cfg := { own := 1, loops := [(4, { slots := [5] }), (9, { slots := [6] }), (16, { slots := [9] })] }
def vcd_same : { v : VC // vcOfP Try.prog cfg_same [(6, [1000011]), (18, [1000011])] 7 = v } := by refine ⟨?v, ?h⟩; rotate_left; conv => lhs; reduce
theorem vce_same : vcOf Try.prog cfg_same 7 = vcd_same.1 := by kernel_rfl
def SameC : Ctr where
 gh := 1
 pre us w := ∃ A c A' c' B d B' d', ∃ x : List PceD × List PceD × List (List UInt8), us = [.p A, .n x.1.length, .n c, .p A', .n x.2.2.length, .n c', .p B, .n x.2.1.length, .n d, .p B', .n x.2.2.length, .n d', .g x] ∧ CodeM w A x.1 ∧ Strs w w.heap.size A' x.2.2 ∧ CodeM w B x.2.1 ∧ Strs w w.heap.size B' x.2.2 ∧ x.1.map (·.p) = x.2.1.map (·.p) ∧ (∀ d, d ∈ x.1 → d.p.body.length ≤ 2048) ∧ x.1.length ≤ maxLen ∧ x.2.2.length ≤ maxLen
 post _ os := os = [.b true]
 fact _ _ _ := True
theorem same_get {A A' B B' : Option Addr} {n c n' c' m d m' d' : Nat} {ds es : List PceD} {ns : List (List UInt8)} {w : World} (h : SameC.pre [.p A, .n n, .n c, .p A', .n n', .n c', .p B, .n m, .n d, .p B', .n m', .n d', .g (ds, es, ns)] w) : CodeM w A ds ∧ Strs w w.heap.size A' ns ∧ CodeM w B es ∧ Strs w w.heap.size B' ns := by
 obtain ⟨_, _, _, _, _, _, _, _, x, he, h1, h2, h3, h4, _⟩ := h; simp only [List.cons.injEq, U.p.injEq, U.n.injEq, and_true] at he; obtain ⟨rfl, _, _, rfl, _, _, rfl, _, _, rfl, _, _, hg⟩ := he; cases hg; exact ⟨h1, h2, h3, h4⟩
theorem strs_ld {w : World} {A : Option Addr} {ns : List (List UInt8)} (h : Strs w w.heap.size A ns) {k : Nat} (hk : k < ns.length) : ¬ A.isNone = true ∧ LoadsAt w (A.map (·.add k)) [.string (bs ns[k])] := by
 have hA : ¬ A.isNone = true := by
  obtain ⟨b, off, rfl, _⟩ := h.at_ hk; simp
 refine ⟨hA, loadsR h (by omega) fun j v hv => ?_⟩
 match j, hv with
 | 0, hv =>
  injection hv with hv
  rw [← hv, Nat.add_zero, List.getElem?_map, List.getElem?_eq_getElem hk]; rfl
theorem same_keeps : Keeps Try.prog 7 SameC := by
 refine keeps_v Try.func7 cfg_same vce_same [.p, .n, .n, .p, .n, .n, .p, .n, .n, .p, .n, .n, .g] SameC [] trivial (by kernel_rfl) (fun _ _ _ h hb => by
  obtain ⟨A, c, A', c', B, d, B', d', x, h1, h2, h3, h4, h5, h6⟩ := h; exact ⟨A, c, A', c', B, d, B', d', x, h1, h2.on hb, strs_on h3 hb, h4.on hb, strs_on h5 hb, h6⟩) ?_
 intro x0 x1 x2 x3 x4 x5 x6 x7 x8 x9 x10 x11 α x12 w hp; have hp : SameC.pre [.p x0, .n x1, .n x2, .p x3, .n x4, .n x5, .p x6, .n x7, .n x8, .p x9, .n x10, .n x11, .g x12] w := hp; obtain ⟨A, c, A', c', B, d, B', d', ⟨ds, es, ns⟩, he, _, _, _, _, hm, hbl, hl, hnl⟩ := hp; simp only [List.cons.injEq, U.p.injEq, U.n.injEq, and_true] at he; obtain ⟨rfl, rfl, rfl, rfl, rfl, rfl, rfl, rfl, rfl, rfl, rfl, rfl, hg⟩ := he; cases hg; simp only at hm hbl hl hnl; unfold maxLen at hl hnl; have hle : es.length = ds.length := by have := congrArg List.length hm; simpa using this.symm
 have hpe : ∀ k (h1 : k < ds.length) (h2 : k < es.length), es[k].p = ds[k].p := fun k h1 h2 => by
  have := congrArg (fun l => l[k]?) hm; simp only [List.getElem?_map, List.getElem?_eq_getElem h1, List.getElem?_eq_getElem h2, Option.map_some, Option.some.injEq] at this; exact this.symm
 refine ⟨[(4, { inv := fun v => ∃ j : Nat, j ≤ ns.length ∧ v = [.i j], mea := fun v => match v with | [.i i] => ns.length - i.toNat | _ => 0 }), (9, { inv := fun v => ∃ j : Nat, j ≤ ds.length ∧ v = [.i j], mea := fun v => match v with | [.i i] => ds.length - i.toNat | _ => 0 }), (16, { inv := fun v => ∃ j : Nat, v = [.i j], mea := fun v => match v with | [.i i] => 2048 - i.toNat | _ => 0 })], vc_use ?Q ?h ?g⟩
 case h => intro O C s I b; conv => lhs; reduce
 dsimp only [std]; simp only [ctrOf, invOf, List.lookup, Nat.reduceBEq, Option.getD_some, Int.reduceOfNat, Int.reduceNegSucc]; refine ⟨fun h => (h.elim (fun h => h (by rw [hle])) (fun h => h trivial)).elim, fun _ => ⟨⟨0, Nat.zero_le _, rfl⟩, fun _ _ => trivial, ?_⟩⟩; rintro i ⟨j, hj, he⟩; simp only [List.cons.injEq, U.i.injEq, and_true] at he; subst he; have e2 : ((j : Int) + 1).toNat = j + 1 := by omega
 simp only [e2, Int.toNat_natCast]; refine ⟨fun hlt => ?_, fun _ => ⟨⟨0, Nat.zero_le _, rfl⟩, fun _ _ => trivial, ?_⟩⟩
 ·have hlt : j < ns.length := by omega
  exact ⟨fun w h => (strs_ld (same_get h.1).2.1 hlt).1, by omega, bs ns[j], fun w h => (strs_ld (same_get h.1).2.1 hlt).2, fun w h => (strs_ld (same_get h.1).2.2.2 hlt).1, by omega, bs ns[j], fun w h => (strs_ld (same_get h.1).2.2.2 hlt).2, fun h => absurd (beq_self_eq_true _) h, fun _ => ⟨by omega, ⟨j + 1, hlt, rfl⟩, fun _ _ => trivial, by omega, trivial⟩⟩
 rintro i ⟨j, hj, he⟩; simp only [List.cons.injEq, U.i.injEq, and_true] at he; subst he; have e2 : ((j : Int) + 1).toNat = j + 1 := by omega
 simp only [e2, Int.toNat_natCast]; refine ⟨fun hlt => ?_, fun _ => ⟨rfl, fun _ _ => trivial⟩⟩; have hlt : j < ds.length := by omega
 have hlt' : j < es.length := by omega
 have hp := hpe j hlt hlt'; have hb := hbl _ (List.getElem_mem hlt); refine ⟨fun w h => ((same_get h.1.1).1.ld hlt).1, by omega, _, _, _, _, _, _, _, fun w h => ((same_get h.1.1).1.ld hlt).2, fun w h => ((same_get h.1.1).2.2.1.ld hlt').1, by omega, _, _, _, _, _, _, _, fun w h => ((same_get h.1.1).2.2.1.ld hlt').2, fun h => ?_, fun _ => ⟨⟨0, rfl⟩, fun _ _ => trivial, ?_⟩⟩
 ·exfalso; rw [hp] at h; simp at h
 rintro i ⟨k, he⟩; simp only [List.cons.injEq, U.i.injEq, and_true] at he; subst he; have e3 : ((k : Int) + 1).toNat = k + 1 := by omega
 simp only [e3, Int.toNat_natCast]; have hbe : es[j].p.body = ds[j].p.body := by rw [hp]
 refine ⟨fun hk => ?_, fun _ => ⟨by omega, ⟨j + 1, hlt, rfl⟩, fun _ _ => trivial, by omega, trivial⟩⟩; have hk : k < ds[j].p.body.length := by omega
 have hI := fun (w : World) (h : CodeM w x0 ds) => h.2 _ (List.getElem_mem hlt)
 have hI' := fun (w : World) (h : CodeM w x6 es) => h.2 _ (List.getElem_mem hlt')
 rw [hbe] at hI'; exact ⟨fun w h => (hI w (same_get h.1.1.1).1).nn hk, by omega, _, _, _, fun w h => (hI w (same_get h.1.1.1).1).ld hk, fun w h => (hI' w (same_get h.1.1.1).2.2.1).nn hk, by rw [hbe]; omega, _, _, _, fun w h => (hI' w (same_get h.1.1.1).2.2.1).ld hk, fun h => absurd ⟨rfl, rfl, rfl⟩ h, fun _ => ⟨by omega, ⟨k + 1, rfl⟩, fun _ _ => trivial, by omega, trivial⟩⟩
def TidyE (ds : List PceD) (ns : List (List UInt8)) (w : World) (e : Ending) (w' : World) : Prop :=
 Below w.heap.size w w' ∧ (chkC (ds.map (·.p)) ns.length ≠ 0 → e = .returned (.tuple #[codV none 0 0 none 0 0, .int .i64 (chkC (ds.map (·.p)) ns.length)])) ∧
 (chkC (ds.map (·.p)) ns.length = 0 → ∃ A c A' c', ∃ es : List PceD, e = .returned (.tuple #[codV A es.length c A' ns.length c', .int .i64 0]) ∧ CodeM w' A es ∧ es.map (·.p) = (ds.map (·.p)).map tidyP ∧ Strs w' w'.heap.size A' ns)
theorem tidy_any {A A' : Option Addr} {c c' : Nat} {ds : List PceD} {ns : List (List UInt8)} {w : World} (hC : CodeM w A ds) (hS : Strs w w.heap.size A' ns) (hl : ds.length ≤ maxLen) (hb : ∀ d, d ∈ ds → d.p.body.length ≤ maxLen) (hn' : ns.length ≤ 8796093022207) :
  Calls Try.prog 5 #[codV A ds.length c A' ns.length c'] w (TidyE ds ns w) := by
 have hpre : ∀ {u : World}, CodeM u A ds → Strs u u.heap.size A' ns → TidyC.pre [.p A, .n ds.length, .n c, .p A', .n ns.length, .n c', .g (ds, ns)] u := fun h g => ⟨A, c, A', c', (ds, ns), rfl, h, g, hl, hb, hn'⟩
 refine (tidy_keeps _ [.agg [.slc, .slc]] [.agg [.slc, .slc], .one (.int .i64)] Try.func5 (by kernel_rfl) (by kernel_rfl) [.p A, .n ds.length, .n c, .p A', .n ns.length, .n c', .g (ds, ns)] w rfl (hpre hC hS)).mono ?_; rintro e w' ⟨os, ho, rfl, hpo, hf, hbl⟩; obtain ⟨h1, h2⟩ := hpo (ds, ns) rfl; refine ⟨hbl, fun h => ?_, fun h => ?_⟩
 ·rw [h1 h]; rfl
 ·obtain ⟨B, d, B', d', rfl⟩ := h2 h; obtain ⟨⟨es, he, hm⟩, hs⟩ := hf w' (fun _ _ _ => rfl) (hpre (hC.on hbl) (strs_on hS hbl)) (ds, ns) _ _ _ _ _ _ _ rfl rfl h; have hel : es.length = ds.length := by have := congrArg List.length hm; simpa using this
  refine ⟨B, d, B', d', es, ?_, he, by rw [hm, List.map_map]; rfl, hs⟩; rw [hel]; rfl
theorem same_any {A A' B B' : Option Addr} {c c' d d' : Nat} {ds es : List PceD} {ns : List (List UInt8)} {w : World} (hC : CodeM w A ds) (hS : Strs w w.heap.size A' ns) (hD : CodeM w B es) (hT : Strs w w.heap.size B' ns) (hm : ds.map (·.p) = es.map (·.p)) (hb : ∀ d, d ∈ ds → d.p.body.length ≤ 2048) (hl : ds.length ≤ maxLen) (hn : ns.length ≤ maxLen) :
  Calls Try.prog 7 #[codV A ds.length c A' ns.length c', codV B es.length d B' ns.length d'] w fun e w' => e = .returned (.bool true) ∧ Below w.heap.size w w' := by
 refine (same_keeps _ [.agg [.slc, .slc], .agg [.slc, .slc]] [.one .bool] Try.func7 (by kernel_rfl) (by kernel_rfl) [.p A, .n ds.length, .n c, .p A', .n ns.length, .n c', .p B, .n es.length, .n d, .p B', .n ns.length, .n d', .g (ds, es, ns)] w rfl ⟨A, c, A', c', B, d, B', d', (ds, es, ns), rfl, hC, hS, hD, hT, hm, hb, hl, hn⟩).mono ?_; rintro e w' ⟨os, ho, rfl, hpo, _, hbl⟩; have hpo : os = [.b true] := hpo; subst hpo; exact ⟨rfl, hbl⟩
theorem plain_any {A A' : Option Addr} {c c' : Nat} {b : List Ins} {hs : List Int} {w : World} (hI : InsM w A b) (hH : Rd w w.heap.size 1 A' hs.length (intV hs)) (hP : Plain b hs) :
  Calls Try.prog 9 #[.slice A b.length c, .slice A' hs.length c'] w fun e w' => e = .returned (.bool true) ∧ Below w.heap.size w w' := by
 refine (plain_keeps _ [.one .slc, .one .slc] [.one .bool] Try.func9 (by kernel_rfl) (by kernel_rfl) [.p A, .n b.length, .n c, .p A', .n hs.length, .n c', .g (b, hs)] w rfl ⟨A, c, A', c', (b, hs), rfl, hI, hH, hP⟩).mono ?_; rintro e w' ⟨os, ho, rfl, hpo, _, hbl⟩; have hpo : os = [.b true] := hpo; subst hpo; exact ⟨rfl, hbl⟩
def HgtE (b : List Ins) (w : World) (e : Ending) (w' : World) : Prop :=
 Below w.heap.size w w' ∧ ∃ (q : Nat) (hs : List Int), e = .returned (.tuple #[.slice (some ⟨q, 0, none⟩) hs.length hs.length, .bool true]) ∧ Rd w' w'.heap.size 1 (some ⟨q, 0, none⟩) hs.length (intV hs) ∧ Plain b hs
theorem row_rd {w : World} {q n : Nat} {t : TypeId} {hs : List Int} (h : w.rowIs q t n (fun j => .int .i64 (hs.getD j 0))) (hn : hs.length = n) : Rd w w.heap.size 1 (some ⟨q, 0, none⟩) hs.length (intV hs) := by
 refine ⟨by rw [intV_len]; omega, fun _ => ⟨q, 0, rfl, h.lt, fun j u hj => ?_⟩⟩; have hl := lt_of_some hj; rw [intV_len] at hl; rw [Nat.zero_add, h.cell (by omega)]; unfold intV at hj; rw [List.getElem?_map, List.getElem?_eq_getElem hl] at hj; injection hj with hj
 rw [← hj, List.getD, List.getElem?_eq_getElem hl]; rfl
theorem hgt_gen {A A' Ab : Option Addr} {c c' cb nns : Nat} {ps : List Pce} {p : Pce} {w : World} (hC : PcsR w w.heap.size A ps) (hI : InsR w w.heap.size Ab p.body) (hfew : Few ps) (h32 : ps.length ≤ 32) (hg : Good ps nns p.locals p.body) (hF : Fixed p.body) (hb : p.body.length ≤ 2048) (hlo : p.locals ≤ 32) (hlo' : 0 ≤ p.locals) :
  Calls Try.prog 8 #[codV A ps.length c A' nns c', pceV p Ab cb] w (HgtE p.body w) := by
 have hfit : ∀ x, x ∈ p.body → Fit ps.length p.body.length x := fun x hx => fitS_fit (p := p) (hg.fit x hx) hlo hb h32
 have h := reached_any ps nns p A A' Ab c c' cb w.heap.size w hC hI (Nat.le_refl _) hfew hfit ⟨by omega, hlo⟩ hb h32 true ⟨fun _ => hg.flow, fun _ => rfl⟩; refine h.mono ?_; rintro e w' ⟨⟨v, rfl, q, hs, rfl, hrow, hlen, hty⟩, hbl⟩; exact ⟨hbl, q, hs, by rw [hlen], row_rd hrow hlen, plain_of hg hF hb hlen (hty rfl)⟩
theorem hgt_any {A A' : Option Addr} {c c' nns : Nat} {ps : List Pce} {ds : List PceD} {w : World} (hC : CodeM w A ds) (hm : ds.map (·.p) = ps.map tidyP) (hT : TidyOk ps nns) (h32 : ps.length ≤ 32) {d : PceD} (hd : d ∈ ds) :
  Calls Try.prog 8 #[codV A ds.length c A' nns c', pceV d.p d.A d.c] w (HgtE d.p.body w) := by
 have hp := hT.piece; rw [← hm] at hp; have hl : ds.length = ps.length := by have := congrArg List.length hm; simpa using this
 obtain ⟨hg, hF, hb, hlo, hp0, hp8, hpl⟩ := hp _ (List.mem_map.2 ⟨_, hd, rfl⟩); have hfew : Few (ds.map (·.p)) := fun q hq => by
  obtain ⟨_, _, _, _, a, b, _⟩ := hp q hq; exact ⟨a, b⟩
 have hh := hgt_gen (A' := A') (c := c) (c' := c') (cb := d.c) hC.pcs (insM_insR (hC.2 d hd)) hfew (by rw [List.length_map]; omega) hg hF hb hlo (by omega); rw [List.length_map] at hh; exact hh
theorem live_code {w : World} {g g' : Nat} {t t' : TypeId} (h : Blk w g t #[.int .i64 1, .int .i64 2, .int .i64 0, .int .i64 1, .int .i64 3, .int .i64 0, .int .i64 5, .int .i64 0, .int .i64 0, .int .i64 17, .int .i64 0, .int .i64 0]) (h' : Blk w g' t' #[.string ⟨#[]⟩, .bool false, .int .i64 0, .int .i64 0, .slice (some ⟨g, 0, none⟩) 4 4]) : CodeM w (some ⟨g', 0, none⟩) [⟨liveP, some ⟨g, 0, none⟩, 4⟩] := by
 refine ⟨⟨rfl, fun _ => ⟨g', 0, rfl, h'.lt, fun j u hj => ?_⟩⟩, fun d hd => ?_⟩
 ·have hl : j < 5 := lt_of_some hj
  match j, hl with
  | 0, _ => injection hj with hj; rw [← hj]; exact h'.c 0 rfl
  | 1, _ => injection hj with hj; rw [← hj]; exact h'.c 1 rfl
  | 2, _ => injection hj with hj; rw [← hj]; exact h'.c 2 rfl
  | 3, _ => injection hj with hj; rw [← hj]; exact h'.c 3 rfl
  | 4, _ => injection hj with hj; rw [← hj]; exact h'.c 4 rfl
 ·rw [List.mem_singleton] at hd; subst hd; refine ⟨rfl, fun _ => ⟨g, 0, rfl, h.lt, fun j u hj => ?_⟩⟩; have hl : j < 12 := lt_of_some hj
  match j, hl with
  | 0, _ => injection hj with hj; rw [← hj]; exact h.c 0 rfl
  | 1, _ => injection hj with hj; rw [← hj]; exact h.c 1 rfl
  | 2, _ => injection hj with hj; rw [← hj]; exact h.c 2 rfl
  | 3, _ => injection hj with hj; rw [← hj]; exact h.c 3 rfl
  | 4, _ => injection hj with hj; rw [← hj]; exact h.c 4 rfl
  | 5, _ => injection hj with hj; rw [← hj]; exact h.c 5 rfl
  | 6, _ => injection hj with hj; rw [← hj]; exact h.c 6 rfl
  | 7, _ => injection hj with hj; rw [← hj]; exact h.c 7 rfl
  | 8, _ => injection hj with hj; rw [← hj]; exact h.c 8 rfl
  | 9, _ => injection hj with hj; rw [← hj]; exact h.c 9 rfl
  | 10, _ => injection hj with hj; rw [← hj]; exact h.c 10 rfl
  | 11, _ => injection hj with hj; rw [← hj]; exact h.c 11 rfl
theorem live_any (w1 : World) :
  Calls Try.prog 5 #[.agg #[.slice (some ⟨w1.heap.size + 1, 0, none⟩) 1 1, .slice none 0 0]] ((w1.alloc (.cells #[.int .i64 1, .int .i64 2, .int .i64 0, .int .i64 1, .int .i64 3, .int .i64 0, .int .i64 5, .int .i64 0, .int .i64 0, .int .i64 17, .int .i64 0, .int .i64 0] 31)).alloc (.cells #[.string ⟨#[]⟩, .bool false, .int .i64 0, .int .i64 0, .slice (some ⟨w1.heap.size, 0, none⟩) 4 4] 34)) fun e w' =>
   Below w1.heap.size w1 w' ∧ ∃ (b off c : Nat) (A' : Option Addr) (c' : Nat) (q : Option Addr) (cq : Nat), e = .returned (.tuple #[.agg #[.slice (some ⟨b, off, none⟩) 1 c, .slice A' 0 c'], .int .i64 0]) ∧ w'.cell? ⟨b, off + 4, none⟩ = some (.slice q 2 cq) ∧ b < w'.heap.size := by
 have hb0 := ((Below.refl w1.heap.size w1).alloc (Nat.le_refl _) (.cells #[.int .i64 1, .int .i64 2, .int .i64 0, .int .i64 1, .int .i64 3, .int .i64 0, .int .i64 5, .int .i64 0, .int .i64 0, .int .i64 17, .int .i64 0, .int .i64 0] 31)).alloc (by simp) (.cells #[.string ⟨#[]⟩, .bool false, .int .i64 0, .int .i64 0, .slice (some ⟨w1.heap.size, 0, none⟩) 4 4] 34); have hB := (Blk.new w1 31 #[.int .i64 1, .int .i64 2, .int .i64 0, .int .i64 1, .int .i64 3, .int .i64 0, .int .i64 5, .int .i64 0, .int .i64 0, .int .i64 17, .int .i64 0, .int .i64 0]).alloc (.cells #[.string ⟨#[]⟩, .bool false, .int .i64 0, .int .i64 0, .slice (some ⟨w1.heap.size, 0, none⟩) 4 4] 34); have hP := Blk.new (w1.alloc (.cells #[.int .i64 1, .int .i64 2, .int .i64 0, .int .i64 1, .int .i64 3, .int .i64 0, .int .i64 5, .int .i64 0, .int .i64 0, .int .i64 17, .int .i64 0, .int .i64 0] 31)) 34 #[.string ⟨#[]⟩, .bool false, .int .i64 0, .int .i64 0, .slice (some ⟨w1.heap.size, 0, none⟩) 4 4]; rw [show (w1.alloc (.cells #[.int .i64 1, .int .i64 2, .int .i64 0, .int .i64 1, .int .i64 3, .int .i64 0, .int .i64 5, .int .i64 0, .int .i64 0, .int .i64 17, .int .i64 0, .int .i64 0] 31)).heap.size = w1.heap.size + 1 from by simp] at hP; generalize (w1.alloc (.cells #[.int .i64 1, .int .i64 2, .int .i64 0, .int .i64 1, .int .i64 3, .int .i64 0, .int .i64 5, .int .i64 0, .int .i64 0, .int .i64 17, .int .i64 0, .int .i64 0] 31)).alloc (.cells #[.string ⟨#[]⟩, .bool false, .int .i64 0, .int .i64 0, .slice (some ⟨w1.heap.size, 0, none⟩) 4 4] 34) = w2 at *; have h := tidy_any (c := 1) (c' := 0) (A' := none) (ns := []) (live_code hB hP) (Rd.nil _ _ _ _) (by simp; decide) (fun d hd => by rw [List.mem_singleton] at hd; subst hd; show liveB.length ≤ maxLen; decide) (by simp)
 refine h.mono ?_; rintro e w' ⟨hb, _, h0⟩; obtain ⟨B, d, B', d', es, rfl, hC, hm, _⟩ := h0 live_chk; have hm : es.map (·.p) = [tidyP liveP] := hm; have hlen : es.length = 1 := by have := congrArg List.length hm; simpa using this
 obtain ⟨x, rfl⟩ := List.length_eq_one_iff.1 hlen; have hx : x.p = tidyP liveP := by simpa using hm
 have hxl : x.p.body.length = 2 := by
  rw [hx]; show (tidyF liveB).length = 2; rw [live_tidy]; rfl
 obtain ⟨b, off, rfl, hlt, hc⟩ := hC.1.2 (by simp); refine ⟨hb0.trans (hb.mono hb0.size), b, off, d, B', d', x.A, x.c, rfl, ?_, hlt⟩; rw [← hxl]; exact hc 4 _ rfl
end Go.Proofs.Ytgjbcahpgkchfaa
