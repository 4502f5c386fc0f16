/- Of the texts PfT. -/
import Derived.Test.YtjjkdmngmopjbaaProg
import Derived.Test.YtjjkdmngmopjbaaG36
import Derived.Test.YtjjkdmngmopjbaaG19
import Derived.Deep.RegionHeld3
import Derived.Deep.Cut
namespace Go.Proofs.Ytjjkdmngmopjbaa
open Go.RowKit
theorem trnInfo : (Try.prog.info? 141).map (fun i => (i.zero, i.size, i.bytes)) = some (some (.agg #[.int .i64 0, .int .u64 0]), 2, 16) := by kernel_rfl
theorem i64_bd (x : Int) : -9223372036854775808 ≤ IntKind.i64.wrap x := by
  rw [IntWalk.i64_left]
  have h := wrap64_wf x
  simp [Lit.wf, IntKind.min, IntKind.max, IntKind.signed, IntKind.bits] at h
  omega
theorem ownD {w : World} {base : Nat} {e : TypeId} {size n : Nat} {v : Value} {xs : List Value} (h : w.ownsRow base e size v n xs) : w.drew.ownsRow base e size v n xs := h
theorem turns_one (ts : List TurnD) : ∀ u ∈ ts.flatMap TurnD.cells, u.oneCell' = true := by
  intro u hu
  simp only [List.mem_flatMap, TurnD.cells] at hu
  obtain ⟨d, _, hd⟩ := hu
  simp at hd
  rcases hd with rfl | rfl <;> rfl
theorem turns_len (ts : List TurnD) : (ts.flatMap TurnD.cells).length = ts.length * 2 := by
  induction ts with
  | nil => rfl
  | cons t ts ih => simp [TurnD.cells, ih]; omega
theorem own_neT {w : World} {base : Nat} {e : TypeId} {size n : Nat} {v : Value} {xs : List Value} (h : w.ownsRow base e size v n xs) {q : Nat} {t : TypeId} {cs : Array Value} (hq : Blk w q t cs) (ht : e ≠ t) : v.ownBlock ≠ some q := by
  rcases h.2 with ⟨rfl, _⟩ | ⟨g, cap, cur, rfl, _, hg, _⟩
  · simp [Value.ownBlock]
  · simp only [Value.ownBlock, ne_eq, Option.some.injEq]
    rintro rfl
    unfold Blk at hq
    rw [hq] at hg
    cases hg
    exact ht rfl
theorem own_offT {w : World} {base : Nat} {e : TypeId} {size n : Nat} {v : Value} {xs : List Value} (h : w.ownsRow base e size v n xs) {p : Addr} (hp : v.ownBlock ≠ some p.block) (u : Value) : (w.setCell p u).ownsRow base e size v n xs :=
  h.kept (row := some p.block) ⟨rfl, rfl, rfl, by simp [World.setCell], fun k _ hk => Below.heap_setCell w p u k (fun e => hk (by rw [e]))⟩ (.inr hp)
theorem turn_put {w : World} {B b off : Nat} {ts : List TurnD} (h : Rd w B 2 (some ⟨b, off, none⟩) ts.length (ts.flatMap TurnD.cells)) {I j : Nat} (hI : I < ts.length) (hj : j < 2) (t' : TurnD) (u : Value) (ht : t'.cells = (ts[I].cells).set j u) :
    Rd (w.setCell ⟨b, off + (I * 2 + j), none⟩ u) B 2 (some ⟨b, off, none⟩) (ts.set I t').length ((ts.set I t').flatMap TurnD.cells) := by
  refine ⟨turns_len _, fun _ => ?_⟩
  obtain ⟨b', off', e, hb, hc⟩ := h.2 (by omega)
  simp only [Option.some.injEq, Addr.mk.injEq, and_true] at e
  obtain ⟨rfl, rfl⟩ := e
  refine ⟨b, off, rfl, hb, fun m v hv => ?_⟩
  obtain ⟨k, i, hi, rfl⟩ : ∃ k i, i < 2 ∧ m = k * 2 + i := ⟨m / 2, m % 2, Nat.mod_lt _ (by omega), by omega⟩
  rw [flatMap_at 2 TurnD.cells (fun _ => rfl) _ k i hi] at hv
  by_cases hk : k = I
  · subst hk
    rw [List.getElem?_set_self hI] at hv
    simp only [Option.bind_some, ht] at hv
    have h0 := hc (k * 2 + i) (ts[k].cells[i]'(by simpa [TurnD.cells] using hi)) (by rw [flatMap_at 2 TurnD.cells (fun _ => rfl) _ k i hi, List.getElem?_eq_getElem hI]; simp)
    by_cases hij : i = j
    · subst hij
      rw [List.getElem?_set_self (by simpa [TurnD.cells] using hi)] at hv
      cases hv
      exact World.cell?_setCell_same' _ _ _ (by rw [h0]; rfl)
    · rw [World.cell?_setCell_other w _ _ _ (fun e => by simp only [Addr.mk.injEq] at e; omega), h0]
      rw [List.getElem?_set_ne (fun e => hij e.symm)] at hv
      rw [← hv]; simp
  · rw [World.cell?_setCell_other w _ _ _ (fun e => by simp only [Addr.mk.injEq] at e; omega)]
    refine hc _ v ?_
    rw [flatMap_at 2 TurnD.cells (fun _ => rfl) _ k i hi]
    rwa [List.getElem?_set_ne (fun e => hk e.symm)] at hv
/-- what turned answers -/
def TurnedAns (w : World) (q p : ProofD) (e : Ending) (w' : World) : Prop := ∃ x : ProofD, e = .returned x.val ∧ x.held w' w'.heap.size ∧ x.turns.length ≤ q.turns.length + p.turns.length ∧ (x.key = q.key ∨ x.key = p.key) ∧ (x.value = q.value ∨ x.value = p.value) ∧ Below w.heap.size w w'
theorem turned_res (W : World) (g : Nat) (c0 c1 c2 c3 : Value) (tmps : Array Value) (hp : tmps.getD 8 undef = .pointer (some ⟨g, 0, none⟩)) (h : Blk W g 70 #[c0, c1, c2, c3]) : (results Try.f43 tmps).run Try.prog W = .ok (.agg #[c0, c1, c2, c3]) W := by
  have z0 := (h.cell 0).trans (show _ = some c0 from rfl)
  have z1 := (h.cell 1).trans (show _ = some c1 from rfl)
  have z2 := (h.cell 2).trans (show _ = some c2 from rfl)
  have z3 := (h.cell 3).trans (show _ = some c3 from rfl)
  have hp2 : tmps[8]?.getD undef = .pointer (some ⟨g, 0, none⟩) := by simpa using hp
  simp [results, Try.results43, go_sem, hp, hp2, z0, z1, z2, z3]
theorem turned_drew {w W : World} {q p : ProofD} {e : Ending} (h : TurnedAns w q p e W) : TurnedAns w q p e W.drew := by
  obtain ⟨x, h1, h2, h3, h4, h5, h6⟩ := h
  exact ⟨x, h1, ⟨Rd.drew h2.read, h2.short, h2.digs⟩, h3, h4, h5, h6.drew⟩
theorem len_drop (qs ps : List TurnD) : (qs.drop 1).length ≤ qs.length + ps.length := by rw [List.length_drop]; omega
theorem len_set {I : Nat} {t : TurnD} (qs ps : List TurnD) : (qs.set I t).length ≤ qs.length + ps.length := by rw [List.length_set]; omega
theorem turned_fin {w W : World} {q p x : ProofD} {g : Nat} {e : Value} {u0 u1 u2 u3 : Value} (hg : w.heap.size ≤ g) (he : e = x.val) (rd : Rd W W.heap.size 2 x.ta x.turns.length (x.turns.flatMap TurnD.cells)) (fr : From (g + 1) x.ta) (hl : x.turns.length ≤ q.turns.length + p.turns.length) (hd : ∀ t ∈ x.turns, t.ok) (hk : x.key = q.key ∨ x.key = p.key) (hv : x.value = q.value ∨ x.value = p.value) (hb : Below w.heap.size w W) (hm : q.turns.length + p.turns.length ≤ maxLen) :
    TurnedAns w q p (.returned e) ((((W.setCell ⟨g, 0, none⟩ u0).setCell ⟨g, 1, none⟩ u1).setCell ⟨g, 2, none⟩ u2).setCell ⟨g, 3, none⟩ u3) := by
  refine ⟨x, by rw [he], ⟨?_, Nat.le_trans hl hm, hd⟩, hl, hk, hv, ?_⟩
  · exact Rd.more (Rd.setCellF (Rd.setCellF (Rd.setCellF (Rd.setCellF rd fr (p := ⟨g, 0, none⟩) (Nat.lt_succ_self g) u0) fr (p := ⟨g, 1, none⟩) (Nat.lt_succ_self g) u1) fr (p := ⟨g, 2, none⟩) (Nat.lt_succ_self g) u2) fr (p := ⟨g, 3, none⟩) (Nat.lt_succ_self g) u3) (by simp [World.setCell])
  · exact (((hb.setCell (p := ⟨g, 0, none⟩) hg u0).setCell (p := ⟨g, 1, none⟩) hg u1).setCell (p := ⟨g, 2, none⟩) hg u2).setCell (p := ⟨g, 3, none⟩) hg u3
set_option maxRecDepth 100000 in
set_option maxHeartbeats 8000000 in
theorem turned_any (q p : ProofD) (how d : Int) (B : Nat) (w : World) (hq : q.held w B) (hp : p.held w B) (hB : B ≤ w.heap.size) (hlq : q.turns.length ≤ 1000) (hlp : p.turns.length ≤ 10000000) (hhow : -9223372036854775808 ≤ how) (hdd : -9223372036854775808 ≤ d) (hdu : d ≤ 9223372036854775807) :
    Calls Try.prog 43 #[q.val, .int .i64 how, .int .i64 d, p.val] w (TurnedAns w q p) := by
  obtain ⟨qs, qA, qc, lf, a, vv⟩ := q
  obtain ⟨ps, pA, pc, lg, b, vw⟩ := p
  obtain ⟨hqr, _, hqd⟩ := hq
  obtain ⟨hpr, _, hpd⟩ := hp
  have HMX : qs.length + ps.length ≤ maxLen := by unfold maxLen; dsimp only at hlq hlp; omega
  dsimp only [ProofD.val] at *
  have hu := u64_wrap d
  have hpk := fun W => pick_any how 9 W hhow (by omega)
  have hp0 := pickS_lo how 9 (by omega)
  have hp1 := pickS_hi how 9 (by omega)
  generalize pickS how 9 = k at *
  obtain ⟨i0, hi0, hz0, hz1, hz2⟩ := info_parts trnInfo
  obtain ⟨w2, hw2, hs2, hb0, hq4, hp7, hr8⟩ : ∃ W, ((w.alloc (.cells #[.slice qA qs.length qc, .bool lf, .string (bs a), .string (bs vv)] 70)).alloc (.cells #[.slice pA ps.length pc, .bool lg, .string (bs b), .string (bs vw)] 70)).alloc (.cells #[.slice none 0 0, .bool false, .string ⟨#[]⟩, .string ⟨#[]⟩] 70) = W ∧ W.heap.size = w.heap.size + 3 ∧ Below w.heap.size w W ∧ Blk W w.heap.size 70 #[.slice qA qs.length qc, .bool lf, .string (bs a), .string (bs vv)] ∧ Blk W (w.heap.size + 1) 70 #[.slice pA ps.length pc, .bool lg, .string (bs b), .string (bs vw)] ∧ Blk W (w.heap.size + 2) 70 #[.slice none 0 0, .bool false, .string ⟨#[]⟩, .string ⟨#[]⟩] := by
    refine ⟨_, rfl, by simp, ((((Below.refl _ _).alloc (Nat.le_refl _) _).alloc (by simp) _).alloc (by simp; omega) _), ((Blk.new _ _ _).alloc _).alloc _, ?_, ?_⟩
    · have := (Blk.new (w.alloc (.cells #[.slice qA qs.length qc, .bool lf, .string (bs a), .string (bs vv)] 70)) 70 #[.slice pA ps.length pc, .bool lg, .string (bs b), .string (bs vw)]).alloc (.cells #[.slice none 0 0, .bool false, .string ⟨#[]⟩, .string ⟨#[]⟩] 70)
      simpa using this
    · have := Blk.new ((w.alloc (.cells #[.slice qA qs.length qc, .bool lf, .string (bs a), .string (bs vv)] 70)).alloc (.cells #[.slice pA ps.length pc, .bool lg, .string (bs b), .string (bs vw)] 70)) 70 #[.slice none 0 0, .bool false, .string ⟨#[]⟩, .string ⟨#[]⟩]
      simpa using this
  have HW := Lib.hid hw2
  have hs2a : w2.heap.size ≤ w.heap.size + 3 := by omega
  have hs2b : w.heap.size + 3 ≤ w2.heap.size := by omega
  clear hw2 hs2
  go_enter Try.func43, Try.ntmps43
  go_upto_region 1 with fail
  rw [show ((w.alloc (.cells #[.slice qA qs.length qc, .bool lf, .string (bs a), .string (bs vv)] 70)).alloc (.cells #[.slice pA ps.length pc, .bool lg, .string (bs b), .string (bs vw)] 70)).alloc (.cells #[.slice none 0 0, .bool false, .string ⟨#[]⟩, .string ⟨#[]⟩] 70) = w2 from HW.out]
  clear HW
  go_cut [9] (fun q' wc => ∃ (Q : Nat) (A1 : Option Addr) (c1 : Nat), q' = .pointer (some ⟨Q, 0, none⟩) ∧ Blk wc Q 70 #[.slice A1 qs.length c1, .bool lf, .string (bs a), .string (bs vv)] ∧ wc.ownsRow (w.heap.size + 3) 141 2 (.slice A1 qs.length c1) qs.length (qs.flatMap TurnD.cells) ∧ Blk wc (w.heap.size + 1) 70 #[.slice pA ps.length pc, .bool lg, .string (bs b), .string (bs vw)] ∧ Blk wc (w.heap.size + 2) 70 #[.slice none 0 0, .bool false, .string ⟨#[]⟩, .string ⟨#[]⟩] ∧ Below w.heap.size w wc ∧ w.heap.size + 3 ≤ Q)
  case first =>
    as_aux_lemma =>
    have hr0 : Rd w2 B 2 qA qs.length (qs.flatMap TurnD.cells) := Rd.below hqr (hb0.mono hB)
    have q0 := (hq4.drew.cell 0).trans (show _ = some (Value.slice qA qs.length qc) from rfl)
    have q1 := (hq4.drew.cell 1).trans (show _ = some (Value.bool lf) from rfl)
    have q2 := (hq4.drew.cell 2).trans (show _ = some (Value.string (bs a)) from rfl)
    have q3 := (hq4.drew.cell 3).trans (show _ = some (Value.string (bs vv)) from rfl)
    have r0 := fun o => hq4.drew.cell_a 0 (Value.slice qA qs.length qc) rfl o
    have r1 := fun o => hq4.drew.cell_a 1 (Value.bool lf) rfl o
    have r2 := fun o => hq4.drew.cell_a 2 (Value.string (bs a)) rfl o
    have r3 := fun o => hq4.drew.cell_a 3 (Value.string (bs vv)) rfl o
    have s0 := fun o o2 => (hq4.drew.alloc o).cell_a 0 (Value.slice qA qs.length qc) rfl o2
    have s1 := fun o o2 => (hq4.drew.alloc o).cell_a 1 (Value.bool lf) rfl o2
    have s2 := fun o o2 => (hq4.drew.alloc o).cell_a 2 (Value.string (bs a)) rfl o2
    have s3 := fun o o2 => (hq4.drew.alloc o).cell_a 3 (Value.string (bs vv)) rfl o2
    have t0 := fun o => ((hq4.alloc o).drew.cell 0).trans (show _ = some (Value.slice qA qs.length qc) from rfl)
    have x0 := fun o o2 => (((hq4.alloc o).alloc o2).drew.cell 0).trans (show _ = some (Value.slice qA qs.length qc) from rfl)
    have t1 := fun o => ((hq4.alloc o).drew.cell 1).trans (show _ = some (Value.bool lf) from rfl)
    have x1 := fun o o2 => (((hq4.alloc o).alloc o2).drew.cell 1).trans (show _ = some (Value.bool lf) from rfl)
    have t2 := fun o => ((hq4.alloc o).drew.cell 2).trans (show _ = some (Value.string (bs a)) from rfl)
    have x2 := fun o o2 => (((hq4.alloc o).alloc o2).drew.cell 2).trans (show _ = some (Value.string (bs a)) from rfl)
    have t3 := fun o => ((hq4.alloc o).drew.cell 3).trans (show _ = some (Value.string (bs vv)) from rfl)
    have x3 := fun o o2 => (((hq4.alloc o).alloc o2).drew.cell 3).trans (show _ = some (Value.string (bs vv)) from rfl)
    have n1 : ¬ w2.heap.size + 1 = w.heap.size := by omega
    have n2 : ¬ w2.heap.size = w.heap.size := by omega
    have n3 : ¬ w.heap.size = w2.heap.size + 1 := by omega
    have n4 : ¬ w.heap.size = w2.heap.size := by omega
    have oE : ∀ W : World, w.heap.size + 3 ≤ W.heap.size → (W.alloc (.cells #[] 141)).ownsRow (w.heap.size + 3) 141 2 (.slice (some ⟨W.heap.size, 0, none⟩) 0 0) 0 [] := fun W hW =>
      ⟨rfl, .inr ⟨W.heap.size, 0, #[], rfl, hW, heap_alloc_new W _, Nat.le_refl _, by simp, rfl, rfl⟩⟩
    have oE2 : ((w2.alloc (.cells #[.slice none 0 0, .bool false, .string ⟨#[]⟩, .string ⟨#[]⟩] 70)).alloc (.cells #[] 141)).ownsRow (w.heap.size + 3) 141 2 (.slice (some ⟨w2.heap.size + 1, 0, none⟩) 0 0) 0 [] := by
      have := oE (w2.alloc (.cells #[.slice none 0 0, .bool false, .string ⟨#[]⟩, .string ⟨#[]⟩] 70)) (by simp; omega)
      simpa using this
    go_region_held3 (fun W => W.cell? ⟨w.heap.size, 0, none⟩ = some (Value.slice qA qs.length qc) ∧ W.cell? ⟨w.heap.size, 1, none⟩ = some (Value.bool lf) ∧ W.cell? ⟨w.heap.size, 2, none⟩ = some (Value.string (bs a)) ∧ W.cell? ⟨w.heap.size, 3, none⟩ = some (Value.string (bs vv))) (go_keep) (first
        | (refine step_append_any _ (by rfl) (.tmp 16) (.tmp 18) 68 (by rfl) (w.heap.size + 3) 141 i0 _ 2 16 Try.underlying68 hi0 hz0 hz1 hz2 rfl (by omega) (.slice (some ⟨w2.heap.size, 0, none⟩) 0 0) 0 [] (by rfl) (ownD (oE w2 (by omega))) B qA qs.length qc (qs.flatMap TurnD.cells) (by rfl) (Rd.drew (Rd.alloc hr0 (by omega) _)) (turns_one qs) (by simp [maxLen]; omega) (by omega) (by simp; omega) ?_
           intro v3 w3 hown3 hg3 hat3
           simp only [Nat.zero_add, List.nil_append] at hown3
           obtain ⟨A3, n3, rfl⟩ := own_shape hown3
           have hq3 := (Blk.drew ((hq4).alloc (.cells #[] 141))).grown hg3 (by simp [Value.ownBlock]; omega)
           have hp3 := (Blk.drew ((hp7).alloc (.cells #[] 141))).grown hg3 (by simp [Value.ownBlock]; omega)
           have hr3 := (Blk.drew ((hr8).alloc (.cells #[] 141))).grown hg3 (by simp [Value.ownBlock]; omega)
           have hb3 : Below w.heap.size w w3 := (Below.drew (hb0.alloc hb0.size (.cells #[] 141))).grown hg3 (by simp; omega) (fun k hk => by simp [Value.ownBlock] at hk; omega)
           have y0 := (hq3.cell 0).trans (show _ = some (Value.slice qA qs.length qc) from rfl)
           have y1 := (hq3.cell 1).trans (show _ = some (Value.bool lf) from rfl)
           have y2 := (hq3.cell 2).trans (show _ = some (Value.string (bs a)) from rfl)
           have y3 := (hq3.cell 3).trans (show _ = some (Value.string (bs vv)) from rfl)
           have ya0 := fun o => hq3.cell_a 0 (Value.slice qA qs.length qc) rfl o
           have ya1 := fun o => hq3.cell_a 1 (Value.bool lf) rfl o
           have ya2 := fun o => hq3.cell_a 2 (Value.string (bs a)) rfl o
           have ya3 := fun o => hq3.cell_a 3 (Value.string (bs vv)) rfl o)
        | (refine step_append_any _ (by rfl) (.tmp 16) (.tmp 18) 68 (by rfl) (w.heap.size + 3) 141 i0 _ 2 16 Try.underlying68 hi0 hz0 hz1 hz2 rfl (by omega) (.slice (some ⟨w2.heap.size + 1, 0, none⟩) 0 0) 0 [] (by rfl) (ownD (oE2)) B qA qs.length qc (qs.flatMap TurnD.cells) (by rfl) (Rd.drew (Rd.alloc (Rd.alloc hr0 (by omega) _) (by simp; omega) _)) (turns_one qs) (by simp [maxLen]; omega) (by omega) (by simp; omega) ?_
           intro v3 w3 hown3 hg3 hat3
           simp only [Nat.zero_add, List.nil_append] at hown3
           obtain ⟨A3, n3, rfl⟩ := own_shape hown3
           have hq3 := (Blk.drew (((hq4).alloc (.cells #[.slice none 0 0, .bool false, .string ⟨#[]⟩, .string ⟨#[]⟩] 70)).alloc (.cells #[] 141))).grown hg3 (by simp [Value.ownBlock]; omega)
           have hp3 := (Blk.drew (((hp7).alloc (.cells #[.slice none 0 0, .bool false, .string ⟨#[]⟩, .string ⟨#[]⟩] 70)).alloc (.cells #[] 141))).grown hg3 (by simp [Value.ownBlock]; omega)
           have hr3 := (Blk.drew (((hr8).alloc (.cells #[.slice none 0 0, .bool false, .string ⟨#[]⟩, .string ⟨#[]⟩] 70)).alloc (.cells #[] 141))).grown hg3 (by simp [Value.ownBlock]; omega)
           have hb3 : Below w.heap.size w w3 := (Below.drew ((hb0.alloc hb0.size (.cells #[.slice none 0 0, .bool false, .string ⟨#[]⟩, .string ⟨#[]⟩] 70)).alloc (by simp; omega) (.cells #[] 141))).grown hg3 (by simp; omega) (fun k hk => by simp [Value.ownBlock] at hk; omega)
           have y0 := (hq3.cell 0).trans (show _ = some (Value.slice qA qs.length qc) from rfl)
           have y1 := (hq3.cell 1).trans (show _ = some (Value.bool lf) from rfl)
           have y2 := (hq3.cell 2).trans (show _ = some (Value.string (bs a)) from rfl)
           have y3 := (hq3.cell 3).trans (show _ = some (Value.string (bs vv)) from rfl)
           have ya0 := fun o => hq3.cell_a 0 (Value.slice qA qs.length qc) rfl o
           have ya1 := fun o => hq3.cell_a 1 (Value.bool lf) rfl o
           have ya2 := fun o => hq3.cell_a 2 (Value.string (bs a)) rfl o
           have ya3 := fun o => hq3.cell_a 3 (Value.string (bs vv)) rfl o
           have hQ3 : Blk w3 w2.heap.size 70 #[.slice none 0 0, .bool false, .string ⟨#[]⟩, .string ⟨#[]⟩] := (Blk.drew ((Blk.new w2 70 #[.slice none 0 0, .bool false, .string ⟨#[]⟩, .string ⟨#[]⟩]).alloc (.cells #[] 141))).grown hg3 (by simp [Value.ownBlock])
           have fz := hQ3.frozen
           have fc0 := (hQ3.cell 0).trans (show _ = some (Value.slice none 0 0) from rfl)
           have fc1 := (hQ3.cell 1).trans (show _ = some (Value.bool false) from rfl)
           have fc2 := (hQ3.cell 2).trans (show _ = some (Value.string ⟨#[]⟩) from rfl)
           have fc3 := (hQ3.cell 3).trans (show _ = some (Value.string ⟨#[]⟩) from rfl))
        | (refine step_append_any _ (by rfl) (.tmp 16) (.tmp 18) 68 (by rfl) (w.heap.size + 3) 141 i0 _ 2 16 Try.underlying68 hi0 hz0 hz1 hz2 rfl (by omega) (.slice (some ⟨w2.heap.size, 0, none⟩) 0 0) 0 [] (by rfl) (ownD ((oE w2 (by omega)).alloc _)) B qA qs.length qc (qs.flatMap TurnD.cells) (by rfl) (Rd.drew (Rd.alloc (Rd.alloc hr0 (by omega) _) (by simp; omega) _)) (turns_one qs) (by simp [maxLen]; omega) (by omega) (by simp; omega) ?_
           intro v3 w3 hown3 hg3 hat3
           simp only [Nat.zero_add, List.nil_append] at hown3
           obtain ⟨A3, n3, rfl⟩ := own_shape hown3
           have hq3 := (Blk.drew (((hq4).alloc (.cells #[] 141)).alloc (.cells #[.slice none 0 0, .bool false, .string ⟨#[]⟩, .string ⟨#[]⟩] 70))).grown hg3 (by simp [Value.ownBlock]; omega)
           have hp3 := (Blk.drew (((hp7).alloc (.cells #[] 141)).alloc (.cells #[.slice none 0 0, .bool false, .string ⟨#[]⟩, .string ⟨#[]⟩] 70))).grown hg3 (by simp [Value.ownBlock]; omega)
           have hr3 := (Blk.drew (((hr8).alloc (.cells #[] 141)).alloc (.cells #[.slice none 0 0, .bool false, .string ⟨#[]⟩, .string ⟨#[]⟩] 70))).grown hg3 (by simp [Value.ownBlock]; omega)
           have hb3 : Below w.heap.size w w3 := (Below.drew ((hb0.alloc hb0.size (.cells #[] 141)).alloc (by simp; omega) (.cells #[.slice none 0 0, .bool false, .string ⟨#[]⟩, .string ⟨#[]⟩] 70))).grown hg3 (by simp; omega) (fun k hk => by simp [Value.ownBlock] at hk; omega)
           have y0 := (hq3.cell 0).trans (show _ = some (Value.slice qA qs.length qc) from rfl)
           have y1 := (hq3.cell 1).trans (show _ = some (Value.bool lf) from rfl)
           have y2 := (hq3.cell 2).trans (show _ = some (Value.string (bs a)) from rfl)
           have y3 := (hq3.cell 3).trans (show _ = some (Value.string (bs vv)) from rfl)
           have ya0 := fun o => hq3.cell_a 0 (Value.slice qA qs.length qc) rfl o
           have ya1 := fun o => hq3.cell_a 1 (Value.bool lf) rfl o
           have ya2 := fun o => hq3.cell_a 2 (Value.string (bs a)) rfl o
           have ya3 := fun o => hq3.cell_a 3 (Value.string (bs vv)) rfl o
           have hQ0 : Blk ((w2.alloc (.cells #[] 141)).alloc (.cells #[.slice none 0 0, .bool false, .string ⟨#[]⟩, .string ⟨#[]⟩] 70)) (w2.heap.size + 1) 70 #[.slice none 0 0, .bool false, .string ⟨#[]⟩, .string ⟨#[]⟩] := by have hN := Blk.new (w2.alloc (.cells #[] 141)) 70 #[.slice none 0 0, .bool false, .string ⟨#[]⟩, .string ⟨#[]⟩]; simpa using hN
           have hQ3 : Blk w3 (w2.heap.size + 1) 70 #[.slice none 0 0, .bool false, .string ⟨#[]⟩, .string ⟨#[]⟩] := (Blk.drew hQ0).grown hg3 (by simp [Value.ownBlock])
           have fz := hQ3.frozen
           have fc0 := (hQ3.cell 0).trans (show _ = some (Value.slice none 0 0) from rfl)
           have fc1 := (hQ3.cell 1).trans (show _ = some (Value.bool false) from rfl)
           have fc2 := (hQ3.cell 2).trans (show _ = some (Value.string ⟨#[]⟩) from rfl)
           have fc3 := (hQ3.cell 3).trans (show _ = some (Value.string ⟨#[]⟩) from rfl)))
    all_goals
      go_wp2_with fail
      go_meet
      have hs3 := hg3.size
      simp at hs3
      first
        | exact ⟨w3.heap.size, A3, n3, rfl, Blk.new _ _ _, hown3.alloc _, hp3.alloc _, hr3.alloc _, hb3.alloc hb3.size _, by omega⟩
        | exact ⟨_, A3, n3, rfl, (((hQ3.set_ 0 _).set_ 1 _).set_ 2 _).set_ 3 _, own_offT (own_offT (own_offT (own_offT hown3 (own_neT hown3 hQ3 (by decide)) _) (own_neT hown3 hQ3 (by decide)) _) (own_neT hown3 hQ3 (by decide)) _) (own_neT hown3 hQ3 (by decide)) _, (((hp3.far (by simp; omega) _).far (by simp; omega) _).far (by simp; omega) _).far (by simp; omega) _, (((hr3.far (by simp; omega) _).far (by simp; omega) _).far (by simp; omega) _).far (by simp; omega) _, (((hb3.setCell (by simp; omega) _).setCell (by simp; omega) _).setCell (by simp; omega) _).setCell (by simp; omega) _, by omega⟩
  case rest =>
    obtain ⟨Q, A1, c1, rfl, hQ, hown, hp, hr, hb, hQge⟩ := hcut
    have hne := own_neT hown hQ (by decide)
    have hfr := own_from hown
    have hltQ := hQ.lt
    have hltR := hr.lt
    have hcc := own_cap hown
    have hQR : ¬ Q = w.heap.size + 2 := by omega
    have hRQ : ¬ w.heap.size + 2 = Q := by omega
    have hQP : ¬ Q = w.heap.size + 1 := by omega
    obtain ⟨U, hU⟩ : ∃ X, IntKind.u64.wrap d = X := ⟨_, rfl⟩
    rw [hU] at hu
    have k0 := (hQ.cell 0).trans (show _ = some (Value.slice A1 qs.length c1) from rfl)
    have kf0 := hQ.frozen 0
    have r0 := (hr.cell 0).trans (show _ = some (Value.slice none 0 0) from rfl)
    have rf0 := hr.frozen 0
    have pu0 := (hp.cell 0).trans (show _ = some (Value.slice pA ps.length pc) from rfl)
    have k1 := (hQ.cell 1).trans (show _ = some (Value.bool lf) from rfl)
    have kf1 := hQ.frozen 1
    have r1 := (hr.cell 1).trans (show _ = some (Value.bool false) from rfl)
    have rf1 := hr.frozen 1
    have pu1 := (hp.cell 1).trans (show _ = some (Value.bool lg) from rfl)
    have k2 := (hQ.cell 2).trans (show _ = some (Value.string (bs a)) from rfl)
    have kf2 := hQ.frozen 2
    have r2 := (hr.cell 2).trans (show _ = some (Value.string ⟨#[]⟩) from rfl)
    have rf2 := hr.frozen 2
    have pu2 := (hp.cell 2).trans (show _ = some (Value.string (bs b)) from rfl)
    have k3 := (hQ.cell 3).trans (show _ = some (Value.string (bs vv)) from rfl)
    have kf3 := hQ.frozen 3
    have r3 := (hr.cell 3).trans (show _ = some (Value.string ⟨#[]⟩) from rfl)
    have rf3 := hr.frozen 3
    have pu3 := (hp.cell 3).trans (show _ = some (Value.string (bs vw)) from rfl)
    go_wp2_with fail
    refine (hpk _).mono ?_
    rintro e w' ⟨rfl, rfl⟩
    have hk9 : k = 0 ∨ k = 1 ∨ k = 2 ∨ k = 3 ∨ k = 4 ∨ k = 5 ∨ k = 6 ∨ k = 7 ∨ k = 8 := by omega
    rcases hk9 with rfl | rfl | rfl | rfl | rfl | rfl | rfl | rfl | rfl
    · as_aux_lemma =>
      have e0 := (hQ.cell 0).trans (show _ = some (Value.slice A1 qs.length c1) from rfl)
      have e1 := (hQ.cell 1).trans (show _ = some (Value.bool lf) from rfl)
      have e2 := (hQ.cell 2).trans (show _ = some (Value.string (bs a)) from rfl)
      have e3 := (hQ.cell 3).trans (show _ = some (Value.string (bs vv)) from rfl)
      have sf0 := hr.frozen 0
      have sc0 := (hr.cell 0).trans (show _ = some (Value.slice none 0 0) from rfl)
      have sf1 := hr.frozen 1
      have sc1 := (hr.cell 1).trans (show _ = some (Value.bool false) from rfl)
      have sf2 := hr.frozen 2
      have sc2 := (hr.cell 2).trans (show _ = some (Value.string ⟨#[]⟩) from rfl)
      have sf3 := hr.frozen 3
      have sc3 := (hr.cell 3).trans (show _ = some (Value.string ⟨#[]⟩) from rfl)
      have hR1 := ((((hr.set_ 0 (.slice A1 qs.length c1)).set_ 1 (.bool lf)).set_ 2 (.string (bs a))).set_ 3 (.string (bs vv)))
      go_wp2_with fail
      refine bodyPost_ret (v := .agg #[.slice A1 qs.length c1, .bool lf, .string (bs a), .string (bs vv)]) (turned_res _ (w.heap.size + 2) _ _ _ _ _ rfl (show Blk _ _ _ #[.slice A1 qs.length c1, .bool lf, .string (bs a), .string (bs vv)] from hR1)) rfl ?_
      exact turned_fin (g := w.heap.size + 2) (x := ⟨qs, A1, c1, lf, a, vv⟩) (Nat.le_add_right _ 2) (rfl) (Rd.of_own hown) (hfr) (Nat.le_add_right _ _) (hqd) (.inl rfl) (.inl rfl) (hb) HMX
    · as_aux_lemma =>
      have u3 := (hp.cell 3).trans (show _ = some (Value.string (bs vw)) from rfl)
      have g3 := (hQ.cell 3).trans (show _ = some (Value.string (bs vv)) from rfl)
      have h3 := hQ.frozen 3
      have hQ1 := hQ.set_ 3 (.string (bs vw))
      have hRa := hr.far (p := ⟨Q, 3, none⟩) (by dsimp only; omega) (.string (bs vw))
      have e0 := (hQ1.cell 0).trans (show _ = some (Value.slice A1 qs.length c1) from rfl)
      have e1 := (hQ1.cell 1).trans (show _ = some (Value.bool lf) from rfl)
      have e2 := (hQ1.cell 2).trans (show _ = some (Value.string (bs a)) from rfl)
      have e3 := (hQ1.cell 3).trans (show _ = some (Value.string (bs vw)) from rfl)
      have sf0 := hRa.frozen 0
      have sc0 := (hRa.cell 0).trans (show _ = some (Value.slice none 0 0) from rfl)
      have sf1 := hRa.frozen 1
      have sc1 := (hRa.cell 1).trans (show _ = some (Value.bool false) from rfl)
      have sf2 := hRa.frozen 2
      have sc2 := (hRa.cell 2).trans (show _ = some (Value.string ⟨#[]⟩) from rfl)
      have sf3 := hRa.frozen 3
      have sc3 := (hRa.cell 3).trans (show _ = some (Value.string ⟨#[]⟩) from rfl)
      have hR1 := ((((hRa.set_ 0 (.slice A1 qs.length c1)).set_ 1 (.bool lf)).set_ 2 (.string (bs a))).set_ 3 (.string (bs vw)))
      go_wp2_with fail
      refine bodyPost_ret (v := .agg #[.slice A1 qs.length c1, .bool lf, .string (bs a), .string (bs vw)]) (turned_res _ (w.heap.size + 2) _ _ _ _ _ rfl (show Blk _ _ _ #[.slice A1 qs.length c1, .bool lf, .string (bs a), .string (bs vw)] from hR1)) rfl ?_
      exact turned_fin (g := w.heap.size + 2) (x := ⟨qs, A1, c1, lf, a, vw⟩) (Nat.le_add_right _ 2) (rfl) (Rd.of_own (own_offT hown (p := ⟨Q, 3, none⟩) hne (.string (bs vw)))) (hfr) (Nat.le_add_right _ _) (hqd) (.inl rfl) (.inr rfl) (hb.setCell (p := ⟨Q, 3, none⟩) (by dsimp only; omega) (.string (bs vw))) HMX
    · as_aux_lemma =>
      have u2 := (hp.cell 2).trans (show _ = some (Value.string (bs b)) from rfl)
      have g2 := (hQ.cell 2).trans (show _ = some (Value.string (bs a)) from rfl)
      have h2 := hQ.frozen 2
      have hQ1 := hQ.set_ 2 (.string (bs b))
      have hRa := hr.far (p := ⟨Q, 2, none⟩) (by dsimp only; omega) (.string (bs b))
      have e0 := (hQ1.cell 0).trans (show _ = some (Value.slice A1 qs.length c1) from rfl)
      have e1 := (hQ1.cell 1).trans (show _ = some (Value.bool lf) from rfl)
      have e2 := (hQ1.cell 2).trans (show _ = some (Value.string (bs b)) from rfl)
      have e3 := (hQ1.cell 3).trans (show _ = some (Value.string (bs vv)) from rfl)
      have sf0 := hRa.frozen 0
      have sc0 := (hRa.cell 0).trans (show _ = some (Value.slice none 0 0) from rfl)
      have sf1 := hRa.frozen 1
      have sc1 := (hRa.cell 1).trans (show _ = some (Value.bool false) from rfl)
      have sf2 := hRa.frozen 2
      have sc2 := (hRa.cell 2).trans (show _ = some (Value.string ⟨#[]⟩) from rfl)
      have sf3 := hRa.frozen 3
      have sc3 := (hRa.cell 3).trans (show _ = some (Value.string ⟨#[]⟩) from rfl)
      have hR1 := ((((hRa.set_ 0 (.slice A1 qs.length c1)).set_ 1 (.bool lf)).set_ 2 (.string (bs b))).set_ 3 (.string (bs vv)))
      go_wp2_with fail
      refine bodyPost_ret (v := .agg #[.slice A1 qs.length c1, .bool lf, .string (bs b), .string (bs vv)]) (turned_res _ (w.heap.size + 2) _ _ _ _ _ rfl (show Blk _ _ _ #[.slice A1 qs.length c1, .bool lf, .string (bs b), .string (bs vv)] from hR1)) rfl ?_
      exact turned_fin (g := w.heap.size + 2) (x := ⟨qs, A1, c1, lf, b, vv⟩) (Nat.le_add_right _ 2) (rfl) (Rd.of_own (own_offT hown (p := ⟨Q, 2, none⟩) hne (.string (bs b)))) (hfr) (Nat.le_add_right _ _) (hqd) (.inr rfl) (.inl rfl) (hb.setCell (p := ⟨Q, 2, none⟩) (by dsimp only; omega) (.string (bs b))) HMX
    · as_aux_lemma =>
      by_cases hl0 : 0 < qs.length
      · have hli : (0 : Int) < (qs.length : Int) := by omega
        obtain ⟨g, cap, hv, _, _⟩ := hown.form hl0
        have hA : A1 = some ⟨g, 0, none⟩ := by injection hv
        subst hA
        have hpk2 := fun W => pick_any d qs.length W hdd (by omega)
        have hi0' := pickS_lo d qs.length (by omega)
        have hi1' := pickS_hi d qs.length (by omega)
        obtain ⟨I, hI⟩ := Int.eq_ofNat_of_zero_le hi0'
        rw [hI] at hpk2 hi1'
        have hIl : I < qs.length := by omega
        clear hI hi0'
        have hIi : (I : Int) < (qs.length : Int) := by omega
        have hrd := Rd.of_own hown
        obtain ⟨b', off', e', _, kI0, kI1⟩ := turns_at (show TurnsL wc _ _ qs from hrd) hIl
        simp only [Option.some.injEq, Addr.mk.injEq, and_true] at e'
        obtain ⟨rfl, rfl⟩ := e'
        rw [Nat.zero_add] at kI0 kI1
        have hfz : ∀ m, wc.frozen? ⟨g, m, none⟩ = false := fun m => by
          rcases hown.2 with ⟨_, h0⟩ | ⟨g', cap', cur, e1, _, hgg, _⟩
          · omega
          · simp only [Value.slice.injEq, Option.some.injEq, Addr.mk.injEq] at e1
            obtain ⟨⟨rfl, _⟩, _⟩ := e1
            simp [World.frozen?, hgg]
        have hgq : g ≠ Q := fun e => hne (by rw [e]; rfl)
        have hgR : g ≠ w.heap.size + 2 := by have := hfr g 0 rfl; omega
        have dq0 := (hQ.drew.cell 0).trans (show _ = some (Value.slice (some ⟨g, 0, none⟩) qs.length c1) from rfl)
        have wq0 := (hQ.cell 0).trans (show _ = some (Value.slice (some ⟨g, 0, none⟩) qs.length c1) from rfl)
        have dkI : wc.drew.cell? ⟨g, I * 2 + 1, none⟩ = some (.int .u64 qs[I].d) := kI1
        have dfz : wc.drew.frozen? ⟨g, I * 2 + 1, none⟩ = false := hfz _
        have wkI : wc.cell? ⟨g, I * 2 + 1, none⟩ = some (.int .u64 qs[I].d) := kI1
        have wfz : wc.frozen? ⟨g, I * 2 + 1, none⟩ = false := hfz _
        have hQ1 := (hQ.far (p := ⟨g, I * 2 + 1, none⟩) (fun e => hgq e.symm) (.int .u64 U)).drew
        have hRa := (hr.far (p := ⟨g, I * 2 + 1, none⟩) (fun e => hgR e.symm) (.int .u64 U)).drew
        have rd1 : Rd (wc.setCell ⟨g, I * 2 + 1, none⟩ (.int .u64 U)) wc.heap.size 2 (some ⟨g, 0, none⟩) (qs.set I ⟨qs[I].p, U⟩).length ((qs.set I ⟨qs[I].p, U⟩).flatMap TurnD.cells) := by
          have := turn_put hrd hIl (j := 1) (by omega) ⟨qs[I].p, U⟩ (.int .u64 U) rfl
          rw [Nat.zero_add] at this
          exact this
        rw [List.length_set] at rd1
        have hd1 : ∀ x ∈ qs.set I ⟨qs[I].p, U⟩, x.ok := fun x hx => by
          rcases List.mem_or_eq_of_mem_set hx with h | h
          · exact hqd x h
          · subst h; exact hu
        clear hrd kI0 kI1
        go_upto_region 9 with fail
        have hgq2 : ¬ Q = g := fun e => hgq e.symm
        have hgR2 : ¬ w.heap.size + 2 = g := fun e => hgR e.symm
        have hQn := hQ.far (p := ⟨g, I * 2 + 1, none⟩) (fun e => hgq e.symm) (.int .u64 U)
        have hRn := hr.far (p := ⟨g, I * 2 + 1, none⟩) (fun e => hgR e.symm) (.int .u64 U)
        have en0 := (hQn.cell 0).trans (show _ = some (Value.slice (some ⟨g, 0, none⟩) qs.length c1) from rfl)
        have en1 := (hQn.cell 1).trans (show _ = some (Value.bool lf) from rfl)
        have en2 := (hQn.cell 2).trans (show _ = some (Value.string (bs a)) from rfl)
        have en3 := (hQn.cell 3).trans (show _ = some (Value.string (bs vv)) from rfl)
        have sn0 := (hRn.cell 0).trans (show _ = some (Value.slice none 0 0) from rfl)
        have sn1 := (hRn.cell 1).trans (show _ = some (Value.bool false) from rfl)
        have sn2 := (hRn.cell 2).trans (show _ = some (Value.string ⟨#[]⟩) from rfl)
        have sn3 := (hRn.cell 3).trans (show _ = some (Value.string ⟨#[]⟩) from rfl)
        have fn0 := hRn.frozen 0
        have fn1 := hRn.frozen 1
        have fn2 := hRn.frozen 2
        have fn3 := hRn.frozen 3
        go_region_held3 (fun W => W.cell? ⟨Q, 0, none⟩ = some (Value.slice (some ⟨g, 0, none⟩) qs.length c1)) (go_keep) (first
            | (with_reducible refine (hpk2 _).mono ?_
               rintro e w' ⟨rfl, rfl⟩))
        all_goals
          have e0 := (hQn.cell 0).trans (show _ = some (Value.slice (some ⟨g, 0, none⟩) qs.length c1) from rfl)
          have e1 := (hQn.cell 1).trans (show _ = some (Value.bool lf) from rfl)
          have e2 := (hQn.cell 2).trans (show _ = some (Value.string (bs a)) from rfl)
          have e3 := (hQn.cell 3).trans (show _ = some (Value.string (bs vv)) from rfl)
          have sf0 := hRn.frozen 0
          have sc0 := (hRn.cell 0).trans (show _ = some (Value.slice none 0 0) from rfl)
          have sf1 := hRn.frozen 1
          have sc1 := (hRn.cell 1).trans (show _ = some (Value.bool false) from rfl)
          have sf2 := hRn.frozen 2
          have sc2 := (hRn.cell 2).trans (show _ = some (Value.string ⟨#[]⟩) from rfl)
          have sf3 := hRn.frozen 3
          have sc3 := (hRn.cell 3).trans (show _ = some (Value.string ⟨#[]⟩) from rfl)
          have hR1 := Blk.drew ((((hRn.set_ 0 (.slice (some ⟨g, 0, none⟩) qs.length c1)).set_ 1 (.bool lf)).set_ 2 (.string (bs a))).set_ 3 (.string (bs vv)))
          go_wp2_with fail
          refine bodyPost_ret (v := .agg #[.slice (some ⟨g, 0, none⟩) qs.length c1, .bool lf, .string (bs a), .string (bs vv)]) (turned_res _ (w.heap.size + 2) _ _ _ _ _ rfl (show Blk _ _ _ #[.slice (some ⟨g, 0, none⟩) qs.length c1, .bool lf, .string (bs a), .string (bs vv)] from hR1)) rfl ?_
          exact turned_drew (turned_fin (g := w.heap.size + 2) (x := ⟨qs.set I ⟨qs[I].p, U⟩, some ⟨g, 0, none⟩, c1, lf, a, vv⟩) (Nat.le_add_right _ 2) (by simp [ProofD.val]) (Rd.more (show Rd _ wc.heap.size 2 _ (qs.set I ⟨qs[I].p, U⟩).length _ by rw [List.length_set]; exact rd1) (by simp [World.setCell])) (hfr) (len_set qs ps) (hd1) (.inl rfl) (.inl rfl) (hb.setCell (p := ⟨g, I * 2 + 1, none⟩) (by have := hfr g 0 rfl; dsimp only; omega) (.int .u64 U)) HMX)
      · have hli : ¬ (0 : Int) < (qs.length : Int) := by omega
        have wq0 := (hQ.cell 0).trans (show _ = some (Value.slice A1 qs.length c1) from rfl)
        have e0 := (hQ.cell 0).trans (show _ = some (Value.slice A1 qs.length c1) from rfl)
        have e1 := (hQ.cell 1).trans (show _ = some (Value.bool lf) from rfl)
        have e2 := (hQ.cell 2).trans (show _ = some (Value.string (bs a)) from rfl)
        have e3 := (hQ.cell 3).trans (show _ = some (Value.string (bs vv)) from rfl)
        have sf0 := hr.frozen 0
        have sc0 := (hr.cell 0).trans (show _ = some (Value.slice none 0 0) from rfl)
        have sf1 := hr.frozen 1
        have sc1 := (hr.cell 1).trans (show _ = some (Value.bool false) from rfl)
        have sf2 := hr.frozen 2
        have sc2 := (hr.cell 2).trans (show _ = some (Value.string ⟨#[]⟩) from rfl)
        have sf3 := hr.frozen 3
        have sc3 := (hr.cell 3).trans (show _ = some (Value.string ⟨#[]⟩) from rfl)
        have hR1 := ((((hr.set_ 0 (.slice A1 qs.length c1)).set_ 1 (.bool lf)).set_ 2 (.string (bs a))).set_ 3 (.string (bs vv)))
        go_wp2_with fail
        refine bodyPost_ret (v := .agg #[.slice A1 qs.length c1, .bool lf, .string (bs a), .string (bs vv)]) (turned_res _ (w.heap.size + 2) _ _ _ _ _ rfl (show Blk _ _ _ #[.slice A1 qs.length c1, .bool lf, .string (bs a), .string (bs vv)] from hR1)) rfl ?_
        exact turned_fin (g := w.heap.size + 2) (x := ⟨qs, A1, c1, lf, a, vv⟩) (Nat.le_add_right _ 2) (rfl) (Rd.of_own hown) (hfr) (Nat.le_add_right _ _) (hqd) (.inl rfl) (.inl rfl) (hb) HMX
    · as_aux_lemma =>
      have e0 := (hQ.cell 0).trans (show _ = some (Value.slice A1 qs.length c1) from rfl)
      have e1 := (hQ.cell 1).trans (show _ = some (Value.bool lf) from rfl)
      have e2 := (hQ.cell 2).trans (show _ = some (Value.string (bs a)) from rfl)
      have e3 := (hQ.cell 3).trans (show _ = some (Value.string (bs vv)) from rfl)
      have sf0 := hr.frozen 0
      have sc0 := (hr.cell 0).trans (show _ = some (Value.slice none 0 0) from rfl)
      have sf1 := hr.frozen 1
      have sc1 := (hr.cell 1).trans (show _ = some (Value.bool false) from rfl)
      have sf2 := hr.frozen 2
      have sc2 := (hr.cell 2).trans (show _ = some (Value.string ⟨#[]⟩) from rfl)
      have sf3 := hr.frozen 3
      have sc3 := (hr.cell 3).trans (show _ = some (Value.string ⟨#[]⟩) from rfl)
      have hR1 := ((((hr.set_ 0 (.slice A1 qs.length c1)).set_ 1 (.bool lf)).set_ 2 (.string (bs a))).set_ 3 (.string (bs vv)))
      go_wp2_with fail
      refine bodyPost_ret (v := .agg #[.slice A1 qs.length c1, .bool lf, .string (bs a), .string (bs vv)]) (turned_res _ (w.heap.size + 2) _ _ _ _ _ rfl (show Blk _ _ _ #[.slice A1 qs.length c1, .bool lf, .string (bs a), .string (bs vv)] from hR1)) rfl ?_
      exact turned_fin (g := w.heap.size + 2) (x := ⟨qs, A1, c1, lf, a, vv⟩) (Nat.le_add_right _ 2) (rfl) (Rd.of_own hown) (hfr) (Nat.le_add_right _ _) (hqd) (.inl rfl) (.inl rfl) (hb) HMX
    · as_aux_lemma =>
      have wq0 := (hQ.cell 0).trans (show _ = some (Value.slice A1 qs.length c1) from rfl)
      have wf0 := hQ.frozen 0
      by_cases hl0 : 0 < qs.length
      · have hli : (0 : Int) < (qs.length : Int) := by omega
        obtain ⟨g, cap, hv, _, _⟩ := hown.form hl0
        have hA : A1 = some ⟨g, 0, none⟩ := by injection hv
        subst hA
        have j0 : (0 : Int) ≤ 1 := by omega
        have j1 : (1 : Int) ≤ (qs.length : Int) := by omega
        have j2 : (1 : Int) ≤ (c1 : Int) := by omega
        have j3 : (qs.length : Int) ≤ (c1 : Int) := by omega
        have j4 : 1 ≤ qs.length := hl0
        have j5 : 1 ≤ c1 := by omega
        have hdr : (qs.drop 1).flatMap TurnD.cells = (qs.flatMap TurnD.cells).drop 2 := by
          cases qs with
          | nil => rfl
          | cons t ts => rfl
        have hdd1 : ∀ x ∈ qs.drop 1, x.ok := fun x hx => hqd x (List.mem_of_mem_drop hx)
        by_cases hc1 : c1 = 1
        · have hl1 : qs.length = 1 := by omega
          have hq : (qs.drop 1).flatMap TurnD.cells = [] := by rw [List.drop_eq_nil_of_le (by omega)]; rfl
          subst hc1
          have rd1 : Rd (wc.setCell ⟨Q, 0, none⟩ (.slice (some ⟨g, 0, none⟩) 0 0)) (wc.setCell ⟨Q, 0, none⟩ (.slice (some ⟨g, 0, none⟩) 0 0)).heap.size 2 (some ⟨g, 0, none⟩) (qs.drop 1).length ((qs.drop 1).flatMap TurnD.cells) := by
            rw [hq, List.length_drop, hl1]; exact Rd.nil _ _ _ _
          clear hq hdr
          have hfr1 : From (w.heap.size + 3) (some ⟨g, 0, none⟩) := hfr
          have HL1 := Lib.hid hl1
          clear hl1
          have hQ1 := hQ.set_ 0 (.slice (some ⟨g, 0, none⟩) (0) (0))
          have hRa := hr.far (p := ⟨Q, 0, none⟩) (by dsimp only; omega) (.slice (some ⟨g, 0, none⟩) (0) (0))
          have e0 := (hQ1.cell 0).trans (show _ = some (Value.slice (some ⟨g, 0, none⟩) (0) (0)) from rfl)
          have e1 := (hQ1.cell 1).trans (show _ = some (Value.bool lf) from rfl)
          have e2 := (hQ1.cell 2).trans (show _ = some (Value.string (bs a)) from rfl)
          have e3 := (hQ1.cell 3).trans (show _ = some (Value.string (bs vv)) from rfl)
          have sf0 := hRa.frozen 0
          have sc0 := (hRa.cell 0).trans (show _ = some (Value.slice none 0 0) from rfl)
          have sf1 := hRa.frozen 1
          have sc1 := (hRa.cell 1).trans (show _ = some (Value.bool false) from rfl)
          have sf2 := hRa.frozen 2
          have sc2 := (hRa.cell 2).trans (show _ = some (Value.string ⟨#[]⟩) from rfl)
          have sf3 := hRa.frozen 3
          have sc3 := (hRa.cell 3).trans (show _ = some (Value.string ⟨#[]⟩) from rfl)
          have hR1 := ((((hRa.set_ 0 (.slice (some ⟨g, 0, none⟩) (0) (0))).set_ 1 (.bool lf)).set_ 2 (.string (bs a))).set_ 3 (.string (bs vv)))
          go_wp2_with fail
          refine bodyPost_ret (v := .agg #[.slice (some ⟨g, 0, none⟩) (0) (0), .bool lf, .string (bs a), .string (bs vv)]) (turned_res _ (w.heap.size + 2) _ _ _ _ _ rfl (show Blk _ _ _ #[.slice (some ⟨g, 0, none⟩) (0) (0), .bool lf, .string (bs a), .string (bs vv)] from hR1)) rfl ?_
          exact turned_fin (g := w.heap.size + 2) (x := ⟨qs.drop 1, some ⟨g, 0, none⟩, 0, lf, a, vv⟩) (Nat.le_add_right _ 2) (by simp [ProofD.val, HL1.out]) (rd1) (hfr1) (len_drop qs ps) (hdd1) (.inl rfl) (.inl rfl) (hb.setCell (p := ⟨Q, 0, none⟩) (by dsimp only; omega) (.slice (some ⟨g, 0, none⟩) (0) (0))) HMX
        · have rd0 : Rd wc wc.heap.size 2 (some ⟨g, 2, none⟩) (qs.drop 1).length ((qs.drop 1).flatMap TurnD.cells) := by
            rw [hdr, List.length_drop]
            by_cases h2 : 1 < qs.length
            · simpa using Rd.cut_lt (Rd.of_own hown) h2
            · simpa using Rd.cut_all (Rd.of_own hown) h2 (some ⟨g, 2, none⟩)
          have hgq : g ≠ Q := fun e => hne (by rw [e]; rfl)
          have rd1 := Rd.more (Rd.setCell' rd0 (p := ⟨Q, 0, none⟩) hgq (.slice (some ⟨g, 2, none⟩) (qs.length - 1) (c1 - 1))) (show _ ≤ (wc.setCell ⟨Q, 0, none⟩ (.slice (some ⟨g, 2, none⟩) (qs.length - 1) (c1 - 1))).heap.size by simp [World.setCell])
          clear hdr
          have hfr1 : From (w.heap.size + 3) (some ⟨g, 2, none⟩) := fun b o e => by
            simp only [Option.some.injEq, Addr.mk.injEq, and_true] at e
            have := hfr g 0 rfl
            omega
          have hQ1 := hQ.set_ 0 (.slice (some ⟨g, 2, none⟩) (qs.length - 1) (c1 - 1))
          have hRa := hr.far (p := ⟨Q, 0, none⟩) (by dsimp only; omega) (.slice (some ⟨g, 2, none⟩) (qs.length - 1) (c1 - 1))
          have e0 := (hQ1.cell 0).trans (show _ = some (Value.slice (some ⟨g, 2, none⟩) (qs.length - 1) (c1 - 1)) from rfl)
          have e1 := (hQ1.cell 1).trans (show _ = some (Value.bool lf) from rfl)
          have e2 := (hQ1.cell 2).trans (show _ = some (Value.string (bs a)) from rfl)
          have e3 := (hQ1.cell 3).trans (show _ = some (Value.string (bs vv)) from rfl)
          have sf0 := hRa.frozen 0
          have sc0 := (hRa.cell 0).trans (show _ = some (Value.slice none 0 0) from rfl)
          have sf1 := hRa.frozen 1
          have sc1 := (hRa.cell 1).trans (show _ = some (Value.bool false) from rfl)
          have sf2 := hRa.frozen 2
          have sc2 := (hRa.cell 2).trans (show _ = some (Value.string ⟨#[]⟩) from rfl)
          have sf3 := hRa.frozen 3
          have sc3 := (hRa.cell 3).trans (show _ = some (Value.string ⟨#[]⟩) from rfl)
          have hR1 := ((((hRa.set_ 0 (.slice (some ⟨g, 2, none⟩) (qs.length - 1) (c1 - 1))).set_ 1 (.bool lf)).set_ 2 (.string (bs a))).set_ 3 (.string (bs vv)))
          go_wp2_with fail
          refine bodyPost_ret (v := .agg #[.slice (some ⟨g, 2, none⟩) (qs.length - 1) (c1 - 1), .bool lf, .string (bs a), .string (bs vv)]) (turned_res _ (w.heap.size + 2) _ _ _ _ _ rfl (show Blk _ _ _ #[.slice (some ⟨g, 2, none⟩) (qs.length - 1) (c1 - 1), .bool lf, .string (bs a), .string (bs vv)] from hR1)) rfl ?_
          exact turned_fin (g := w.heap.size + 2) (x := ⟨qs.drop 1, some ⟨g, 2, none⟩, c1 - 1, lf, a, vv⟩) (Nat.le_add_right _ 2) (by simp [ProofD.val]) (rd1) (hfr1) (len_drop qs ps) (hdd1) (.inl rfl) (.inl rfl) (hb.setCell (p := ⟨Q, 0, none⟩) (by dsimp only; omega) (.slice (some ⟨g, 2, none⟩) (qs.length - 1) (c1 - 1))) HMX
      · have hli : ¬ (0 : Int) < (qs.length : Int) := by omega
        have e0 := (hQ.cell 0).trans (show _ = some (Value.slice A1 qs.length c1) from rfl)
        have e1 := (hQ.cell 1).trans (show _ = some (Value.bool lf) from rfl)
        have e2 := (hQ.cell 2).trans (show _ = some (Value.string (bs a)) from rfl)
        have e3 := (hQ.cell 3).trans (show _ = some (Value.string (bs vv)) from rfl)
        have sf0 := hr.frozen 0
        have sc0 := (hr.cell 0).trans (show _ = some (Value.slice none 0 0) from rfl)
        have sf1 := hr.frozen 1
        have sc1 := (hr.cell 1).trans (show _ = some (Value.bool false) from rfl)
        have sf2 := hr.frozen 2
        have sc2 := (hr.cell 2).trans (show _ = some (Value.string ⟨#[]⟩) from rfl)
        have sf3 := hr.frozen 3
        have sc3 := (hr.cell 3).trans (show _ = some (Value.string ⟨#[]⟩) from rfl)
        have hR1 := ((((hr.set_ 0 (.slice A1 qs.length c1)).set_ 1 (.bool lf)).set_ 2 (.string (bs a))).set_ 3 (.string (bs vv)))
        go_wp2_with fail
        refine bodyPost_ret (v := .agg #[.slice A1 qs.length c1, .bool lf, .string (bs a), .string (bs vv)]) (turned_res _ (w.heap.size + 2) _ _ _ _ _ rfl (show Blk _ _ _ #[.slice A1 qs.length c1, .bool lf, .string (bs a), .string (bs vv)] from hR1)) rfl ?_
        exact turned_fin (g := w.heap.size + 2) (x := ⟨qs, A1, c1, lf, a, vv⟩) (Nat.le_add_right _ 2) (rfl) (Rd.of_own hown) (hfr) (Nat.le_add_right _ _) (hqd) (.inl rfl) (.inl rfl) (hb) HMX
    · as_aux_lemma =>
      have wq0 := (hQ.cell 0).trans (show _ = some (Value.slice A1 qs.length c1) from rfl)
      have u0 := (hp.cell 0).trans (show _ = some (Value.slice pA ps.length pc) from rfl)
      have hprc : Rd wc B 2 pA ps.length (ps.flatMap TurnD.cells) := Rd.below hpr (hb.mono hB)
      have l1 : qs.length + ps.length ≤ maxLen := by simp [maxLen]; omega
      have l3 : w.heap.size + 3 ≤ wc.heap.size := by have := hb.size; omega
      go_wp2_with (first
        | (at_builtin; refine wpList_append_any _ rfl (.tmp 63) (.tmp 65) 68 rfl (w.heap.size + 3) 141 i0 _ 2 16 Try.underlying68 hi0 hz0 hz1 hz2 rfl (by omega) (.slice A1 qs.length c1) qs.length _ (by rfl) hown B pA ps.length pc (ps.flatMap TurnD.cells) (by rfl) hprc (turns_one ps) l1 (by omega) l3 ?_
           intro v3 w3 hown3 hg3 hat3
           obtain ⟨A3, c3, rfl⟩ := own_shape hown3
           have hQ3 := hQ.grown hg3 (fun e => hne e.symm)
           have hr3 := hr.grown hg3 (fun e => by have := own_ge hown _ e.symm; omega)
           have hb3 : Below w.heap.size w w3 := hb.grown hg3 hb.size (fun k hk => by have := own_ge hown k hk; omega)
           have m0 := (hQ3.cell 0).trans (show _ = some (Value.slice A1 qs.length c1) from rfl)
           have mf0 := hQ3.frozen 0
           have o0 := (hr3.cell 0).trans (show _ = some (Value.slice none 0 0) from rfl)
           have of0 := hr3.frozen 0
           have m1 := (hQ3.cell 1).trans (show _ = some (Value.bool lf) from rfl)
           have mf1 := hQ3.frozen 1
           have o1 := (hr3.cell 1).trans (show _ = some (Value.bool false) from rfl)
           have of1 := hr3.frozen 1
           have m2 := (hQ3.cell 2).trans (show _ = some (Value.string (bs a)) from rfl)
           have mf2 := hQ3.frozen 2
           have o2 := (hr3.cell 2).trans (show _ = some (Value.string ⟨#[]⟩) from rfl)
           have of2 := hr3.frozen 2
           have m3 := (hQ3.cell 3).trans (show _ = some (Value.string (bs vv)) from rfl)
           have mf3 := hQ3.frozen 3
           have o3 := (hr3.cell 3).trans (show _ = some (Value.string ⟨#[]⟩) from rfl)
           have of3 := hr3.frozen 3
           have hne3 := own_neT hown3 hQ3 (by decide)
           have hfr3 := own_from hown3
           have hQ1 := hQ3.set_ 0 (.slice A3 (qs.length + ps.length) c3)
           have hRa := hr3.far (p := ⟨Q, 0, none⟩) (by dsimp only; omega) (.slice A3 (qs.length + ps.length) c3)
           have e0 := (hQ1.cell 0).trans (show _ = some (Value.slice A3 (qs.length + ps.length) c3) from rfl)
           have e1 := (hQ1.cell 1).trans (show _ = some (Value.bool lf) from rfl)
           have e2 := (hQ1.cell 2).trans (show _ = some (Value.string (bs a)) from rfl)
           have e3 := (hQ1.cell 3).trans (show _ = some (Value.string (bs vv)) from rfl)
           have sf0 := hRa.frozen 0
           have sc0 := (hRa.cell 0).trans (show _ = some (Value.slice none 0 0) from rfl)
           have sf1 := hRa.frozen 1
           have sc1 := (hRa.cell 1).trans (show _ = some (Value.bool false) from rfl)
           have sf2 := hRa.frozen 2
           have sc2 := (hRa.cell 2).trans (show _ = some (Value.string ⟨#[]⟩) from rfl)
           have sf3 := hRa.frozen 3
           have sc3 := (hRa.cell 3).trans (show _ = some (Value.string ⟨#[]⟩) from rfl)))
      have hR1 := ((((hRa.set_ 0 (.slice A3 (qs.length + ps.length) c3)).set_ 1 (.bool lf)).set_ 2 (.string (bs a))).set_ 3 (.string (bs vv)))
      go_wp2_with fail
      refine bodyPost_ret (v := .agg #[.slice A3 (qs.length + ps.length) c3, .bool lf, .string (bs a), .string (bs vv)]) (turned_res _ (w.heap.size + 2) _ _ _ _ _ rfl (show Blk _ _ _ #[.slice A3 (qs.length + ps.length) c3, .bool lf, .string (bs a), .string (bs vv)] from hR1)) rfl ?_
      exact turned_fin (g := w.heap.size + 2) (x := ⟨qs ++ ps, A3, c3, lf, a, vv⟩) (Nat.le_add_right _ 2) (by simp [ProofD.val]) (by have := Rd.of_own (own_offT hown3 (p := ⟨Q, 0, none⟩) hne3 (.slice A3 (qs.length + ps.length) c3)); rw [List.length_append, List.flatMap_append]; exact this) (hfr3) (Nat.le_of_eq (List.length_append ..)) ((fun x hx => (List.mem_append.1 hx).elim (hqd x) (hpd x))) (.inl rfl) (.inl rfl) (hb3.setCell (p := ⟨Q, 0, none⟩) (by dsimp only; omega) (.slice A3 (qs.length + ps.length) c3)) HMX
    · as_aux_lemma =>
      by_cases hl0 : 0 < qs.length
      · have hli : (0 : Int) < (qs.length : Int) := by omega
        obtain ⟨g, cap, hv, _, _⟩ := hown.form hl0
        have hA : A1 = some ⟨g, 0, none⟩ := by injection hv
        subst hA
        have hpk2 := fun W => pick_any d qs.length W hdd (by omega)
        have hi0' := pickS_lo d qs.length (by omega)
        have hi1' := pickS_hi d qs.length (by omega)
        obtain ⟨I, hI⟩ := Int.eq_ofNat_of_zero_le hi0'
        rw [hI] at hpk2 hi1'
        have hIl : I < qs.length := by omega
        clear hI hi0'
        have hIi : (I : Int) < (qs.length : Int) := by omega
        obtain ⟨V, hV⟩ : ∃ V, V = pickS (IntKind.i64.wrap (d.tdiv 7)) 300 := ⟨_, rfl⟩
        have hd7 : -9223372036854775808 ≤ IntKind.i64.wrap (d.tdiv 7) := i64_bd (d.tdiv 7)
        have hpk3 := fun W => pick_any (IntKind.i64.wrap (d.tdiv 7)) 300 W hd7 (by omega)
        rw [← hV] at hpk3
        clear hV
        have hrd := Rd.of_own hown
        obtain ⟨b', off', e', _, kI0, kI1⟩ := turns_at (show TurnsL wc _ _ qs from hrd) hIl
        simp only [Option.some.injEq, Addr.mk.injEq, and_true] at e'
        obtain ⟨rfl, rfl⟩ := e'
        rw [Nat.zero_add] at kI0 kI1
        have hfz : ∀ m, wc.frozen? ⟨g, m, none⟩ = false := fun m => by
          rcases hown.2 with ⟨_, h0⟩ | ⟨g', cap', cur, e1, _, hgg, _⟩
          · omega
          · simp only [Value.slice.injEq, Option.some.injEq, Addr.mk.injEq] at e1
            obtain ⟨⟨rfl, _⟩, _⟩ := e1
            simp [World.frozen?, hgg]
        have hgq : g ≠ Q := fun e => hne (by rw [e]; rfl)
        have hgR : g ≠ w.heap.size + 2 := by have := hfr g 0 rfl; omega
        have dq0 := (hQ.drew.cell 0).trans (show _ = some (Value.slice (some ⟨g, 0, none⟩) qs.length c1) from rfl)
        have wq0 := (hQ.cell 0).trans (show _ = some (Value.slice (some ⟨g, 0, none⟩) qs.length c1) from rfl)
        have dkI : wc.drew.cell? ⟨g, I * 2, none⟩ = some (.int .i64 qs[I].p) := kI0
        have dfz : wc.drew.frozen? ⟨g, I * 2, none⟩ = false := hfz _
        have wkI : wc.cell? ⟨g, I * 2, none⟩ = some (.int .i64 qs[I].p) := kI0
        have wfz : wc.frozen? ⟨g, I * 2, none⟩ = false := hfz _
        have hQ1 := (hQ.far (p := ⟨g, I * 2, none⟩) (fun e => hgq e.symm) (.int .i64 V)).drew
        have hRa := (hr.far (p := ⟨g, I * 2, none⟩) (fun e => hgR e.symm) (.int .i64 V)).drew
        have rd1 : Rd (wc.setCell ⟨g, I * 2, none⟩ (.int .i64 V)) wc.heap.size 2 (some ⟨g, 0, none⟩) (qs.set I ⟨V, qs[I].d⟩).length ((qs.set I ⟨V, qs[I].d⟩).flatMap TurnD.cells) := by
          have := turn_put hrd hIl (j := 0) (by omega) ⟨V, qs[I].d⟩ (.int .i64 V) rfl
          rw [Nat.zero_add] at this
          exact this
        rw [List.length_set] at rd1
        have hd1 : ∀ x ∈ qs.set I ⟨V, qs[I].d⟩, x.ok := fun x hx => by
          rcases List.mem_or_eq_of_mem_set hx with h | h
          · exact hqd x h
          · subst h; exact hqd qs[I] (List.getElem_mem hIl)
        clear hrd kI0 kI1
        go_upto_region 17 with fail
        have hgq2 : ¬ Q = g := fun e => hgq e.symm
        have hgR2 : ¬ w.heap.size + 2 = g := fun e => hgR e.symm
        have hQn := hQ.far (p := ⟨g, I * 2, none⟩) (fun e => hgq e.symm) (.int .i64 V)
        have hRn := hr.far (p := ⟨g, I * 2, none⟩) (fun e => hgR e.symm) (.int .i64 V)
        have en0 := (hQn.cell 0).trans (show _ = some (Value.slice (some ⟨g, 0, none⟩) qs.length c1) from rfl)
        have en1 := (hQn.cell 1).trans (show _ = some (Value.bool lf) from rfl)
        have en2 := (hQn.cell 2).trans (show _ = some (Value.string (bs a)) from rfl)
        have en3 := (hQn.cell 3).trans (show _ = some (Value.string (bs vv)) from rfl)
        have sn0 := (hRn.cell 0).trans (show _ = some (Value.slice none 0 0) from rfl)
        have sn1 := (hRn.cell 1).trans (show _ = some (Value.bool false) from rfl)
        have sn2 := (hRn.cell 2).trans (show _ = some (Value.string ⟨#[]⟩) from rfl)
        have sn3 := (hRn.cell 3).trans (show _ = some (Value.string ⟨#[]⟩) from rfl)
        have fn0 := hRn.frozen 0
        have fn1 := hRn.frozen 1
        have fn2 := hRn.frozen 2
        have fn3 := hRn.frozen 3
        go_region_held3 (fun W => W.cell? ⟨Q, 0, none⟩ = some (Value.slice (some ⟨g, 0, none⟩) qs.length c1)) (go_keep) (first
            | (with_reducible refine (hpk2 _).mono ?_
               rintro e w' ⟨rfl, rfl⟩)
            | (with_reducible refine (hpk3 _).mono ?_
               rintro e w' ⟨rfl, rfl⟩))
        all_goals
          have e0 := (hQn.cell 0).trans (show _ = some (Value.slice (some ⟨g, 0, none⟩) qs.length c1) from rfl)
          have e1 := (hQn.cell 1).trans (show _ = some (Value.bool lf) from rfl)
          have e2 := (hQn.cell 2).trans (show _ = some (Value.string (bs a)) from rfl)
          have e3 := (hQn.cell 3).trans (show _ = some (Value.string (bs vv)) from rfl)
          have sf0 := hRn.frozen 0
          have sc0 := (hRn.cell 0).trans (show _ = some (Value.slice none 0 0) from rfl)
          have sf1 := hRn.frozen 1
          have sc1 := (hRn.cell 1).trans (show _ = some (Value.bool false) from rfl)
          have sf2 := hRn.frozen 2
          have sc2 := (hRn.cell 2).trans (show _ = some (Value.string ⟨#[]⟩) from rfl)
          have sf3 := hRn.frozen 3
          have sc3 := (hRn.cell 3).trans (show _ = some (Value.string ⟨#[]⟩) from rfl)
          have hR1 := Blk.drew ((((hRn.set_ 0 (.slice (some ⟨g, 0, none⟩) qs.length c1)).set_ 1 (.bool lf)).set_ 2 (.string (bs a))).set_ 3 (.string (bs vv)))
          go_wp2_with fail
          refine bodyPost_ret (v := .agg #[.slice (some ⟨g, 0, none⟩) qs.length c1, .bool lf, .string (bs a), .string (bs vv)]) (turned_res _ (w.heap.size + 2) _ _ _ _ _ rfl (show Blk _ _ _ #[.slice (some ⟨g, 0, none⟩) qs.length c1, .bool lf, .string (bs a), .string (bs vv)] from hR1)) rfl ?_
          exact turned_drew (turned_fin (g := w.heap.size + 2) (x := ⟨qs.set I ⟨V, qs[I].d⟩, some ⟨g, 0, none⟩, c1, lf, a, vv⟩) (Nat.le_add_right _ 2) (by simp [ProofD.val]) (Rd.more (show Rd _ wc.heap.size 2 _ (qs.set I ⟨V, qs[I].d⟩).length _ by rw [List.length_set]; exact rd1) (by simp [World.setCell])) (hfr) (len_set qs ps) (hd1) (.inl rfl) (.inl rfl) (hb.setCell (p := ⟨g, I * 2, none⟩) (by have := hfr g 0 rfl; dsimp only; omega) (.int .i64 V)) HMX)
      · have hli : ¬ (0 : Int) < (qs.length : Int) := by omega
        have wq0 := (hQ.cell 0).trans (show _ = some (Value.slice A1 qs.length c1) from rfl)
        have e0 := (hQ.cell 0).trans (show _ = some (Value.slice A1 qs.length c1) from rfl)
        have e1 := (hQ.cell 1).trans (show _ = some (Value.bool lf) from rfl)
        have e2 := (hQ.cell 2).trans (show _ = some (Value.string (bs a)) from rfl)
        have e3 := (hQ.cell 3).trans (show _ = some (Value.string (bs vv)) from rfl)
        have sf0 := hr.frozen 0
        have sc0 := (hr.cell 0).trans (show _ = some (Value.slice none 0 0) from rfl)
        have sf1 := hr.frozen 1
        have sc1 := (hr.cell 1).trans (show _ = some (Value.bool false) from rfl)
        have sf2 := hr.frozen 2
        have sc2 := (hr.cell 2).trans (show _ = some (Value.string ⟨#[]⟩) from rfl)
        have sf3 := hr.frozen 3
        have sc3 := (hr.cell 3).trans (show _ = some (Value.string ⟨#[]⟩) from rfl)
        have hR1 := ((((hr.set_ 0 (.slice A1 qs.length c1)).set_ 1 (.bool lf)).set_ 2 (.string (bs a))).set_ 3 (.string (bs vv)))
        go_wp2_with fail
        refine bodyPost_ret (v := .agg #[.slice A1 qs.length c1, .bool lf, .string (bs a), .string (bs vv)]) (turned_res _ (w.heap.size + 2) _ _ _ _ _ rfl (show Blk _ _ _ #[.slice A1 qs.length c1, .bool lf, .string (bs a), .string (bs vv)] from hR1)) rfl ?_
        exact turned_fin (g := w.heap.size + 2) (x := ⟨qs, A1, c1, lf, a, vv⟩) (Nat.le_add_right _ 2) (rfl) (Rd.of_own hown) (hfr) (Nat.le_add_right _ _) (hqd) (.inl rfl) (.inl rfl) (hb) HMX
    · as_aux_lemma =>
      have e0 := (hQ.cell 0).trans (show _ = some (Value.slice A1 qs.length c1) from rfl)
      have e1 := (hQ.cell 1).trans (show _ = some (Value.bool lf) from rfl)
      have e2 := (hQ.cell 2).trans (show _ = some (Value.string (bs a)) from rfl)
      have e3 := (hQ.cell 3).trans (show _ = some (Value.string (bs vv)) from rfl)
      have sf0 := hr.frozen 0
      have sc0 := (hr.cell 0).trans (show _ = some (Value.slice none 0 0) from rfl)
      have sf1 := hr.frozen 1
      have sc1 := (hr.cell 1).trans (show _ = some (Value.bool false) from rfl)
      have sf2 := hr.frozen 2
      have sc2 := (hr.cell 2).trans (show _ = some (Value.string ⟨#[]⟩) from rfl)
      have sf3 := hr.frozen 3
      have sc3 := (hr.cell 3).trans (show _ = some (Value.string ⟨#[]⟩) from rfl)
      have hR1 := ((((hr.set_ 0 (.slice A1 qs.length c1)).set_ 1 (.bool lf)).set_ 2 (.string (bs a))).set_ 3 (.string (bs vv)))
      go_wp2_with fail
      refine bodyPost_ret (v := .agg #[.slice A1 qs.length c1, .bool lf, .string (bs a), .string (bs vv)]) (turned_res _ (w.heap.size + 2) _ _ _ _ _ rfl (show Blk _ _ _ #[.slice A1 qs.length c1, .bool lf, .string (bs a), .string (bs vv)] from hR1)) rfl ?_
      exact turned_fin (g := w.heap.size + 2) (x := ⟨qs, A1, c1, lf, a, vv⟩) (Nat.le_add_right _ 2) (rfl) (Rd.of_own hown) (hfr) (Nat.le_add_right _ _) (hqd) (.inl rfl) (.inl rfl) (hb) HMX
end Go.Proofs.Ytjjkdmngmopjbaa
