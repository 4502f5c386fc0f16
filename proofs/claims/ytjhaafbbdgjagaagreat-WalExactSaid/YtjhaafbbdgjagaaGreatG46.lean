/- Of the texts WalX, OpenK. -/
import Derived.Test.YtjhaafbbdgjagaaGreatG45
import Derived.Test.YtjhaafbbdgjagaaGreatProg
import Derived.Test.YtjhaafbbdgjagaaGreatG36
set_option linter.unusedSimpArgs false
set_option linter.unusedVariables false
namespace Go.Proofs.YtjhaafbbdgjagaaGreat
open Go Go.RowKit Vc
set_option maxRecDepth 100000
theorem motion_odd (S : Out) : (S.motion motionZ).odd = true := by
 have : (S.motion motionZ).odd = (S.odd || !decide ((1 : Int) ≤ 0)) := rfl; rw [this]; simp
theorem known_odd (S : Out) : (S.known knownZ).odd = true := by
 have : (S.known knownZ).odd = ((S.odd || !certOk certZ) || !allTo (fromOk certZ.froms) certZ.froms.length) := rfl; rw [this, show certOk certZ = false from rfl]; simp
theorem kind_one {k : Int} {v : VoteD} (h : (recO k v).re = 0) : k = 1 := by
 have hodd : (recO k v).odd = false := by
  unfold Out.re at h; split at h
  ·omega
  ·split at h
   ·omega
   ·rename_i h2; simpa using h2
 by_cases h1 : k = 1
 ·exact h1
 have hw : recO k v = Out.what ((((((Out.empty.num k).need (decide (1 ≤ k) && decide (k ≤ 4))).need (decide (k = 1) || noVote v)).need (decide (k = 2) || noMotion motionZ)).need (decide (k = 3) || decide (k = 4) || noKnown knownZ))) (recW k v) := rfl; rw [hw] at hodd; unfold Out.what at hodd; have e : (recW k v).k = k := rfl; rw [e, if_neg h1] at hodd
 by_cases h2 : k = 2
 ·rw [if_pos h2] at hodd; have := motion_odd ((((((Out.empty.num k).need (decide (1 ≤ k) && decide (k ≤ 4))).need (decide (k = 1) || noVote v)).need (decide (k = 2) || noMotion motionZ)).need (decide (k = 3) || decide (k = 4) || noKnown knownZ))); rw [show (recW k v).motion = motionZ from rfl, this] at hodd; cases hodd
 rw [if_neg h2] at hodd
 by_cases h3 : k = 3 ∨ k = 4
 ·rw [if_pos h3] at hodd; have := known_odd ((((((Out.empty.num k).need (decide (1 ≤ k) && decide (k ≤ 4))).need (decide (k = 1) || noVote v)).need (decide (k = 2) || noMotion motionZ)).need (decide (k = 3) || decide (k = 4) || noKnown knownZ))); rw [show (recW k v).known = knownZ from rfl, this] at hodd; cases hodd
 rw [if_neg h3] at hodd; have : ((((((Out.empty.num k).need (decide (1 ≤ k) && decide (k ≤ 4))).need (decide (k = 1) || noVote v)).need (decide (k = 2) || noMotion motionZ)).need (decide (k = 3) || decide (k = 4) || noKnown knownZ))).odd = ((((false || !(decide (1 ≤ k) && decide (k ≤ 4))) || !(decide (k = 1) || noVote v)) || !(decide (k = 2) || noMotion motionZ)) || !(decide (k = 3) || decide (k = 4) || noKnown knownZ)) := rfl; rw [this] at hodd; have hr : ¬ (1 ≤ k ∧ k ≤ 4) := by omega
 have : (decide (1 ≤ k) && decide (k ≤ 4)) = false := by
  rw [Bool.eq_false_iff]; intro hc; simp only [Bool.and_eq_true, decide_eq_true_eq] at hc; exact hr hc
 rw [this] at hodd; simp at hodd
theorem Held.app {L : LogS} {all : List VoteD} (h : Held L all 0) (ok : L.Ok) (k : Int) {v : VoteD} (hv : v.ok) : ∃ all', Held (appF (recO k v) L).2 all' 0 ∧ (appF (recO k v) L).2.Ok ∧ (appF (recO k v) L).2.size ≤ L.size + 1000 := by
 unfold appF
 by_cases h1 : (recO k v).re = 0
 ·rw [if_neg (fun h => h h1)]
  by_cases h2 : L.down = true
  ·rw [if_pos h2]; exact ⟨all, h, ok, by show L.size ≤ _; omega⟩
  ·rw [if_neg h2]; obtain rfl := kind_one h1; have hl := recO_len 1 v; have hs := LogS.append_size L (frameL (recO 1 v).rs); rw [frameL_len] at hs; exact ⟨all ++ [v], (h.append (v := v) ⟨hv, h1⟩).1 h2, LogS.append_ok ok _, by dsimp only; omega⟩
 ·rw [if_pos h1]; exact ⟨all, h, ok, by show L.size ≤ _; omega⟩
theorem runL_len : ∀ (f : Nat) (l : List UInt8), 12 * (runL f l).1.length ≤ l.length
 | 0, l => by simp [runL]
 | f + 1, l => by
  simp only [runL]; cases h : firstL l with
  | none => simp
  | some p =>
   obtain ⟨k, k1, k2, hr⟩ := firstL_len (y := p.1) (r := p.2) h; have := runL_len f p.2; have hl : p.2.length = l.length - k := by rw [hr, List.length_drop]
   show 12 * ((runL f p.2).1.length + 1) ≤ _; omega
def bothInv : Inv where
 inv us := match us with
  | [.n n1, .l x1, .n n2, .l x2, .i i, .i left, .i keep, .b down, .s B, .i S, .i rl, .i rk, .b rd] => ∃ (L : LogS) (all : List VoteD), (([.n n1, .l x1, .n n2, .l x2, .i left, .i keep, .b down] : List U) = [.n L.safe.length, .l (bV L.safe), .n L.loose.length, .l (bV L.loose), .i L.left, .i L.keep, .b L.down]) ∧ (([.s B, .i S, .i rl, .i rk, .b rd] : List U) = RlogU L rk) ∧ KeepOk L rk ∧ L.Ok ∧ L.size ≤ 1000 * i.toNat ∧ 0 ≤ i ∧ i ≤ 512 ∧ Held L all 0
  | _ => False
 fact _ _ := True
 mea us := match us with
  | [.n _, .l _, .n _, .l _, .i i, .i _, .i _, .b _, .s _, .i _, .i _, .i _, .b _] => (512 - i).toNat
  | _ => 0
def stepInv : Inv where
 inv us := match us with
  | [.n n1, .l x1, .n n2, .l x2, .b ok, .i left, .i keep, .b down, .s B, .i S, .i rl, .i rk, .b rd, .i i] => ∃ (L : LogS) (all : List VoteD), ok = true ∧ (([.n n1, .l x1, .n n2, .l x2, .i left, .i keep, .b down] : List U) = [.n L.safe.length, .l (bV L.safe), .n L.loose.length, .l (bV L.loose), .i L.left, .i L.keep, .b L.down]) ∧ (([.s B, .i S, .i rl, .i rk, .b rd] : List U) = RlogU L rk) ∧ KeepOk L rk ∧ L.Ok ∧ L.size ≤ 1000 * (i + 1).toNat ∧ Held L all 0
  | _ => False
 fact _ _ := True
 mea _ := 0
def cfg_wx : Cfg := { con := [(7, 0), (19, 1), (11, 0), (13, 0), (15, 0), (17, 0), (20, 0), (22, 0), (23, 0), (12, 1), (14, 1), (16, 1), (18, 1), (21, 1)], own := 1, loops := [(6, { slots := [5], blks := [16, 18], rows := [101024, 101025] })], joins := [(10, { slots := [7], blks := [16, 18], rows := [101024, 101025], extra := [.un (.co .i) (.var 8)] })], lents := [(11, [(0, 112)]), (13, [(0, 112)]), (15, [(0, 112)]), (17, [(0, 112)]), (20, [(0, 112)]), (22, [(0, 112)]), (23, [(0, 112)]), (12, [(0, 38)]), (14, [(0, 38)]), (16, [(0, 38)]), (18, [(0, 38)]), (21, [(0, 38)])], rcells := [(16, 0, 5), (16, 1, 5)], lrows := [(11, [(0, 0, 5), (0, 1, 5)]), (13, [(0, 0, 5), (0, 1, 5)]), (15, [(0, 0, 5), (0, 1, 5)]), (17, [(0, 0, 5), (0, 1, 5)]), (20, [(0, 0, 5), (0, 1, 5)]), (22, [(0, 0, 5), (0, 1, 5)]), (23, [(0, 0, 5), (0, 1, 5)])], news := [(10, 112)] }
def vcd_wx : { v : VC // vcOfP Tryz.prog cfg_wx [(14, [1000002, 1003002, 9, 21, 1006002]), (28, [1000003, 15, 14, 18, 22, 26, 30, 34, 1009002, 46, 50, 54, 58, 62, 66, 1017002, 78, 82, 86, 90, 94, 98, 102, 104, 999999, 1003008, 47, 46, 50, 54, 58, 62, 66, 1017002, 78, 82, 86, 90, 94, 98, 102, 104, 999999, 1011008, 79, 78, 82, 86, 90, 94, 98, 102, 104, 999999, 76, 1021004, 81, 1025002])] 5 = v } := by refine ⟨?v, ?h⟩; rotate_left; conv => lhs; reduce
theorem vce_wx : vcOf Tryz.prog cfg_wx 5 = vcd_wx.1 := by kernel_rfl
set_option maxHeartbeats 2000000 in
theorem wx_keeps : Keeps Tryz.prog 5 StepsC := by
 refine keeps_v (hnew := newsOk_cons new_ok newsOk_nil) Tryz.func5 cfg_wx vce_wx [.p, .n, .n, .g] StepsC [(7, PickS), (19, SameC), (11, SyncC), (13, ArmC), (15, DieC), (17, BeginC), (20, AppC), (22, BytesC), (23, DownC), (12, RSyncC), (14, RArmC), (16, RDieC), (18, RBeginC), (21, RAppC)] ⟨pick_ok, samerec_keeps, sync_keeps, arm_keeps, die_keeps, begin_keeps, append_keeps, bytes_keeps, down_keeps, rsync_keeps, rarm_keeps, rdie_keeps, rbegin_keeps, rappend_keeps, trivial⟩ (by kernel_rfl) (fun us w w' h hb => by
  obtain ⟨A, c, l, e, r, q⟩ := h; exact ⟨A, c, l, e, (r.below hb).more hb.size, q⟩) ?_
 intro A n c α g w hp; obtain ⟨A', c', l, he, hr, hok⟩ := hp; simp only [RlogU, List.reverse_cons, List.reverse_nil, List.cons_append, List.nil_append, List.cons.injEq, U.p.injEq, U.i.injEq, U.s.injEq, U.l.injEq, U.n.injEq, U.b.injEq, and_true] at he; obtain ⟨rfl, rfl, rfl, hg⟩ := he; cases hg; refine ⟨[(6, bothInv), (1010, stepInv)], vc_use ?Q ?h ?g⟩
 case h => intro O C s I b; conv => lhs; reduce
 dsimp only [std]; simp only [ctrOf, invOf, List.lookup, Nat.reduceBEq, Option.getD_some, Int.reduceOfNat, Int.reduceNegSucc]; have hK : ∀ w, StepsC.pre [.p A, .n l.length, .n c, .g l] w → Rd w w.heap.size 9 A l.length (l.flatMap StepD.cells) := by
  rintro w ⟨A', c', l', he, hr, _⟩; simp only [RlogU, List.reverse_cons, List.reverse_nil, List.cons_append, List.nil_append, List.cons.injEq, U.p.injEq, U.i.injEq, U.s.injEq, U.l.injEq, U.n.injEq, U.b.injEq, and_true] at he; obtain ⟨rfl, h2, rfl, hg⟩ := he; cases hg; exact hr
 clear hr; refine ⟨fun _ => ⟨rfl, fun _ _ => trivial⟩, fun hn => ⟨⟨LogS.new, [], rfl, rfl, ⟨by unfold Iw; omega, fun h => absurd h (Int.lt_irrefl 0)⟩, LogS.new_ok, Nat.zero_le _, Int.le_refl _, by decide, Held.new⟩, fun _ _ => trivial, ?_⟩⟩; intro n1 x1 n2 x2 i left keep down B S rl rk rd hi; obtain ⟨L, all, e1, e2, hk, ok, hz, hi0, hi1, hh⟩ := hi; simp only [RlogU, List.reverse_cons, List.reverse_nil, List.cons_append, List.nil_append, List.cons.injEq, U.p.injEq, U.i.injEq, U.s.injEq, U.l.injEq, U.n.injEq, U.b.injEq, and_true] at e1 e2; obtain ⟨rfl, rfl, rfl, rfl, rfl, rfl, rfl⟩ := e1; obtain ⟨rfl, rfl, rfl, _, rfl⟩ := e2; refine ⟨fun hl => ?_, fun _ => ⟨rfl, fun _ _ => trivial⟩⟩; have hin : i.toNat < l.length := by omega
 obtain ⟨o1, o2, o3, o4, o5⟩ := hok _ (List.getElem_mem hin); generalize hX : l[i.toNat] = X at o1 o2 o3 o4 o5; unfold LogS.size at hz; have hbig : L.Small big := ⟨ok, by unfold LogS.size big; omega⟩
 have join : ∀ (L' : LogS) (all' : List VoteD) (k' : Int) (b : Bool), b = true → KeepOk L' k' → L'.Ok → L'.size ≤ L.size + 1000 → Held L' all' 0 → stepInv.inv [.n L'.safe.length, .l (bV L'.safe), .n L'.loose.length, .l (bV L'.loose), .b b, .i L'.left, .i L'.keep, .b L'.down, .s (bs (L'.safe ++ L'.loose)), .i L'.safe.length, .i L'.left, .i k', .b L'.down, .i i] := fun L' all' k' b hb h0 h1 h2 h3 => ⟨L', all', hb, rfl, rfl, h0, h1, by unfold LogS.size at h2 ⊢; omega, h3⟩
 refine ⟨fun w hw => rd_not_nil (hK w hw.1) (by omega), hi0, X.k, X.a, X.b, X.v.h, X.v.r, X.v.s, X.v.has, X.v.b, X.v.f, fun w hw => ?_, ⟨fun w _ => ⟨o1, by decide⟩, ?_⟩, ?_⟩
 ·have := loads_part (f := StepD.cells) (n := 9) (fun _ => rfl) (hK w hw.1) hin (off := 0) (part := X.cells) (Nat.le_refl _) (fun j v hv => by rw [Nat.zero_add, hX]; exact hv); exact this
 ·intro pk _; refine ⟨fun _ => ?_, fun _ => ⟨fun _ => ?_, fun _ => ⟨fun _ => ?_, fun _ => ⟨fun _ => ?_, fun _ => ⟨fun w _ => ⟨o3, by decide⟩, ?_⟩⟩⟩⟩⟩
  ·intro p1 c1 p2 c2 a1; refine ⟨fun w _ => ⟨a1, (), L, p1, p2, c1, c2, rfl, hbig, trivial⟩, ?_⟩; intro y0 y1 y2 y3 y4 y5 y6 y7 y8 y9 y10 y11 h; obtain ⟨M, p', q', c', d', rs, e1, rfl, rfl⟩ := h a1 () L p1 p2 c1 c2 rfl; have e1 := e1.symm; simp only [logU, RlogU, List.reverse_cons, List.reverse_nil, List.cons_append, List.nil_append, List.cons.injEq, U.p.injEq, U.i.injEq, U.s.injEq, U.l.injEq, U.n.injEq, U.b.injEq, and_true] at e1; obtain ⟨rfl, rfl, rfl, rfl, rfl, rfl, rfl, rfl, rfl, rfl, rfl, rfl⟩ := e1; intro a2; refine ⟨LogS, L, fun w _ => ⟨a2, (), L, rk, rfl, hk, hbig, trivial⟩, ?_⟩; intro z0 z1 z2 z3 z4 z5 h; obtain ⟨M, k', rs, e1, hk', rfl, rfl⟩ := h a2 () L rk rfl; have e1 := e1.symm; simp only [RlogU, List.reverse_cons, List.reverse_nil, List.cons_append, List.nil_append, List.cons.injEq, U.p.injEq, U.i.injEq, U.s.injEq, U.l.injEq, U.n.injEq, U.b.injEq, and_true] at e1; obtain ⟨rfl, rfl, rfl, rfl, rfl, rfl⟩ := e1; have hs1 := LogS.sync_size L; cases hy : L.sync.2 with
   | true => exact ⟨join L.sync.1 all k' _ (beq_self_eq_true _) hk' (LogS.sync_ok ok) (by omega) (by rcases hh.sync.1 hy with ⟨a, b, u1, u2, u3⟩ | ⟨a, u1, u2, u3⟩; exact .inl ⟨a, b, u1, u2, by omega⟩; exact .inr ⟨a, u1, u2, by omega⟩), fun _ _ => trivial, trivial⟩
   | false => exact ⟨join L.sync.1 all k' _ (beq_self_eq_true _) hk' (LogS.sync_ok ok) (by omega) (hh.sync.2 hy), fun _ _ => trivial, trivial⟩
  ·intro p1 c1 p2 c2 a1; refine ⟨fun w _ => ⟨a1, (X.a, X.b), L, p1, p2, c1, c2, rfl, hbig, trivial⟩, ?_⟩; intro y1 y2 y3 y4 y5 y6 y7 y8 y9 y10 y11 h; obtain ⟨M, p', q', c', d', rs, e1, rfl, rfl⟩ := h a1 (X.a, X.b) L p1 p2 c1 c2 rfl; have e1 := e1.symm; simp only [logU, RlogU, List.reverse_cons, List.reverse_nil, List.cons_append, List.nil_append, List.cons.injEq, U.p.injEq, U.i.injEq, U.s.injEq, U.l.injEq, U.n.injEq, U.b.injEq, and_true] at e1; obtain ⟨rfl, rfl, rfl, rfl, rfl, rfl, rfl, rfl, rfl, rfl, rfl⟩ := e1; intro a2; refine ⟨LogS, L, fun w _ => ⟨a2, (X.a, X.b), L, rk, rfl, hk, hbig, o2, o3⟩, ?_⟩; intro z1 z2 z3 z4 z5 h; obtain ⟨M, k', rs, e1, hk', rfl, rfl⟩ := h a2 (X.a, X.b) L rk rfl; have e1 := e1.symm; simp only [RlogU, List.reverse_cons, List.reverse_nil, List.cons_append, List.nil_append, List.cons.injEq, U.p.injEq, U.i.injEq, U.s.injEq, U.l.injEq, U.n.injEq, U.b.injEq, and_true] at e1; obtain ⟨rfl, rfl, rfl, rfl, rfl⟩ := e1; exact ⟨join (L.arm X.a X.b) all k' _ rfl hk' (LogS.arm_ok ok (by unfold Iw at o2; omega) (by unfold Iw at o3; omega)) (by rw [LogS.arm_size]; omega) (hh.arm _ _), fun _ _ => trivial, trivial⟩
  ·intro p1 c1 p2 c2 a1; refine ⟨fun w _ => ⟨a1, X.a, L, p1, p2, c1, c2, rfl, hbig, trivial⟩, ?_⟩; intro y1 y2 y3 y4 y5 y6 y7 y8 y9 y10 y11 h; obtain ⟨M, p', q', c', d', rs, e1, rfl, rfl⟩ := h a1 X.a L p1 p2 c1 c2 rfl; have e1 := e1.symm; simp only [logU, RlogU, List.reverse_cons, List.reverse_nil, List.cons_append, List.nil_append, List.cons.injEq, U.p.injEq, U.i.injEq, U.s.injEq, U.l.injEq, U.n.injEq, U.b.injEq, and_true] at e1; obtain ⟨rfl, rfl, rfl, rfl, rfl, rfl, rfl, rfl, rfl, rfl, rfl⟩ := e1; intro a2; refine ⟨LogS, L, fun w _ => ⟨a2, X.a, L, rk, rfl, hk, hbig, o2⟩, ?_⟩; intro z1 z2 z3 z4 z5 h; obtain ⟨M, k', rs, e1, hk', rfl, rfl⟩ := h a2 X.a L rk rfl; have e1 := e1.symm; simp only [RlogU, List.reverse_cons, List.reverse_nil, List.cons_append, List.nil_append, List.cons.injEq, U.p.injEq, U.i.injEq, U.s.injEq, U.l.injEq, U.n.injEq, U.b.injEq, and_true] at e1; obtain ⟨rfl, rfl, rfl, rfl, rfl⟩ := e1; have hs1 := LogS.die_size L X.a; exact ⟨join (L.die X.a) all k' _ rfl hk' (LogS.die_ok ok _) (by omega) (hh.die _), fun _ _ => trivial, trivial⟩
  ·intro p1 c1 p2 c2 a1; obtain ⟨m, g1, g2, g3, g4, g5⟩ := hh.begin; have hpl := plain_votes g1 g4; have hsm : L.Small 1000000000000 := ⟨ok, by unfold LogS.size; omega⟩
   refine ⟨fun w _ => ⟨a1, L, p1, p2, c1, c2, rfl, hsm, hpl⟩, ?_⟩; intro A2 nn2 cc2 y1 y2 y3 y4 y5 y6 y7 y8 y9 y10 y11 h; obtain ⟨M, p', q', c', d', rs, e1, A3, cap, rfl, rfl⟩ := h a1 () L p1 p2 c1 c2 rfl; have e1 := e1.symm; simp only [logU, RlogU, List.reverse_cons, List.reverse_nil, List.cons_append, List.nil_append, List.cons.injEq, U.p.injEq, U.i.injEq, U.s.injEq, U.l.injEq, U.n.injEq, U.b.injEq, and_true] at e1; obtain ⟨rfl, rfl, rfl, rfl, rfl, rfl, rfl, rfl, rfl, rfl, rfl, rfl, rfl, rfl⟩ := e1; intro a2; refine ⟨LogS, L, fun w _ => ⟨a2, L, rk, rfl, hk, hsm, hpl⟩, ?_⟩; intro A4 nn3 cc3 z1 z2 z3 z4 z5 h; obtain ⟨M, k', rs, e1, hk', A5, cap5, rfl, rfl⟩ := h a2 () L rk rfl; have e1 := e1.symm; simp only [RlogU, List.reverse_cons, List.reverse_nil, List.cons_append, List.nil_append, List.cons.injEq, U.p.injEq, U.i.injEq, U.s.injEq, U.l.injEq, U.n.injEq, U.b.injEq, and_true] at e1; obtain ⟨rfl, rfl, rfl, rfl, rfl, rfl, rfl, rfl⟩ := e1; have hs1 := begin_size L; have hrl := runL_len L.up.safe.length L.up.safe; have hus := LogS.up_size L; unfold LogS.size at hus; have hrl2 : (run L.up.safe).1.length ≤ 1000000000000 := by unfold run; omega
   refine ⟨List RecordD, (run L.up.safe).1, fun w hw => ⟨A3, cap, A5, cap5, (run L.up.safe).1, rfl, ?_, ?_, hpl, hrl2⟩, ?_⟩
   ·obtain ⟨A6, cap6, rest, e, r⟩ := hw.1.2 a1 L p1 p2 c1 c2 rfl; injection e with e _
    injection e with e
    rw [e]; exact r
   ·obtain ⟨A6, cap6, rest, e, r⟩ := hw.2 a2 L rk rfl; injection e with e _
    injection e with e
    rw [e]; exact r
   intro b hb; have hb : [U.b b] = [U.b true] := hb; simp only [List.cons.injEq, U.b.injEq, and_true] at hb; subst hb; exact ⟨join L.begin m k' _ rfl hk' (begin_ok ok) (by omega) (by rcases g5 with ⟨a, b, u1, u2, u3⟩ | ⟨a, u1, u2, u3⟩; exact .inl ⟨a, b, u1, u2, by omega⟩; exact .inr ⟨a, u1, u2, by omega⟩), fun _ _ => trivial, trivial⟩
  ·intro pk2 _; have hsm : L.Small 50000000000000 := ⟨ok, by unfold LogS.size; omega⟩
   refine ⟨fun _ => ?_, fun _ => ?_⟩
   ·intro p1 c1 p2 c2 a1; refine ⟨fun w _ => ⟨a1, (X.a, X.v), L, p1, p2, c1, c2, rfl, hsm, o5⟩, ?_⟩; intro y0 y1 y2 y3 y4 y5 y6 y7 y8 y9 y10 y11 h; obtain ⟨M, p', q', c', d', rs, e1, rfl, rfl⟩ := h a1 (X.a, X.v) L p1 p2 c1 c2 rfl; have e1 := e1.symm; dsimp only at e1; simp only [logU, RlogU, List.reverse_cons, List.reverse_nil, List.cons_append, List.nil_append, List.cons.injEq, U.p.injEq, U.i.injEq, U.s.injEq, U.l.injEq, U.n.injEq, U.b.injEq, and_true] at e1; obtain ⟨rfl, rfl, rfl, rfl, rfl, rfl, rfl, rfl, rfl, rfl, rfl, rfl⟩ := e1; intro a2; refine ⟨LogS, L, fun w _ => ⟨a2, (X.a, X.v), L, rk, rfl, hk, hsm, o5⟩, ?_⟩; intro z0 z1 z2 z3 z4 z5 h; obtain ⟨M, k', rs, e1, hk', rfl, rfl⟩ := h a2 (X.a, X.v) L rk rfl; have e1 := e1.symm; dsimp only at e1; simp only [RlogU, List.reverse_cons, List.reverse_nil, List.cons_append, List.nil_append, List.cons.injEq, U.p.injEq, U.i.injEq, U.s.injEq, U.l.injEq, U.n.injEq, U.b.injEq, and_true] at e1; obtain ⟨rfl, rfl, rfl, rfl, rfl, rfl⟩ := e1; obtain ⟨all2, u1, u2, u3⟩ := hh.app ok X.a o5; exact ⟨join (appF (recO X.a X.v) L).2 all2 k' _ (beq_self_eq_true _) hk' u2 u3 u1, fun _ _ => trivial, trivial⟩
   ·intro p1 c1 p2 c2 a1; refine ⟨fun w _ => ⟨a1, (1, X.v), L, p1, p2, c1, c2, rfl, hsm, o5⟩, ?_⟩; intro y0 y1 y2 y3 y4 y5 y6 y7 y8 y9 y10 y11 h; obtain ⟨M, p', q', c', d', rs, e1, rfl, rfl⟩ := h a1 (1, X.v) L p1 p2 c1 c2 rfl; have e1 := e1.symm; dsimp only at e1; simp only [logU, RlogU, List.reverse_cons, List.reverse_nil, List.cons_append, List.nil_append, List.cons.injEq, U.p.injEq, U.i.injEq, U.s.injEq, U.l.injEq, U.n.injEq, U.b.injEq, and_true] at e1; obtain ⟨rfl, rfl, rfl, rfl, rfl, rfl, rfl, rfl, rfl, rfl, rfl, rfl⟩ := e1; intro a2; refine ⟨LogS, L, fun w _ => ⟨a2, (1, X.v), L, rk, rfl, hk, hsm, o5⟩, ?_⟩; intro z0 z1 z2 z3 z4 z5 h; obtain ⟨M, k', rs, e1, hk', rfl, rfl⟩ := h a2 (1, X.v) L rk rfl; have e1 := e1.symm; dsimp only at e1; simp only [RlogU, List.reverse_cons, List.reverse_nil, List.cons_append, List.nil_append, List.cons.injEq, U.p.injEq, U.i.injEq, U.s.injEq, U.l.injEq, U.n.injEq, U.b.injEq, and_true] at e1; obtain ⟨rfl, rfl, rfl, rfl, rfl, rfl⟩ := e1; obtain ⟨all2, u1, u2, u3⟩ := hh.app ok 1 o5; exact ⟨join (appF (recO 1 X.v) L).2 all2 k' _ (beq_self_eq_true _) hk' u2 u3 u1, fun _ _ => trivial, trivial⟩
 ·intro n1 x1 n2 x2 ob left keep down B S rl rk2 rd hj; obtain ⟨M, all', rfl, e1, e2, hk', ok', hz', hh'⟩ := hj; simp only [RlogU, List.reverse_cons, List.reverse_nil, List.cons_append, List.nil_append, List.cons.injEq, U.p.injEq, U.i.injEq, U.s.injEq, U.l.injEq, U.n.injEq, U.b.injEq, and_true] at e1 e2; obtain ⟨rfl, rfl, rfl, rfl, rfl, rfl, rfl⟩ := e1; obtain ⟨rfl, rfl, rfl, _, rfl⟩ := e2; unfold LogS.size at hz'; have hbig2 : M.Small big := ⟨ok', by unfold LogS.size big; omega⟩
  intro p1 c1 p2 c2 a1; refine ⟨fun w _ => ⟨a1, (), M, p1, p2, c1, c2, rfl, hbig2, trivial⟩, ?_⟩; intro y0 y1 y2 y3 y4 y5 y6 y7 y8 y9 y10 y11 y12 h; obtain ⟨M2, p', q', c', d', rs, e1, rfl, rfl⟩ := h a1 () M p1 p2 c1 c2 rfl; have e1 := e1.symm; simp only [logU, RlogU, List.reverse_cons, List.reverse_nil, List.cons_append, List.nil_append, List.cons.injEq, U.p.injEq, U.i.injEq, U.s.injEq, U.l.injEq, U.n.injEq, U.b.injEq, and_true] at e1; obtain ⟨rfl, rfl, rfl, rfl, rfl, rfl, rfl, rfl, rfl, rfl, rfl, rfl, rfl⟩ := e1; refine ⟨fun h => absurd rfl h, fun _ => ⟨fun h => absurd (by rw [bs_add, beq_self_eq_true]) h, fun _ => ⟨fun h => absurd rfl h, fun _ => ?_⟩⟩⟩; intro a3; refine ⟨fun w _ => ⟨a3, (), M2, p', q', c', d', rfl, hbig2, trivial⟩, ?_⟩; intro y0 y1 y2 y3 y4 y5 y6 y7 y8 y9 y10 y11 h; obtain ⟨M3, p3, q3, c3, d3, rs, e1, rfl, rfl⟩ := h a3 () M2 p' q' c' d' rfl; have e1 := e1.symm; simp only [logU, RlogU, List.reverse_cons, List.reverse_nil, List.cons_append, List.nil_append, List.cons.injEq, U.p.injEq, U.i.injEq, U.s.injEq, U.l.injEq, U.n.injEq, U.b.injEq, and_true] at e1; obtain ⟨rfl, rfl, rfl, rfl, rfl, rfl, rfl, rfl, rfl, rfl, rfl, rfl⟩ := e1; refine ⟨fun h => absurd (beq_self_eq_true _) h, fun _ => ⟨⟨by omega, by omega⟩, ⟨M3, all', rfl, rfl, hk', ok', by unfold LogS.size; omega, by omega, by omega, hh'⟩, fun _ _ => trivial, ?_, trivial⟩⟩; show (512 - (i + 1)).toNat < (512 - i).toNat; omega
end Go.Proofs.YtjhaafbbdgjagaaGreat
namespace Go.Proofs.YtjhaafbbdgjagaaGreat
open Go.ChangeShapes Go.WideShapes Go.ChangeAt Go.RowKit Go.Deep
section
variable {H : Type} {enc : TypeId × Value → H} {W : World}
def IsVoteK (cs : List Value) (x : VoteD) : Prop := cs = [.int .i64 x.h, .int .i64 x.r, .int .i64 x.s, .bool x.has, .int .u64 x.b, .int .i64 x.f] ∧ Iw x.h ∧ x.ok
theorem cellsK_vote : Tryz.prog.cellsOf 42 = 6 := by kernel_rfl
theorem cellsK_step : Tryz.prog.cellsOf 44 = 9 := by kernel_rfl
set_option maxRecDepth 100000 in
theorem vote_trodK : ∀ fuel cs x, DataW.trod enc Tryz.prog W 0 (fun _ => true) true fuel 42 cs = some x → ∃ d, IsVoteK cs d := by
 intro fuel cs x h; obtain ⟨hl, n, xs, hx, hxl, hg⟩ := open_structB Tryz.underlying42 h; rw [cellsK_vote] at hl
 match cs, hl, xs, hxl with
 | [c0, c1, c2, c3, c4, c5], _, [y0, y1, y2, y3, y4, y5], _ =>
  have h0 : DataW.trod enc Tryz.prog W 0 (fun _ => true) true n 3 (([c0, c1, c2, c3, c4, c5].drop 0).take (Tryz.prog.cellsOf 3)) = some y0 := hg 0 _ rfl; rw [show Tryz.prog.cellsOf 3 = 1 by kernel_rfl] at h0; have h1 : DataW.trod enc Tryz.prog W 0 (fun _ => true) true n 3 (([c0, c1, c2, c3, c4, c5].drop 1).take (Tryz.prog.cellsOf 3)) = some y1 := hg 1 _ rfl; rw [show Tryz.prog.cellsOf 3 = 1 by kernel_rfl] at h1; have h2 : DataW.trod enc Tryz.prog W 0 (fun _ => true) true n 3 (([c0, c1, c2, c3, c4, c5].drop 2).take (Tryz.prog.cellsOf 3)) = some y2 := hg 2 _ rfl; rw [show Tryz.prog.cellsOf 3 = 1 by kernel_rfl] at h2; have h3 : DataW.trod enc Tryz.prog W 0 (fun _ => true) true n 4 (([c0, c1, c2, c3, c4, c5].drop 3).take (Tryz.prog.cellsOf 4)) = some y3 := hg 3 _ rfl; rw [show Tryz.prog.cellsOf 4 = 1 by kernel_rfl] at h3; have h4 : DataW.trod enc Tryz.prog W 0 (fun _ => true) true n 40 (([c0, c1, c2, c3, c4, c5].drop 4).take (Tryz.prog.cellsOf 40)) = some y4 := hg 4 _ rfl; rw [show Tryz.prog.cellsOf 40 = 1 by kernel_rfl] at h4; have h5 : DataW.trod enc Tryz.prog W 0 (fun _ => true) true n 3 (([c0, c1, c2, c3, c4, c5].drop 5).take (Tryz.prog.cellsOf 3)) = some y5 := hg 5 _ rfl; rw [show Tryz.prog.cellsOf 3 = 1 by kernel_rfl] at h5; obtain ⟨a0, ⟨e0, g0⟩, _⟩ := int_trodB _ _ _ h0; obtain ⟨a1, ⟨e1, g1⟩, _⟩ := int_trodB _ _ _ h1; obtain ⟨a2, ⟨e2, g2⟩, _⟩ := int_trodB _ _ _ h2; obtain ⟨a3, ⟨e3, g3⟩, _⟩ := bool_trodB _ _ _ h3; obtain ⟨a4, ⟨e4, g4⟩, _⟩ := dig_trodB _ _ _ h4; obtain ⟨a5, ⟨e5, g5⟩, _⟩ := int_trodB _ _ _ h5; simp at e0 e1 e2 e3 e4 e5; subst e0; subst e1; subst e2; subst e3; subst e4; subst e5; exact ⟨⟨a0, a1, a2, a3, a4, a5⟩, rfl, g0, g4⟩
def IsStep (cs : List Value) (x : StepD) : Prop := cs = StepD.cells x ∧ x.ok
set_option maxRecDepth 100000 in
theorem step_trodK : ∀ fuel cs x, DataW.trod enc Tryz.prog W 0 (fun _ => true) true fuel 44 cs = some x → ∃ d, IsStep cs d := by
 intro fuel cs x h; obtain ⟨hl, n, xs, hx, hxl, hg⟩ := open_structB Tryz.underlying44 h; rw [cellsK_step] at hl
 match cs, hl, xs, hxl with
 | [c0, c1, c2, c3, c4, c5, c6, c7, c8], _, [y0, y1, y2, y3], _ =>
  have h0 : DataW.trod enc Tryz.prog W 0 (fun _ => true) true n 3 (([c0, c1, c2, c3, c4, c5, c6, c7, c8].drop 0).take (Tryz.prog.cellsOf 3)) = some y0 := hg 0 _ rfl; rw [show Tryz.prog.cellsOf 3 = 1 by kernel_rfl] at h0; have h1 : DataW.trod enc Tryz.prog W 0 (fun _ => true) true n 3 (([c0, c1, c2, c3, c4, c5, c6, c7, c8].drop 1).take (Tryz.prog.cellsOf 3)) = some y1 := hg 1 _ rfl; rw [show Tryz.prog.cellsOf 3 = 1 by kernel_rfl] at h1; have h2 : DataW.trod enc Tryz.prog W 0 (fun _ => true) true n 3 (([c0, c1, c2, c3, c4, c5, c6, c7, c8].drop 2).take (Tryz.prog.cellsOf 3)) = some y2 := hg 2 _ rfl; rw [show Tryz.prog.cellsOf 3 = 1 by kernel_rfl] at h2; have h3 : DataW.trod enc Tryz.prog W 0 (fun _ => true) true n 42 (([c0, c1, c2, c3, c4, c5, c6, c7, c8].drop 3).take (Tryz.prog.cellsOf 42)) = some y3 := hg 3 _ rfl; rw [show Tryz.prog.cellsOf 42 = 6 by kernel_rfl] at h3; obtain ⟨a0, ⟨e0, g0⟩, _⟩ := int_trodB _ _ _ h0; obtain ⟨a1, ⟨e1, g1⟩, _⟩ := int_trodB _ _ _ h1; obtain ⟨a2, ⟨e2, g2⟩, _⟩ := int_trodB _ _ _ h2; obtain ⟨v, e3, g3, g4⟩ := vote_trodK _ _ _ h3; simp at e0 e1 e2 e3; subst e0; subst e1; subst e2; obtain ⟨rfl, rfl, rfl, rfl, rfl, rfl⟩ := e3; exact ⟨⟨a0, a1, a2, v⟩, rfl, g0, g1, g2, g3, g4⟩
set_option maxRecDepth 100000 in
theorem open_steps {v : Value} {d : DataW H} {p : List MemPlace} (hv : Value.okWide Tryz.prog W .any 0 33 v) (h : DataW.Trod enc Tryz.prog W 0 (fun _ => true) true 33 v d p) :
  ∃ A c, ∃ l : List StepD, v = .slice A l.length c ∧ Rd W W.heap.size 9 A l.length (l.flatMap StepD.cells) ∧ ∀ x ∈ l, x.ok := by
 obtain ⟨fuel, hf⟩ := h; obtain ⟨a, len, cap, rfl⟩ := okWide_slice Tryz.underlying33 hv; obtain ⟨l, hl⟩ := slOf_of_trod (size := 9) (R := IsStep) Tryz.underlying33 cellsK_step (by omega) step_trodK _ _ _ hf; obtain ⟨A, c, e, _, _, h3, h4⟩ := hl.flat StepD.cells (fun _ _ hx => hx.1); simp [Value.cells] at e; obtain ⟨rfl, rfl, rfl⟩ := e; exact ⟨_, _, l, rfl, h3, fun y hy => by obtain ⟨cs, hc⟩ := h4 y hy; exact hc.2⟩
end
end Go.Proofs.YtjhaafbbdgjagaaGreat
