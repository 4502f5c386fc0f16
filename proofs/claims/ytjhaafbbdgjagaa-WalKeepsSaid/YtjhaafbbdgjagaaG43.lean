/- Of the texts Wal7. -/
import Derived.Test.YtjhaafbbdgjagaaG41
import Derived.Test.YtjhaafbbdgjagaaG42
set_option linter.unusedSimpArgs false
set_option linter.unusedVariables false
namespace Go.Proofs.Ytjhaafbbdgjagaa
open Go Go.RowKit Vc
set_option maxRecDepth 100000
def StepsC : Ctr where
 gh := 1
 pre us w := ∃ A c, ∃ l : List StepD, us = [.p A, .n l.length, .n c, .g l] ∧ Rd w w.heap.size 9 A l.length (l.flatMap StepD.cells) ∧ ∀ x ∈ l, x.ok
 post _ os := os = [.b true]
 fact _ _ _ := True
theorem new_ok : NewOk Try.prog 4 60 := by
 refine ⟨_, _, rfl, rfl, fun w => ?_⟩; go_enter Try.func4, Try.ntmps4; go_wp2; go_ret; exact ⟨rfl, rfl⟩
theorem loads_part {α : Type} {n : Nat} {f : α → List Value} (hf : ∀ x, (f x).length = n) {w : World} {B : Nat} {A : Option Addr} {l : List α} (h : Rd w B n A l.length (l.flatMap f)) {k : Nat} (hk : k < l.length) {off : Nat} {part : List Value} (hl : off + part.length ≤ n) (hp : ∀ j v, part[j]? = some v → (f l[k])[off + j]? = some v) : LoadsAt w (A.map (·.add (k * n + off))) part := by
 refine loads_rd' h (by omega) fun j v hv => ?_
 have hj : j < part.length := (List.getElem?_eq_some_iff.1 hv).1; rw [Nat.add_assoc, flatMap_at n f hf l k (off + j) (by omega), List.getElem?_eq_getElem hk]; exact hp j v hv
def Held (L : LogS) (all : List VoteD) (s : Int) : Prop := (∃ a b, L.Up a b ∧ all = a ++ b ∧ s ≤ a.length) ∨ (∃ a, L.Dn a ∧ a <+: all ∧ s ≤ a.length)
theorem Held.arm {L : LogS} {all : List VoteD} {s : Int} (h : Held L all s) (n k : Int) : Held (L.arm n k) all s := h
theorem Held.die {L : LogS} {all : List VoteD} {s : Int} (h : Held L all s) (k : Int) : Held (L.die k) all s := by
 rcases h with ⟨a, b, h1, rfl, h3⟩ | ⟨a, h1, h2, h3⟩
 ·obtain ⟨c, c1, c2⟩ := h1.die k; refine .inr ⟨a ++ c, c2, (List.prefix_append_right_inj a).2 c1, ?_⟩; rw [List.length_append]; omega
 ·rw [h1.die]; exact .inr ⟨a, h1, h2, h3⟩
theorem Held.sync {L : LogS} {all : List VoteD} {s : Int} (h : Held L all s) : (L.sync.2 = true → Held L.sync.1 all all.length) ∧ (L.sync.2 = false → Held L.sync.1 all s) := by
 rcases h with ⟨a, b, h1, rfl, h3⟩ | ⟨a, h1, h2, h3⟩
 ·rcases h1.sync with ⟨g1, g2⟩ | ⟨g1, c, c1, c2⟩
  ·exact ⟨fun _ => .inl ⟨a ++ b, [], g2, by rw [List.append_nil], Int.le_refl _⟩, fun h => (by rw [g1] at h; cases h)⟩
  ·refine ⟨fun h => (by rw [g1] at h; cases h), fun _ => .inr ⟨a ++ c, c2, (List.prefix_append_right_inj a).2 c1, ?_⟩⟩; rw [List.length_append]; omega
 ·rw [h1.sync]; exact ⟨fun h => (by cases h), fun _ => .inr ⟨a, h1, h2, h3⟩⟩
theorem Held.append {L : LogS} {all : List VoteD} {s : Int} (h : Held L all s) {v : VoteD} (hv : Fine v) : (¬ L.down = true → Held (L.append (fr v)) (all ++ [v]) s) ∧ (L.down = true → Held L all s) := by
 refine ⟨fun hd => ?_, fun _ => h⟩
 rcases h with ⟨a, b, h1, rfl, h3⟩ | ⟨a, h1, h2, h3⟩
 ·rcases h1.append hv with g | ⟨c, c1, c2⟩
  ·exact .inl ⟨a, b ++ [v], g, by rw [List.append_assoc], h3⟩
  ·refine .inr ⟨a ++ c, c2, ?_, ?_⟩
   ·rw [List.append_assoc]; exact (List.prefix_append_right_inj a).2 c1
   ·rw [List.length_append]; omega
 ·exact absurd h1.1 hd
theorem Held.begin {L : LogS} {all : List VoteD} {s : Int} (h : Held L all s) : ∃ m, (run L.up.safe).1 = m.map (recW 1) ∧ m <+: all ∧ s ≤ m.length ∧ (∀ v ∈ m, Fine v) ∧ Held L.begin m m.length := by
 rcases h with ⟨a, b, h1, rfl, h3⟩ | ⟨a, h1, h2, h3⟩
 ·obtain ⟨g1, g2⟩ := h1.begin; refine ⟨a ++ b, by rw [g1], List.prefix_refl _, by rw [List.length_append]; omega, h1.2.2.2, .inl ⟨a ++ b, [], g2, by rw [List.append_nil], Int.le_refl _⟩⟩
 ·obtain ⟨⟨t, g1⟩, g2⟩ := h1.begin; exact ⟨a, by rw [g1], h2, h3, h1.2.2.2, .inl ⟨a, [], g2, by rw [List.append_nil], Int.le_refl _⟩⟩
theorem Held.new : Held LogS.new [] 0 := .inl ⟨[], [], ⟨rfl, rfl, rfl, fun _ h => nomatch h⟩, rfl, Int.le_refl _⟩
theorem begin_ok {L : LogS} (h : L.Ok) : L.begin.Ok := LogS.up_ok h
theorem begin_size (L : LogS) : L.begin.size ≤ L.size := by
 refine Nat.le_trans ?_ (LogS.up_size L); show (L.up.safe.take _).length + _ ≤ _; rw [List.length_take]; show _ ≤ L.up.safe.length + L.up.loose.length; have : L.begin.loose = L.up.loose := rfl; rw [this]; omega
def voteKp (h r f : Int) : VoteD := ⟨h, r, 1, false, 0, 1 + f⟩
theorem fine_k {h r f : Int} (h1 : 0 ≤ h ∧ h < 99) (h2 : 0 ≤ r ∧ r < 9) (h3 : 0 ≤ f ∧ f < 9) : Fine (voteKp h r f) := by
 refine ⟨⟨Int.le_refl _, (by decide : (0 : Int) < 18446744073709551616)⟩, ?_⟩; have g1 : farN h = false := decide_eq_false (by omega); have g2 : farN r = false := decide_eq_false (by omega); have g3 : farN (1 + f) = false := decide_eq_false (by omega); have hf : (recO 1 (voteKp h r f)).far = ((((((false || farN 1) || farN h) || farN r) || farN 1)) || farN (1 + f)) := rfl; have ho : (recO 1 (voteKp h r f)).odd = (((((false || !(decide ((1 : Int) ≤ 1) && decide ((1 : Int) ≤ 4))) || !(decide ((1 : Int) = 1) || noVote (voteKp h r f))) || !(decide ((1 : Int) = 2) || noMotion motionZ)) || !(decide ((1 : Int) = 3) || decide ((1 : Int) = 4) || noKnown knownZ)) || !voteOk (voteKp h r f)) := rfl; have e1 : voteOk (voteKp h r f) = true := by
  show (decide ((1 : Int) ≤ 2) && decide (1 ≤ 1 + f) && (false || (decide ((0 : Int) = 0) && !decide ((1 : Int) = 0)))) = true; rw [decide_eq_true (p := 1 ≤ 1 + f) (by omega)]; rfl
 unfold Out.re; rw [hf, ho, g1, g2, g3, e1]; rfl
theorem flat_len {α : Type} {n : Nat} {f : α → List Value} (hf : ∀ x, (f x).length = n) : ∀ l : List α, (l.flatMap f).length = l.length * n
 | [] => by simp
 | x :: l => by rw [List.flatMap_cons, List.length_append, hf, flat_len hf l, List.length_cons, Nat.succ_mul, Nat.add_comm]
theorem flat_take {α : Type} {n : Nat} {f : α → List Value} (hf : ∀ x, (f x).length = n) {m all : List α} (h : m <+: all) : (all.flatMap f).take (m.length * n) = m.flatMap f := by
 obtain ⟨t, rfl⟩ := h; rw [List.flatMap_append, List.take_append_of_le_length (by rw [flat_len hf]; exact Nat.le_refl _), List.take_of_length_le (by rw [flat_len hf]; exact Nat.le_refl _)]
theorem pre_get {α : Type} {m all : List α} (h : m <+: all) {k : Nat} (hk : k < m.length) : all[k]? = some m[k] := by
 obtain ⟨t, rfl⟩ := h; rw [List.getElem?_append_left hk, List.getElem?_eq_getElem hk]
theorem cells38 (x : RecordD) : (recordR.cells x).length = 38 := rfl
theorem loads_vote {w : World} {B : Nat} {A : Option Addr} {m : List VoteD} (r : Rd w B 38 A (m.map (recW 1)).length ((m.map (recW 1)).flatMap recordR.cells)) {k : Nat} (hk : k < m.length) : LoadsAt w (A.map (·.add (k * 38))) [.int .i64 1] ∧ LoadsAt w (A.map (·.add (k * 38 + 1))) (voteR.cells m[k]) := by
 have hkl : k < (m.map (recW 1)).length := by rw [List.length_map]; exact hk
 have he : (m.map (recW 1))[k] = recW 1 m[k] := List.getElem_map ..; constructor
 ·have := loads_part (f := recordR.cells) (n := 38) cells38 r hkl (off := 0) (part := [.int .i64 1]) (by decide) (fun j v hv => by
   rw [Nat.zero_add, he]; cases j with
   | zero => exact hv
   | succ j => cases hv)
  rw [Nat.add_zero] at this; exact this
 ·refine loads_part (f := recordR.cells) (n := 38) cells38 r hkl (off := 1) (part := voteR.cells m[k]) (show 1 + 6 ≤ 38 by decide) (fun j v hv => ?_); have hj : j < 6 := (List.getElem?_eq_some_iff.1 hv).1; have : recordR.cells (recW 1 m[k]) = [.int .i64 1] ++ (voteR.cells m[k] ++ (recordR.cells (recW 1 m[k])).drop 7) := rfl; rw [he, this, List.getElem?_append_right (by show 1 ≤ 1 + j; omega)]; show (voteR.cells m[k] ++ _)[1 + j - 1]? = _; rw [Nat.add_sub_cancel_left, List.getElem?_append_left hj]; exact hv
def keepInv : Inv where
 inv us := match us with
  | [.n m, .l xs, .n n1, .l x1, .n n2, .l x2, .i s, .i i, .i left, .i keep, .b down] => ∃ (L : LogS) (all : List VoteD), m = all.length ∧ xs = all.flatMap voteR.cells ∧ (([.n n1, .l x1, .n n2, .l x2, .i left, .i keep, .b down] : List U) = [.n L.safe.length, .l (bV L.safe), .n L.loose.length, .l (bV L.loose), .i L.left, .i L.keep, .b L.down]) ∧ L.Ok ∧ L.size ≤ 1000 * i.toNat ∧ all.length ≤ i.toNat ∧ 0 ≤ i ∧ i ≤ 512 ∧ Held L all s
  | _ => False
 fact _ _ := True
 mea us := match us with
  | [.n _, .l _, .n _, .l _, .n _, .l _, .i _, .i i, .i _, .i _, .b _] => (512 - i).toNat
  | _ => 0
def seeInv : Inv where
 inv us := match us with
  | [.i k] => 0 ≤ k ∧ k ≤ 512
  | _ => False
 fact _ _ := True
 mea us := match us with
  | [.i k] => (512 - k).toNat
  | _ => 0
def cfg_wk : Cfg := { con := [(5, 0), (6, 0), (7, 0), (8, 0), (9, 0), (10, 0), (11, 0)], own := 1, loops := [(7, { slots := [4, 5, 6], blks := [16], rows := [4, 101024, 101025] }), (30, { slots := [9] })], rows := [(4, 29)], lents := [(6, [(0, 60)]), (7, [(0, 60)]), (8, [(0, 60)]), (9, [(0, 60)]), (10, [(0, 60)]), (11, [(0, 60)])], rcells := [(16, 0, 5), (16, 1, 5)], lrows := [(6, [(0, 0, 5), (0, 1, 5)]), (7, [(0, 0, 5), (0, 1, 5)]), (8, [(0, 0, 5), (0, 1, 5)]), (9, [(0, 0, 5), (0, 1, 5)]), (10, [(0, 0, 5), (0, 1, 5)]), (11, [(0, 0, 5), (0, 1, 5)])], news := [(4, 60)] }
def vcd_wk : { v : VC // vcOfP Try.prog cfg_wk [(32, [1000007, 31, 30, 34, 38, 42, 46, 50, 54, 58, 62, 66, 68, 999999, 1007011]), (11, [1000003, 1004002, 1007002, 13, 25, 37, 40, 45, 49, 53])] 3 = v } := by refine ⟨?v, ?h⟩; rotate_left; conv => lhs; reduce
theorem vce_wk : vcOf Try.prog cfg_wk 3 = vcd_wk.1 := by kernel_rfl
set_option maxHeartbeats 2000000 in
theorem wk_keeps : Keeps Try.prog 3 StepsC := by
 refine keeps_v (hnew := newsOk_cons new_ok newsOk_nil) Try.func3 cfg_wk vce_wk [.p, .n, .n, .g] StepsC [(5, PickS), (6, SyncC), (7, ArmC), (8, DieC), (9, BeginC), (10, DownC), (11, AppC)] ⟨pick_ok, sync_keeps, arm_keeps, die_keeps, begin_keeps, down_keeps, append_keeps, trivial⟩ (by kernel_rfl) (fun us w w' h hb => by
  obtain ⟨A, c, l, e, r, q⟩ := h; exact ⟨A, c, l, e, (r.below hb).more hb.size, q⟩) ?_
 intro A n c α g w hp; obtain ⟨A', c', l, he, hr, hok⟩ := hp; simp only [List.reverse_cons, List.reverse_nil, List.cons_append, List.nil_append, List.cons.injEq, U.p.injEq, U.i.injEq, U.l.injEq, U.n.injEq, U.b.injEq, and_true] at he; obtain ⟨rfl, rfl, rfl, hg⟩ := he; cases hg; refine ⟨[(7, keepInv), (30, seeInv)], vc_use ?Q ?h ?g⟩
 case h => intro O C s I b; conv => lhs; reduce
 dsimp only [std]; simp only [ctrOf, invOf, List.lookup, Nat.reduceBEq, Option.getD_some, Int.reduceOfNat, Int.reduceNegSucc]; have hK : ∀ w, StepsC.pre [.p A, .n l.length, .n c, .g l] w → Rd w w.heap.size 9 A l.length (l.flatMap StepD.cells) := by
  rintro w ⟨A', c', l', he, hr, _⟩; simp only [List.cons_append, List.nil_append, List.cons.injEq, U.p.injEq, U.i.injEq, U.l.injEq, U.n.injEq, U.b.injEq, and_true] at he; obtain ⟨rfl, h2, rfl, hg⟩ := he; cases hg; exact hr
 clear hr; refine ⟨fun _ => ⟨rfl, fun _ _ => trivial⟩, fun hn => ⟨⟨LogS.new, [], rfl, rfl, rfl, LogS.new_ok, Nat.zero_le _, Nat.zero_le _, Int.le_refl _, by decide, Held.new⟩, fun _ _ => trivial, ?_⟩⟩; intro m xs n1 x1 n2 x2 s i left keep down hi; obtain ⟨L, all, rfl, rfl, e1, ok, hz, ha, hi0, hi1, hh⟩ := hi; simp only [List.cons_append, List.nil_append, List.cons.injEq, U.p.injEq, U.i.injEq, U.l.injEq, U.n.injEq, U.b.injEq, and_true] at e1; obtain ⟨rfl, rfl, rfl, rfl, rfl, rfl, rfl⟩ := e1; refine ⟨fun hl => ?_, fun _ => ⟨rfl, fun _ _ => trivial⟩⟩; have hin : i.toNat < l.length := by omega
 obtain ⟨o1, o2, o3, o4, o5⟩ := hok _ (List.getElem_mem hin); have hx : l[i.toNat] = l[i.toNat] := rfl; generalize hX : l[i.toNat] = X at o1 o2 o3 o4 o5; clear hx; unfold LogS.size at hz; have hbig : L.size ≤ big := by unfold LogS.size big; omega
 have next : ∀ (L' : LogS) (all' : List VoteD) (s' : Int), L'.Ok → L'.size ≤ L.size + 1000 → all'.length ≤ all.length + 1 → Held L' all' s' → keepInv.inv [.n all'.length, .l (all'.flatMap voteR.cells), .n L'.safe.length, .l (bV L'.safe), .n L'.loose.length, .l (bV L'.loose), .i s', .i (i + 1), .i L'.left, .i L'.keep, .b L'.down] := fun L' all' s' h1 h2 h3 h4 => ⟨L', all', rfl, rfl, rfl, h1, by unfold LogS.size at h2 ⊢; omega, by omega, by omega, by omega, h4⟩
 have mless : (512 - (i + 1)).toNat < (512 - i).toNat := by omega
 refine ⟨fun w hw => rd_not_nil (hK w hw.1) (by omega), hi0, X.k, X.a, X.b, X.v.h, X.v.r, X.v.s, X.v.has, X.v.b, X.v.f, fun w hw => ?_, fun w _ => ⟨o1, by decide⟩, ?_⟩
 ·have := loads_part (f := StepD.cells) (n := 9) (fun _ => rfl) (hK w hw.1) hin (off := 0) (part := X.cells) (Nat.le_refl _) (fun j v hv => by rw [Nat.zero_add, hX]; exact hv); exact this
 intro pk _; refine ⟨fun _ => ?_, fun _ => ⟨fun _ => ?_, fun _ => ⟨fun _ => ?_, fun _ => ⟨fun _ => ?_, fun _ => ?_⟩⟩⟩⟩
 ·intro p1 c1 p2 c2 a1; refine ⟨fun w _ => ⟨a1, (), L, p1, p2, c1, c2, rfl, ⟨ok, hbig⟩, trivial⟩, ?_⟩; intro y0 y1 y2 y3 y4 y5 y6 y7 y8 y9 y10 y11 h; obtain ⟨M, p', q', c', d', rs, e1, rfl, rfl⟩ := h a1 () L p1 p2 c1 c2 rfl; have e1 := e1.symm; simp only [logU, List.cons_append, List.nil_append, List.cons.injEq, U.p.injEq, U.i.injEq, U.l.injEq, U.n.injEq, U.b.injEq, and_true] at e1; obtain ⟨rfl, rfl, rfl, rfl, rfl, rfl, rfl, rfl, rfl, rfl, rfl, rfl⟩ := e1; have hs1 := LogS.sync_size L; refine ⟨fun h0 => ⟨⟨by omega, by omega⟩, next L.sync.1 all all.length (LogS.sync_ok ok) (by omega) (by omega) (hh.sync.1 ?_), fun _ _ => trivial, mless, trivial⟩, fun h0 => ⟨⟨by omega, by omega⟩, next L.sync.1 all s (LogS.sync_ok ok) (by omega) (by omega) (hh.sync.2 ?_), fun _ _ => trivial, mless, trivial⟩⟩
  ·cases h2 : L.sync.2 with
   | true => rfl
   | false => rw [h2] at h0; exact absurd h0 (by decide)
  ·cases h2 : L.sync.2 with
   | true => rw [h2] at h0; exact absurd rfl h0
   | false => rfl
 ·intro p1 c1 p2 c2 a1; refine ⟨fun w _ => ⟨a1, (X.a, X.b), L, p1, p2, c1, c2, rfl, ⟨ok, hbig⟩, trivial⟩, ?_⟩; intro y1 y2 y3 y4 y5 y6 y7 y8 y9 y10 y11 h; obtain ⟨M, p', q', c', d', rs, e1, rfl, rfl⟩ := h a1 (X.a, X.b) L p1 p2 c1 c2 rfl; have e1 := e1.symm; simp only [logU, List.cons_append, List.nil_append, List.cons.injEq, U.p.injEq, U.i.injEq, U.l.injEq, U.n.injEq, U.b.injEq, and_true] at e1; obtain ⟨rfl, rfl, rfl, rfl, rfl, rfl, rfl, rfl, rfl, rfl, rfl⟩ := e1; exact ⟨⟨by omega, by omega⟩, next (L.arm X.a X.b) all s (LogS.arm_ok ok (by unfold Iw at o2; omega) (by unfold Iw at o3; omega)) (by rw [LogS.arm_size]; omega) (by omega) (hh.arm _ _), fun _ _ => trivial, mless, trivial⟩
 ·intro p1 c1 p2 c2 a1; refine ⟨fun w _ => ⟨a1, X.a, L, p1, p2, c1, c2, rfl, ⟨ok, hbig⟩, trivial⟩, ?_⟩; intro y1 y2 y3 y4 y5 y6 y7 y8 y9 y10 y11 h; obtain ⟨M, p', q', c', d', rs, e1, rfl, rfl⟩ := h a1 X.a L p1 p2 c1 c2 rfl; have e1 := e1.symm; simp only [logU, List.cons_append, List.nil_append, List.cons.injEq, U.p.injEq, U.i.injEq, U.l.injEq, U.n.injEq, U.b.injEq, and_true] at e1; obtain ⟨rfl, rfl, rfl, rfl, rfl, rfl, rfl, rfl, rfl, rfl, rfl⟩ := e1; have hs1 := LogS.die_size L X.a; exact ⟨⟨by omega, by omega⟩, next (L.die X.a) all s (LogS.die_ok ok _) (by omega) (by omega) (hh.die _), fun _ _ => trivial, mless, trivial⟩
 ·intro p1 c1 p2 c2 a1; obtain ⟨m, g1, g2, g3, g4, g5⟩ := hh.begin; have gl := g2.length_le; refine ⟨fun w _ => ⟨a1, L, p1, p2, c1, c2, rfl, ⟨ok, by unfold LogS.size; omega⟩, plain_votes g1 g4⟩, ?_⟩; intro A2 n2 cc y1 y2 y3 y4 y5 y6 y7 y8 y9 y10 y11 h; obtain ⟨M, p', q', c', d', rs, e1, A3, cap, rfl, rfl⟩   := h a1 () L p1 p2 c1 c2 rfl; have e1 := e1.symm; rw [g1, List.length_map] at e1; simp only [logU, List.cons_append, List.nil_append, List.cons.injEq, U.p.injEq, U.i.injEq, U.l.injEq, U.n.injEq, U.b.injEq, and_true] at e1; obtain ⟨rfl, rfl, rfl, rfl, rfl, rfl, rfl, rfl, rfl, rfl, rfl, rfl, rfl, rfl⟩ := e1; refine ⟨fun hlt => absurd g3 (by omega), fun _ => ⟨fun hlt => absurd gl (by omega), fun _ => ⟨⟨Int.le_refl _, by decide⟩, fun _ _ => trivial, ?_⟩⟩⟩; intro k hk; obtain ⟨hk0, hk1⟩ : 0 ≤ k ∧ k ≤ 512 := hk; refine ⟨fun hlt => ?_, fun hge => ?_⟩
  ·have hkl : k.toNat < m.length := by omega
   have hka : k.toNat < all.length := by omega
   have hlm : (m.map (recW 1)).length = m.length := List.length_map ..; have hka2 : all[k.toNat] = m[k.toNat] := by
    have := pre_get g2 hkl; rw [List.getElem?_eq_getElem hka] at this; exact Option.some.inj this
   have hR : ∀ (os : List U) (w : World), BeginC.fact (.p a1 :: logU L p1 p2 c1 c2) (.p A3 :: os) w → Rd w w.heap.size 38 A3 (m.map (recW 1)).length ((m.map (recW 1)).flatMap recordR.cells) := fun os w hw => by
    obtain ⟨A4, cap4, rest, e, r⟩ := hw a1 L p1 p2 c1 c2 rfl; rw [g1] at e r; injection e with e _
    injection e with e
    rw [e]; exact r
   refine ⟨fun w hw => rd_not_nil (hR _ w hw.1.2) (by rw [hlm]; omega), hk0, 1, fun w hw => ?_, fun h1 => absurd rfl h1, fun _ => ⟨m[k.toNat].h, m[k.toNat].r, m[k.toNat].s, m[k.toNat].has, m[k.toNat].b, m[k.toNat].f, fun w hw => ?_, by omega, m[k.toNat].h, m[k.toNat].r, m[k.toNat].s, m[k.toNat].has, m[k.toNat].b, m[k.toNat].f, fun j v hv => ?_, fun hne => absurd ⟨rfl, rfl, rfl, beq_self_eq_true _, rfl, rfl⟩ hne, fun _ => ⟨⟨by omega, by omega⟩, ⟨by omega, by omega⟩, fun _ _ => trivial, ?_, trivial⟩⟩⟩
   ·exact (loads_vote (hR _ w hw.1.2) hkl).1
   ·exact (loads_vote (hR _ w hw.1.2) hkl).2
   ·have hj : j < 6 := (List.getElem?_eq_some_iff.1 hv).1; rw [flatMap_at 6 voteR.cells (fun _ => rfl) all k.toNat j hj, List.getElem?_eq_getElem hka, hka2]; exact hv
   ·show (512 - (k + 1)).toNat < (512 - k).toNat; omega
  ·have hs1 := begin_size L; refine ⟨by omega, by omega, ⟨by omega, by omega⟩, ?_, fun _ _ => trivial, mless, trivial⟩; rw [flat_take (n := 6) (fun _ => rfl) g2]; exact next L.begin m m.length (begin_ok ok) (by omega) (by omega) g5
 ·refine ⟨fun w _ => ⟨o4, by decide⟩, ?_⟩; intro a1 ha1; refine ⟨fun w _ => ⟨o2, by decide⟩, ?_⟩; intro a2 ha2; refine ⟨fun w _ => ⟨o3, by decide⟩, ?_⟩; intro a3 ha3; have b1 := pickF_bd (n := 99) o4 (by decide); have b2 := pickF_bd (n := 9) o2 (by decide); have b3 := pickF_bd (n := 9) o3 (by decide); have e1 : [U.i a1] = [U.i (pickF X.v.h 99)] := ha1; have e2 : [U.i a2] = [U.i (pickF X.a 9)] := ha2; have e3 : [U.i a3] = [U.i (pickF X.b 9)] := ha3; simp only [List.cons.injEq, U.i.injEq, and_true] at e1 e2 e3; rw [← e1] at b1; rw [← e2] at b2; rw [← e3] at b3; clear ha1 ha2 ha3 e1 e2 e3; refine ⟨⟨by omega, by omega⟩, ?_⟩; intro p1 c1 p2 c2 q1; refine ⟨fun w _ => ⟨q1, (), L, p1, p2, c1, c2, rfl, ⟨ok, hbig⟩, trivial⟩, ?_⟩; intro y0 y1 y2 y3 y4 y5 y6 y7 y8 y9 y10 y11 h; obtain ⟨M, p', q', c', d', rs, e1, rfl, rfl⟩ := h q1 () L p1 p2 c1 c2 rfl; have e1 := e1.symm; simp only [logU, List.cons_append, List.nil_append, List.cons.injEq, U.p.injEq, U.i.injEq, U.l.injEq, U.n.injEq, U.b.injEq, and_true] at e1; obtain ⟨rfl, rfl, rfl, rfl, rfl, rfl, rfl, rfl, rfl, rfl, rfl, rfl⟩ := e1; have hf : Fine (voteKp a1 a2 a3) := fine_k b1 b2 b3; intro q2; refine ⟨fun w _ => ⟨q2, (1, voteKp a1 a2 a3), M, p', q', c', d', rfl, ⟨ok, by unfold LogS.size; omega⟩, hf.1⟩, ?_⟩; intro y0 y1 y2 y3 y4 y5 y6 y7 y8 y9 y10 y11 h; obtain ⟨N, p3, p4, c3, c4, rs, e1, rfl, rfl⟩ := h q2 (1, voteKp a1 a2 a3) M p' q' c' d' rfl; have hap : appF (recO 1 (voteKp a1 a2 a3)) M = if M.down = true then (27, M) else (if (M.append (fr (voteKp a1 a2 a3))).down = true then 27 else 0, M.append (fr (voteKp a1 a2 a3))) := by
   unfold appF; rw [if_neg (fun h => h hf.2)]; rfl
  have hh2 := hh.append hf; have hlen : (fr (voteKp a1 a2 a3)).length ≤ 212 := by
   unfold fr; have := recO_len 1 (voteKp a1 a2 a3); rw [frameL_len]; omega
  have hs1 := LogS.append_size M (fr (voteKp a1 a2 a3)); have hao := LogS.append_ok ok (fr (voteKp a1 a2 a3)); dsimp only at e1; have e1 := e1.symm
  by_cases hd : M.down = true
  ·rw [if_pos hd] at hap; rw [hap] at e1; simp only [logU, List.cons_append, List.nil_append, List.cons.injEq, U.p.injEq, U.i.injEq, U.l.injEq, U.n.injEq, U.b.injEq, and_true] at e1; obtain ⟨rfl, rfl, rfl, rfl, rfl, rfl, rfl, rfl, rfl, rfl, rfl, rfl⟩ := e1; refine ⟨fun hne => ?_, fun _ => ⟨fun hne => absurd hd hne, fun _ => ⟨⟨by omega, by omega⟩, next M all s ok (by omega) (by omega) hh, fun _ _ => trivial, mless, trivial⟩⟩⟩; rw [hd] at hne; exact absurd rfl hne
  ·rw [if_neg hd] at hap; rw [hap] at e1; have hdf : M.down = false := by simpa using hd
   simp only [logU, List.cons_append, List.nil_append, List.cons.injEq, U.p.injEq, U.i.injEq, U.l.injEq, U.n.injEq, U.b.injEq, and_true] at e1; have hfin : ∀ _ : Unit, keepInv.inv [.n (all.length + 1), .l (all.flatMap voteR.cells ++ ([Value.int .i64 a1] ++ ([Value.int .i64 a2] ++ ([Value.int .i64 1] ++ ([Value.bool false] ++ ([Value.int .u64 0] ++ [Value.int .i64 (1 + a3)])))))), .n (M.append (fr (voteKp a1 a2 a3))).safe.length, .l (bV (M.append (fr (voteKp a1 a2 a3))).safe), .n (M.append (fr (voteKp a1 a2 a3))).loose.length, .l (bV (M.append (fr (voteKp a1 a2 a3))).loose), .i s, .i (i + 1), .i (M.append (fr (voteKp a1 a2 a3))).left, .i (M.append (fr (voteKp a1 a2 a3))).keep, .b (M.append (fr (voteKp a1 a2 a3))).down] := fun _ => by
    have := next (M.append (fr (voteKp a1 a2 a3))) (all ++ [voteKp a1 a2 a3]) s hao (by omega) (by rw [List.length_append]; exact Nat.le_refl _) (hh2.1 hd); rw [List.length_append, List.flatMap_append] at this; exact this
   obtain ⟨E0, rfl, rfl, rfl, rfl, rfl, rfl, rfl, rfl, rfl, rfl, rfl⟩ := e1; have hfin := hfin (); refine ⟨fun hne q3 => ?_, fun heq => ⟨fun _ => ⟨by omega, by omega, ⟨by omega, by omega⟩, hfin, fun _ _ => trivial, mless, trivial⟩, fun h => absurd h hd⟩⟩; refine ⟨fun w _ => ⟨q3, (), M.append (fr (voteKp a1 a2 a3)), p3, p4, c3, c4, rfl, ⟨hao, by unfold LogS.size big; unfold LogS.size at hs1; omega⟩, trivial⟩, ?_⟩; intro y1 y2 y3 y4 y5 y6 y7 y8 y9 y10 y11 y12 h; obtain ⟨M3, p5, q5, c5, d5, rs, e2, rfl, rfl⟩ := h q3 () (M.append (fr (voteKp a1 a2 a3))) p3 p4 c3 c4 rfl; have e2 := e2.symm; simp only [logU, List.cons_append, List.nil_append, List.cons.injEq, U.p.injEq, U.i.injEq, U.l.injEq, U.n.injEq, U.b.injEq, and_true] at e2; obtain ⟨rfl, rfl, rfl, rfl, rfl, rfl, rfl, rfl, rfl, rfl, rfl, rfl⟩ := e2; refine ⟨fun hnd => ?_, fun _ => ⟨fun _ => ⟨by omega, by omega, ⟨by omega, by omega⟩, hfin, fun _ _ => trivial, mless, trivial⟩, fun h => absurd h hd⟩⟩; rw [if_neg hnd] at E0; rw [hdf, ← E0] at hne; exact absurd rfl hne
end Go.Proofs.Ytjhaafbbdgjagaa
