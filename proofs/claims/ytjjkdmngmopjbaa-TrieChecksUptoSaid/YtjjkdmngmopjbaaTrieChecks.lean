/- TrieChecks. The arguments are of bulk at most 1048576. -/
import Derived.Test.YtjjkdmngmopjbaaProg
import Derived.Test.YtjjkdmngmopjbaaG02
import Derived.Test.YtjjkdmngmopjbaaG34
import Derived.Test.YtjjkdmngmopjbaaG42
import Derived.Test.YtjjkdmngmopjbaaG22
import Derived.Test.YtjjkdmngmopjbaaG23
import Derived.Test.YtjjkdmngmopjbaaG39
import Derived.Test.YtjjkdmngmopjbaaG40
import Derived.Test.YtjjkdmngmopjbaaG41
import Derived.Test.YtjjkdmngmopjbaaRows
namespace Go.Proofs.Ytjjkdmngmopjbaa
open Go.RowKit
section
open Go.ChangeShapes Go.WideShapes Go.ChangeAt Go.Deep
variable {H : Type} {enc : TypeId × Value → H} {W : World}
def keyM (s : List UInt8) : Nat := s.length + 1
set_option maxRecDepth 100000 in
theorem openB_key {v : Value} {d : DataW H} {p : List MemPlace} (hv : Value.okWide Try.prog W .any 0 9 v) (h : DataW.Trod enc Try.prog W 0 (fun _ => true) true 9 v d p) :
    ∃ s, v = .string (bs s) ∧ s.length ≤ maxLen ∧ s.length ≤ Rows.uptoBulk d := by
  obtain ⟨fuel, hf⟩ := h
  obtain ⟨s, rfl⟩ := okWide_string Try.underlying9 hv
  obtain ⟨s', hs, hm⟩ := str_trodB _ _ _ hf
  obtain ⟨e, hl⟩ := hs
  have hm : s'.length + 1 ≤ Rows.uptoBulk d := hm
  simp [Value.cells] at e
  subst e
  exact ⟨s', rfl, hl, by omega⟩
end
/-- what both sides' clashes answer, as two images -/
def oY (o : Option (ImgP × ImgP)) : ImgP × ImgP := o.getD ((0, []), (0, []))
def TwoI (w : World) (x y : ImgP) (f : Bool) (e : Ending) (w' : World) : Prop :=
  ∃ A c A' c', e = .returned (.tuple #[.agg #[.int .i64 x.1, .slice A x.2.length c], .agg #[.int .i64 y.1, .slice A' y.2.length c'], .bool f]) ∧ Strs w' w'.heap.size A x.2 ∧ Strs w' w'.heap.size A' y.2 ∧ Below w.heap.size w w'
theorem ClashAns.two {w w' : World} {wd : Int} {o : Option (ImgP × ImgP)} {f : Bool} {e : Ending} (h : ClashAns w w.heap.size o e w') (ht : TellS wd o f) : TwoI w (oY o).1 (oY o).2 f e w' := by
  obtain ⟨hb, h⟩ := h
  rcases ht with ⟨rfl, rfl⟩ | ⟨x, y, rfl, rfl, _⟩
  · rcases h with ⟨_, rfl⟩ | ⟨x, y, _, _, _, _, h, _⟩
    · exact ⟨none, 0, none, 0, rfl, Rd.nil _ _ _ _, Rd.nil _ _ _ _, hb⟩
    · cases h
  · rcases h with ⟨h, _⟩ | ⟨x', y', A, c, A', c', h, rfl, h1, h2, h3, h4⟩
    · cases h
    · cases h
      exact ⟨A, c, A', c', rfl, h1, h2, hb⟩
theorem TellS.y {wd : Int} {o : Option (ImgP × ImgP)} {f : Bool} (h : TellS wd o f) : ((oY o).1.2.length ≤ maxLen ∧ (oY o).2.2.length ≤ maxLen) ∧ (Short (oY o).1.2 ∧ Short (oY o).2.2) ∧ (f = true → ofS wd (oY o).1.1 (oY o).1.2 = ofS wd (oY o).2.1 (oY o).2.2 ∧ sameI (oY o).1 (oY o).2 = false) := by
  rcases h with ⟨rfl, rfl⟩ | ⟨x, y, rfl, rfl, h1, h2, h3, h4, h5, h6⟩
  · exact ⟨⟨Nat.zero_le _, Nat.zero_le _⟩, ⟨fun p hp => absurd hp (by simp [oY]), fun p hp => absurd hp (by simp [oY])⟩, fun h => absurd h (by simp)⟩
  · exact ⟨⟨h3, h4⟩, ⟨h5, h6⟩, fun _ => ⟨h1, h2⟩⟩
theorem sameI_self (x : ImgP) : sameI x x = true := by simp [sameI]
theorem proof_small {x : ProofD} (h1 : x.turns.length ≤ 1049000) (h2 : x.key.length ≤ 1049000) (h3 : x.value.length ≤ 1049000) : proofM x ≤ 10000000 := by
  have := turns_M x.turns
  unfold proofM
  omega
theorem proof_big {x : ProofD} (h : proofM x ≤ 1048576) : x.turns.length ≤ 1048576 ∧ x.key.length ≤ 1048576 ∧ x.value.length ≤ 1048576 := by
  have := turns_M x.turns
  unfold proofM at h
  omega
theorem ProofD.cell0 {w : World} {g : Nat} {t : TypeId} {x : ProofD} (h : Blk w g t #[.slice x.ta x.turns.length x.tc, .bool x.leaf, .string (bs x.key), .string (bs x.value)]) : (w.cell? ⟨g, 0, none⟩ = some (.slice x.ta x.turns.length x.tc) ∧ w.cell? ⟨g, 1, none⟩ = some (.bool x.leaf)) ∧ w.cell? ⟨g, 2, none⟩ = some (.string (bs x.key)) ∧ w.cell? ⟨g, 3, none⟩ = some (.string (bs x.value)) :=
  ⟨⟨(h.cell 0).trans rfl, (h.cell 1).trans rfl⟩, (h.cell 2).trans rfl, (h.cell 3).trans rfl⟩
theorem dec32_true {n : Nat} (h : ¬ n ≤ 32) : decide ((32 : Int) < (n : Int)) = true := decide_eq_true (by omega)
theorem dec32_false {n : Nat} (h : n ≤ 32) : decide ((32 : Int) < (n : Int)) = false := decide_eq_false (by omega)
theorem held_more {x : ProofD} {w : World} {B B' : Nat} (h : x.held w B) (hB : B ≤ B') : x.held w B' := ⟨Rd.more h.read hB, h.short, h.digs⟩
theorem items_far {w : World} {B g i : Nat} {A : Option Addr} {l : List Ent} {u : Value} (h : ItR w B A l) (hne : ∀ b off, A = some ⟨b, off, none⟩ → b ≠ g) : ItR (w.setCell ⟨g, i, none⟩ u) B A l := by
  by_cases hn : 0 < l.length
  · obtain ⟨b, off, rfl, hb, hc⟩ := h.2 hn
    exact Rd.setCell' h (hne b off rfl) u
  · exact ⟨h.1, fun hh => absurd hh hn⟩
theorem turns_box {w : World} {B g : Nat} {t : TypeId} {A A0 : Option Addr} {ts : List TurnD} {n c : Nat} {b : Bool} {s1 s2 : List UInt8} (h : Rd w B 2 A ts.length (ts.flatMap TurnD.cells)) (hg : Blk w g t #[.slice A0 n c, .bool b, .string (bs s1), .string (bs s2)]) {p : Addr} (hp : p.block = g) (u : Value) : Rd (w.setCell p u) B 2 A ts.length (ts.flatMap TurnD.cells) := by
  by_cases hn : 0 < ts.length
  · obtain ⟨b', off, rfl, hb, hc⟩ := h.2 hn
    refine Rd.setCell' h (fun e => ?_) u
    rw [hp] at e
    subst e
    obtain ⟨t0, ts', rfl⟩ : ∃ t0 ts', ts = t0 :: ts' := by cases ts with | nil => simp at hn | cons t0 ts' => exact ⟨t0, ts', rfl⟩
    have h0 := hc 0 (.int .i64 t0.p) rfl
    rw [hg.cell] at h0
    rcases Nat.lt_or_ge (off + 0) 4 with h2 | h2
    · have h3 : off + 0 = 0 ∨ off + 0 = 1 ∨ off + 0 = 2 ∨ off + 0 = 3 := by omega
      rcases h3 with h3 | h3 | h3 | h3 <;> rw [h3] at h0 <;> simp at h0
    · rw [Array.getElem?_eq_none (by simpa using h2)] at h0; cases h0
  · exact ⟨h.1, fun hh => absurd hh hn⟩
theorem box_store {w : World} {g : Nat} {x y : ProofD} {B : Nat} (hg : Blk w g 70 #[.slice y.ta y.turns.length y.tc, .bool y.leaf, .string (bs y.key), .string (bs y.value)]) (hx : x.held w B) :
    Blk ((((w.setCell ⟨g, 0, none⟩ (.slice x.ta x.turns.length x.tc)).setCell ⟨g, 1, none⟩ (.bool x.leaf)).setCell ⟨g, 2, none⟩ (.string (bs x.key))).setCell ⟨g, 3, none⟩ (.string (bs x.value))) g 70 #[.slice x.ta x.turns.length x.tc, .bool x.leaf, .string (bs x.key), .string (bs x.value)] ∧ ∀ z : ProofD, z.held w B → z.held ((((w.setCell ⟨g, 0, none⟩ (.slice x.ta x.turns.length x.tc)).setCell ⟨g, 1, none⟩ (.bool x.leaf)).setCell ⟨g, 2, none⟩ (.string (bs x.key))).setCell ⟨g, 3, none⟩ (.string (bs x.value))) B := by
  have h0 : Blk (w.setCell ⟨g, 0, none⟩ (.slice x.ta x.turns.length x.tc)) g 70 #[.slice x.ta x.turns.length x.tc, .bool y.leaf, .string (bs y.key), .string (bs y.value)] := hg.set_ 0 _
  have h1 : Blk ((w.setCell ⟨g, 0, none⟩ (.slice x.ta x.turns.length x.tc)).setCell ⟨g, 1, none⟩ (.bool x.leaf)) g 70 #[.slice x.ta x.turns.length x.tc, .bool x.leaf, .string (bs y.key), .string (bs y.value)] := h0.set_ 1 _
  have h2 : Blk (((w.setCell ⟨g, 0, none⟩ (.slice x.ta x.turns.length x.tc)).setCell ⟨g, 1, none⟩ (.bool x.leaf)).setCell ⟨g, 2, none⟩ (.string (bs x.key))) g 70 #[.slice x.ta x.turns.length x.tc, .bool x.leaf, .string (bs x.key), .string (bs y.value)] := h1.set_ 2 _
  exact ⟨h2.set_ 3 _, fun z hz => ⟨turns_box (turns_box (turns_box (turns_box hz.read hg rfl _) h0 rfl _) h1 rfl _) h2 rfl _, hz.short, hz.digs⟩⟩
set_option maxRecDepth 100000 in
set_option maxHeartbeats 8000000 in
theorem trieChecks_walk (n : Int) (hn : -9223372036854775808 ≤ n) (l : List Ent) (A : Option Addr) (c : Nat) (k : Key) (p : ProofD) (how d : Int) (w : World) (hl : ItR w w.heap.size A l) (hlen : l.length ≤ maxLen) (hkb : k.length ≤ 1048576) (hp : p.held w w.heap.size) (hpm : proofM p ≤ 1048576) (hhow : -9223372036854775808 ≤ how) (hdd : -9223372036854775808 ≤ d) (hdu : d ≤ 9223372036854775807) :
    Calls Try.prog 7 #[.int .i64 n, .slice A l.length c, .string (bs k), p.val, .int .i64 how, .int .i64 d] w fun e w' => e = .returned (.bool true) ∧ Below w.heap.size w w' := by
  have h1 := fun W (h : Below w.heap.size w W) => lightItems_any l A c w.heap.size W (hl.below h) (by unfold maxLen at hlen; omega)
  obtain ⟨P, hP⟩ : ∃ P, P = pickS n 8 := ⟨_, rfl⟩
  have hP0 : 0 ≤ P := by rw [hP]; exact pickS_lo _ _ (by omega)
  have hP8 : P < 8 := by rw [hP]; exact pickS_hi _ _ (by omega)
  have h2 := fun W => pick_any n 8 W hn (by omega)
  rw [← hP] at h2
  clear hP
  obtain ⟨wd, hwd⟩ : ∃ wd, wd = 1 + P := ⟨_, rfl⟩
  have hwr1 : IntKind.i64.wrap (1 + P) = wd := by rw [IntWalk.i64_in _ (by omega), hwd]
  have hwr2 : wrap64 (1 + P) = wd := by rw [← IntWalk.i64_left]; exact hwr1
  clear hwd hP0 hP8
  have H3 := Lib.hid (fun W (h : Below w.heap.size w W) (hl4 : l.length ≤ 1024) => grown_any wd l A c W ((hl.below h).more h.size) hl4)
  obtain ⟨hpt, hpk, hpv⟩ := proof_big hpm
  have hp4 := fun W => pick_any how 4 W hhow (by omega)
  have hq0 := pickS_lo how 4 (by omega)
  generalize pickS how 4 = K4 at *
  have hX0 : Blk (w.alloc (.cells #[.slice p.ta p.turns.length p.tc, .bool p.leaf, .string (bs p.key), .string (bs p.value)] 70)) w.heap.size 70 #[.slice p.ta p.turns.length p.tc, .bool p.leaf, .string (bs p.key), .string (bs p.value)] := Blk.new _ _ _
  have hb0 : Below w.heap.size w (w.alloc (.cells #[.slice p.ta p.turns.length p.tc, .bool p.leaf, .string (bs p.key), .string (bs p.value)] 70)) := (Below.refl _ _).alloc (Nat.le_refl _) _
  have hw1 : IntKind.i64.wrap ((p.turns.length : Int) + (p.key.length : Int)) = (p.turns.length : Int) + (p.key.length : Int) := IntWalk.i64_in _ (by omega)
  have hw2 : IntKind.i64.wrap ((p.turns.length : Int) + (p.key.length : Int) + (p.value.length : Int)) = (p.turns.length : Int) + (p.key.length : Int) + (p.value.length : Int) := IntWalk.i64_in _ (by omega)
  have hw3 : IntKind.i64.wrap ((p.turns.length : Int) + (p.key.length : Int) + (p.value.length : Int) + (k.length : Int)) = (p.turns.length : Int) + (p.key.length : Int) + (p.value.length : Int) + (k.length : Int) := IntWalk.i64_in _ (by omega)
  have hv1 : wrap64 ((p.turns.length : Int) + (p.key.length : Int)) = (p.turns.length : Int) + (p.key.length : Int) := by rw [← IntWalk.i64_left]; exact hw1
  have hv2 : wrap64 ((p.turns.length : Int) + (p.key.length : Int) + (p.value.length : Int)) = (p.turns.length : Int) + (p.key.length : Int) + (p.value.length : Int) := by rw [← IntWalk.i64_left]; exact hw2
  have hv3 : wrap64 ((p.turns.length : Int) + (p.key.length : Int) + (p.value.length : Int) + (k.length : Int)) = (p.turns.length : Int) + (p.key.length : Int) + (p.value.length : Int) + (k.length : Int) := by rw [← IntWalk.i64_left]; exact hw3
  unfold treeV rtreeV ProofD.val at *
  go_enter Try.func7, Try.ntmps7
  go_wp2_with fail
  refine (h1 _ hb0).mono ?_
  rintro e w1 ⟨b, rfl, hb, hb1⟩
  clear h1
  have hb01 := hb0.trans (hb1.mono hb0.size)
  have hX1 := hX0.below hb1 hX0.lt
  cases b
  · go_wp2_with fail
    go_ret
    exact ⟨rfl, hb01⟩
  have hl4 := hb rfl
  clear hb hX0 hb0 hb1
  obtain ⟨⟨x10, x11⟩, x12, x13⟩ := ProofD.cell0 hX1
  by_cases hsum : 65536 < (p.turns.length : Int) + (p.key.length : Int) + (p.value.length : Int) + (k.length : Int)
  · have hsd : decide (65536 < (p.turns.length : Int) + (p.key.length : Int) + (p.value.length : Int) + (k.length : Int)) = true := decide_eq_true hsum
    go_wp2_with fail
    go_ret
    exact ⟨rfl, hb01⟩
  have hsd : decide (65536 < (p.turns.length : Int) + (p.key.length : Int) + (p.value.length : Int) + (k.length : Int)) = false := decide_eq_false hsum
  go_wp2_with fail
  refine (h2 _).mono ?_
  rintro e w2 ⟨rfl, rfl⟩
  clear h2
  go_wp2_with fail
  refine (H3.out _ hb01 hl4).mono ?_
  rintro e w2 ⟨t, a, v, rfl, htl, ⟨hok, hit, ht, base, hv⟩, hb2⟩
  clear H3 x10 x11 x12 x13 hw1 hw2 hw3 hv1 hv2 hv3 hsd hsum hwr1 hwr2
  obtain ⟨uA, uc, rfl⟩ := own_shape hv
  have hU2 : ItR w2 w2.heap.size uA (Tr.oitems t) := Rd.of_own hv
  have hUne : ∀ b off, uA = some ⟨b, off, none⟩ → b ≠ w.heap.size := fun b off e => by
    have h9 := own_neq hv (hX1.below hb2 hX1.lt) (by decide)
    rw [e] at h9
    simpa [Value.ownBlock] using h9
  have hb02 := hb01.trans (hb2.mono hb01.size)
  have hX2 := hX1.below hb2 hX1.lt
  have hzw : w.heap.size < w2.heap.size := hX2.lt
  clear hv hX1 hb01 hb2
  have hT : Blk ((w2.alloc (.cells #[.int .i64 wd, .pointer a] 53)).alloc (.cells #[.int .i64 wd, .slice uA (Tr.oitems t).length uc] 57)) w2.heap.size 53 #[.int .i64 wd, .pointer a] := (Blk.new _ _ _).alloc _
  have hUb : Blk ((w2.alloc (.cells #[.int .i64 wd, .pointer a] 53)).alloc (.cells #[.int .i64 wd, .slice uA (Tr.oitems t).length uc] 57)) (w2.heap.size + 1) 57 #[.int .i64 wd, .slice uA (Tr.oitems t).length uc] := by
    have := Blk.new (w2.alloc (.cells #[.int .i64 wd, .pointer a] 53)) 57 #[.int .i64 wd, .slice uA (Tr.oitems t).length uc]
    simpa using this
  have hbi : Below w2.heap.size w2 ((w2.alloc (.cells #[.int .i64 wd, .pointer a] 53)).alloc (.cells #[.int .i64 wd, .slice uA (Tr.oitems t).length uc] 57)) := ((Below.refl _ _).alloc (Nat.le_refl _) _).alloc (by simp) _
  go_upto_region 5 with fail
  generalize hw3 : ((w2.alloc (.cells #[.int .i64 wd, .pointer a] 53)).alloc (.cells #[.int .i64 wd, .slice uA (Tr.oitems t).length uc] 57)) = w3 at *
  clear hw3
  have hX3 := hX2.below hbi hX2.lt
  have hU3 : ItR w3 w2.heap.size uA (Tr.oitems t) := hU2.below hbi
  have ht3 : OTrR wd w3 w3.heap.size t a := ht.up hbi
  have hb03 := hb02.trans (hbi.mono hb02.size)
  have hz3 := hbi.size
  clear hX2 hU2 ht hb02 hbi
  have hT0 := (hT.cell 0).trans (show _ = some (Value.int .i64 wd) from rfl)
  have hT1 := (hT.cell 1).trans (show _ = some (Value.pointer a) from rfl)
  go_wp2_with fail
  refine (rootT_any wd t a w3 ht3).mono ?_
  rintro e w4 ⟨rfl, hb4⟩
  have hT4 := hT.below hb4 hT.lt
  have hUb4 := hUb.below hb4 hUb.lt
  have hX4 := hX3.below hb4 hX3.lt
  have ht4 := ht3.up hb4
  have hU4 : ItR w4 w2.heap.size uA (Tr.oitems t) := hU3.below (hb4.mono hz3)
  have hb04 := hb03.trans (hb4.mono hb03.size)
  have hz4 := hb4.size
  clear hT0 hT1 hT hUb hX3 ht3 hU3 hb03
  have hT0 := (hT4.cell 0).trans (show _ = some (Value.int .i64 wd) from rfl)
  have hT1 := (hT4.cell 1).trans (show _ = some (Value.pointer a) from rfl)
  have hpr := proveO_any wd k t a w4 hok hit ht4
  unfold treeV at hpr
  go_wp2_with fail
  refine hpr.mono ?_
  rintro e w5 ⟨q, rfl, hqp, hq, hqt, hqk, hqv, hb5⟩
  obtain ⟨EE, hEE⟩ : ∃ EE : Int, EE = (if 32 < k.length then 3 else 0) := ⟨_, rfl⟩
  rw [← hEE]
  have HEE := Lib.hid hEE
  clear hEE
  unfold ProofD.val
  clear hpr hT0 hT1
  have hT5 := (hT4.below hb5 hT4.lt).alloc (.cells #[.slice q.ta q.turns.length q.tc, .bool q.leaf, .string (bs q.key), .string (bs q.value)] 70)
  have hUb5 := (hUb4.below hb5 hUb4.lt).alloc (.cells #[.slice q.ta q.turns.length q.tc, .bool q.leaf, .string (bs q.key), .string (bs q.value)] 70)
  have hX5 := (hX4.below hb5 hX4.lt).alloc (.cells #[.slice q.ta q.turns.length q.tc, .bool q.leaf, .string (bs q.key), .string (bs q.value)] 70)
  have ht5 : OTrR wd (w5.alloc (.cells #[.slice q.ta q.turns.length q.tc, .bool q.leaf, .string (bs q.key), .string (bs q.value)] 70)) (w5.alloc (.cells #[.slice q.ta q.turns.length q.tc, .bool q.leaf, .string (bs q.key), .string (bs q.value)] 70)).heap.size t a := (ht4.up hb5).up ((Below.refl _ _).alloc (Nat.le_refl _) _)
  have hU5 : ItR (w5.alloc (.cells #[.slice q.ta q.turns.length q.tc, .bool q.leaf, .string (bs q.key), .string (bs q.value)] 70)) w2.heap.size uA (Tr.oitems t) := (hU4.below (hb5.mono (by omega))).below ((Below.refl _ _).alloc (by have := hb5.size; omega) _)
  have hQ5 : Blk (w5.alloc (.cells #[.slice q.ta q.turns.length q.tc, .bool q.leaf, .string (bs q.key), .string (bs q.value)] 70)) w5.heap.size 70 #[.slice q.ta q.turns.length q.tc, .bool q.leaf, .string (bs q.key), .string (bs q.value)] := Blk.new _ _ _
  have hq5 : q.held (w5.alloc (.cells #[.slice q.ta q.turns.length q.tc, .bool q.leaf, .string (bs q.key), .string (bs q.value)] 70)) (w5.alloc (.cells #[.slice q.ta q.turns.length q.tc, .bool q.leaf, .string (bs q.key), .string (bs q.value)] 70)).heap.size := held_more (hq.below ((Below.refl _ _).alloc (Nat.le_refl _) _)) (by simp)
  have hb05 : Below w.heap.size w (w5.alloc (.cells #[.slice q.ta q.turns.length q.tc, .bool q.leaf, .string (bs q.key), .string (bs q.value)] 70)) := (hb04.trans (hb5.mono hb04.size)).alloc (by have := hb5.size; have := hb04.size; omega) _
  have hz5 : w4.heap.size ≤ w5.heap.size := hb5.size
  go_upto_region 7 with fail
  have hqm : proofM q ≤ 10000000 := proof_small (Nat.le_trans hqt (by decide)) (Nat.le_trans hqk (by decide)) (Nat.le_trans hqv (by decide))
  have hz25 : w2.heap.size ≤ w5.heap.size := Nat.le_trans (Nat.le_trans hz3 hz4) hz5
  have hgood := fun h => proof_good (wd := wd) (x := q) (k := k) h hok hit (hqp h)
  generalize hw6 : (w5.alloc (.cells #[.slice q.ta q.turns.length q.tc, .bool q.leaf, .string (bs q.key), .string (bs q.value)] 70)) = w6 at *
  clear hw6 hX4 hT4 hUb4 hU4 ht4 hb04 hb5 hq
  have hz6 : w5.heap.size < w6.heap.size := hQ5.lt
  go_wp2_with fail
  refine (hp4 _).mono ?_
  rintro e w7 ⟨rfl, rfl⟩
  clear hp4
  by_cases hK : 0 < K4
  · have hKd : decide ((0 : Int) < K4) = true := decide_eq_true hK
    obtain ⟨⟨x0, x1⟩, x2, x3⟩ := ProofD.cell0 hX5
    obtain ⟨⟨y0, y1⟩, y2, y3⟩ := ProofD.cell0 hQ5
    have htu := turned_any q p how d w6.heap.size w6 hq5 (held_more (hp.below hb05) hb05.size) (Nat.le_refl _) (Nat.le_trans hqt (by decide)) (Nat.le_trans hpt (by decide)) hhow hdd hdu
    unfold ProofD.val at htu
    go_wp2_with fail
    refine htu.mono ?_
    rintro e w7 ⟨x, rfl, hx7, hxl, hxk, hxv, hb7⟩
    rw [show x.val = .agg #[.slice x.ta x.turns.length x.tc, .bool x.leaf, .string (bs x.key), .string (bs x.value)] from rfl]
    clear x0 x1 x2 x3 y0 y1 y2 y3 htu
    have hxm : proofM x ≤ 10000000 := proof_small (by omega) (by rcases hxk with h | h <;> rw [h] <;> omega) (by rcases hxv with h | h <;> rw [h] <;> omega)
    have hX7 := hX5.below hb7 hX5.lt
    obtain ⟨hX8, hhe⟩ := box_store hX7 hx7
    have hT7 := hT5.below hb7 hT5.lt
    have hU7 := hUb5.below hb7 hUb5.lt
    have hQ7 := hQ5.below hb7 hQ5.lt
    have hne1 : w2.heap.size ≠ w.heap.size := by omega
    have hne2 : w2.heap.size + 1 ≠ w.heap.size := by omega
    have hne3 : w5.heap.size ≠ w.heap.size := by omega
    have hT8 := (((hT7.far (p := ⟨w.heap.size, 0, none⟩) hne1 (.slice x.ta x.turns.length x.tc)).far (p := ⟨w.heap.size, 1, none⟩) hne1 (.bool x.leaf)).far (p := ⟨w.heap.size, 2, none⟩) hne1 (.string (bs x.key))).far (p := ⟨w.heap.size, 3, none⟩) hne1 (.string (bs x.value))
    have hU8 := (((hU7.far (p := ⟨w.heap.size, 0, none⟩) hne2 (.slice x.ta x.turns.length x.tc)).far (p := ⟨w.heap.size, 1, none⟩) hne2 (.bool x.leaf)).far (p := ⟨w.heap.size, 2, none⟩) hne2 (.string (bs x.key))).far (p := ⟨w.heap.size, 3, none⟩) hne2 (.string (bs x.value))
    have hQ8 := (((hQ7.far (p := ⟨w.heap.size, 0, none⟩) hne3 (.slice x.ta x.turns.length x.tc)).far (p := ⟨w.heap.size, 1, none⟩) hne3 (.bool x.leaf)).far (p := ⟨w.heap.size, 2, none⟩) hne3 (.string (bs x.key))).far (p := ⟨w.heap.size, 3, none⟩) hne3 (.string (bs x.value))
    have hb08 := ((((hb05.trans (hb7.mono hb05.size)).setCell (p := ⟨w.heap.size, 0, none⟩) (Nat.le_refl _) (.slice x.ta x.turns.length x.tc)).setCell (p := ⟨w.heap.size, 1, none⟩) (Nat.le_refl _) (.bool x.leaf)).setCell (p := ⟨w.heap.size, 2, none⟩) (Nat.le_refl _) (.string (bs x.key))).setCell (p := ⟨w.heap.size, 3, none⟩) (Nat.le_refl _) (.string (bs x.value))
    have hI7 : ItR w7 w2.heap.size uA (Tr.oitems t) := hU5.below (hb7.mono (by omega))
    have hI8 := items_far (items_far (items_far (items_far hI7 hUne (i := 0) (u := .slice x.ta x.turns.length x.tc)) hUne (i := 1) (u := .bool x.leaf)) hUne (i := 2) (u := .string (bs x.key))) hUne (i := 3) (u := .string (bs x.value))
    have hX7a : Blk (w7.setCell ⟨w.heap.size, 0, none⟩ (.slice x.ta x.turns.length x.tc)) w.heap.size 70 _ := hX7.set_ 0 _
    have hX7b : Blk ((w7.setCell ⟨w.heap.size, 0, none⟩ (.slice x.ta x.turns.length x.tc)).setCell ⟨w.heap.size, 1, none⟩ (.bool x.leaf)) w.heap.size 70 _ := hX7a.set_ 1 _
    have hX7c : Blk (((w7.setCell ⟨w.heap.size, 0, none⟩ (.slice x.ta x.turns.length x.tc)).setCell ⟨w.heap.size, 1, none⟩ (.bool x.leaf)).setCell ⟨w.heap.size, 2, none⟩ (.string (bs x.key))) w.heap.size 70 _ := hX7b.set_ 2 _
    have ht8 := OTrR.far2 hX7c (by decide) (p := ⟨w.heap.size, 3, none⟩) rfl (.string (bs x.value)) (OTrR.far2 hX7b (by decide) (p := ⟨w.heap.size, 2, none⟩) rfl (.string (bs x.key)) (OTrR.far2 hX7a (by decide) (p := ⟨w.heap.size, 1, none⟩) rfl (.bool x.leaf) (OTrR.far2 hX7 (by decide) (p := ⟨w.heap.size, 0, none⟩) rfl (.slice x.ta x.turns.length x.tc) (ht5.up hb7))))
    have hq7 : q.held w7 w7.heap.size := held_more (hq5.below hb7) hb7.size
    have hx8 := hhe x hx7
    have hq8 := hhe q hq7
    have hz8 : w5.heap.size < w7.heap.size := Nat.lt_of_lt_of_le hz6 hb7.size
    have hq00 := (hX7.cell 0).trans (show _ = some (Value.slice p.ta p.turns.length p.tc) from rfl)
    have hq01 := (hX7.cell 1).trans (show _ = some (Value.bool p.leaf) from rfl)
    have hq02 := (hX7.cell 2).trans (show _ = some (Value.string (bs p.key)) from rfl)
    have hq03 := (hX7.cell 3).trans (show _ = some (Value.string (bs p.value)) from rfl)
    have hf0 := hX7.frozen 0
    have hf1 := hX7.frozen 1
    have hf2 := hX7.frozen 2
    have hf3 := hX7.frozen 3
    have m1 := (hX7a.cell 1).trans (show _ = some (Value.bool p.leaf) from rfl)
    have m2 := (hX7b.cell 2).trans (show _ = some (Value.string (bs p.key)) from rfl)
    have m3 := (hX7c.cell 3).trans (show _ = some (Value.string (bs p.value)) from rfl)
    have g1 := hX7a.frozen 1
    have g2 := hX7b.frozen 2
    have g3 := hX7c.frozen 3
    have HH := Lib.hid (And.intro hX8 (And.intro hT8 (And.intro hU8 (And.intro hQ8 (And.intro hI8 (And.intro ht8 (And.intro hx8 (And.intro hq8 (And.intro hb08 hz8)))))))))
    clear hX8 hT8 hU8 hQ8 hI8 ht8 hx8 hq8 hb08 hz8
    clear hhe hX7a hX7b hX7c hI7 hT7 hU7 hQ7 hX7 hx7 hq7 hT5 hUb5 hQ5 hX5 ht5 hU5 hq5 hb05 hb7
    go_upto_region 9 with fail
    obtain ⟨hX8, hT8, hU8, hQ8, hI8, ht8, hx8, hq8, hb08, hz8⟩ := HH.out
    clear HH
    have hs8 : w7.heap.size = ((((w7.setCell ⟨w.heap.size, 0, none⟩ (.slice x.ta x.turns.length x.tc)).setCell ⟨w.heap.size, 1, none⟩ (.bool x.leaf)).setCell ⟨w.heap.size, 2, none⟩ (.string (bs x.key))).setCell ⟨w.heap.size, 3, none⟩ (.string (bs x.value))).heap.size := by simp [World.setCell]
    rw [hs8] at hx8 hq8 hz8 ht8
    clear hs8 hq00 hq01 hq02 hq03 hf0 hf1 hf2 hf3 m1 m2 m3 g1 g2 g3
    generalize hw8 : ((((w7.setCell ⟨w.heap.size, 0, none⟩ (.slice x.ta x.turns.length x.tc)).setCell ⟨w.heap.size, 1, none⟩ (.bool x.leaf)).setCell ⟨w.heap.size, 2, none⟩ (.string (bs x.key))).setCell ⟨w.heap.size, 3, none⟩ (.string (bs x.value))) = w8 at *
    clear hw8
    generalize hgR : rootT wd t = R at *
    clear hgR
    obtain ⟨⟨x0, x1⟩, x2, x3⟩ := ProofD.cell0 hX8
    go_wp2_with fail
    refine (check_any wd R k x _ w8 hx8 (Nat.le_refl _) hxm).mono ?_
    rintro e w9 ⟨rfl, hb9⟩
    clear x0 x1 x2 x3
    have hb09 := hb08.trans (hb9.mono hb08.size)
    have hz9 : w5.heap.size < w9.heap.size := Nat.lt_of_lt_of_le hz8 hb9.size
    have hX9 := hX8.below hb9 hX8.lt
    have hQ9 := hQ8.below hb9 hQ8.lt
    have hT9 := hT8.below hb9 hT8.lt
    have hU9 := hU8.below hb9 hU8.lt
    have hx9 : x.held w9 w9.heap.size := held_more (hx8.below hb9) hb9.size
    have hq9 : q.held w9 w9.heap.size := held_more (hq8.below hb9) hb9.size
    have hI9 : ItR w9 w2.heap.size uA (Tr.oitems t) := hI8.below (hb9.mono (Nat.le_of_lt (Nat.lt_of_le_of_lt hz25 hz8)))
    have ht9 : OTrR wd w9 w9.heap.size t a := ht8.up hb9
    clear hb08 hz8 hx8 hq8 hI8 ht8 hX8 hQ8 hT8 hU8
    obtain ⟨⟨x0, x1⟩, x2, x3⟩ := ProofD.cell0 hX9
    go_wp2_with fail
    refine (rcheck_any wd R k x _ w9 hx9 (Nat.le_refl _) hxm).mono ?_
    rintro e w10 ⟨rfl, hb10⟩
    clear x0 x1 x2 x3
    have hb010 := hb09.trans (hb10.mono hb09.size)
    have hz10 : w5.heap.size < w10.heap.size := Nat.lt_of_lt_of_le hz9 hb10.size
    have hX10 := hX9.below hb10 hX9.lt
    have hQ10 := hQ9.below hb10 hQ9.lt
    have hT10 := hT9.below hb10 hT9.lt
    have hU10 := hU9.below hb10 hU9.lt
    have hx10 : x.held w10 w10.heap.size := held_more (hx9.below hb10) hb10.size
    have hq10 : q.held w10 w10.heap.size := held_more (hq9.below hb10) hb10.size
    have hI10 : ItR w10 w2.heap.size uA (Tr.oitems t) := hI9.below (hb10.mono (Nat.le_of_lt (Nat.lt_of_le_of_lt hz25 hz9)))
    have ht10 : OTrR wd w10 w10.heap.size t a := ht9.up hb10
    clear hb09 hz9 hx9 hq9 hI9 ht9 hX9 hQ9 hT9 hU9
    obtain ⟨⟨y0, y1⟩, y2, y3⟩ := ProofD.cell0 hQ10
    go_wp2_with fail
    refine (check_any wd R k q _ w10 hq10 (Nat.le_refl _) hqm).mono ?_
    rintro e w11 ⟨rfl, hb11⟩
    clear y0 y1 y2 y3
    have hb011 := hb010.trans (hb11.mono hb010.size)
    have hz11 : w5.heap.size < w11.heap.size := Nat.lt_of_lt_of_le hz10 hb11.size
    have hX11 := hX10.below hb11 hX10.lt
    have hQ11 := hQ10.below hb11 hQ10.lt
    have hT11 := hT10.below hb11 hT10.lt
    have hU11 := hU10.below hb11 hU10.lt
    have hx11 : x.held w11 w11.heap.size := held_more (hx10.below hb11) hb11.size
    have hq11 : q.held w11 w11.heap.size := held_more (hq10.below hb11) hb11.size
    have hI11 : ItR w11 w2.heap.size uA (Tr.oitems t) := hI10.below (hb11.mono (Nat.le_of_lt (Nat.lt_of_le_of_lt hz25 hz10)))
    have ht11 : OTrR wd w11 w11.heap.size t a := ht10.up hb11
    clear hb010 hz10 hx10 hq10 hI10 ht10 hX10 hQ10 hT10 hU10
    have u0 := (hT11.cell 0).trans (show _ = some (Value.int .i64 wd) from rfl)
    have u1 := (hT11.cell 1).trans (show _ = some (Value.pointer a) from rfl)
    have hget := get_any wd k t a w11 (Nat.le_trans hkb (by decide)) hok (fun u e => by subst e; exact low_of (show u.ok from hok) (fun y hy => (hit y hy).1)) ht11
    unfold treeV at hget
    rw [show getL k (Tr.oitems t) = getO k t from rfl] at hget
    go_wp2_with fail
    refine hget.mono ?_
    rintro e w12 ⟨rfl, hb12⟩
    clear u0 u1 hget
    have hb012 := hb011.trans (hb12.mono hb011.size)
    have hz12 : w5.heap.size < w12.heap.size := Nat.lt_of_lt_of_le hz11 hb12.size
    have hX12 := hX11.below hb12 hX11.lt
    have hQ12 := hQ11.below hb12 hQ11.lt
    have hT12 := hT11.below hb12 hT11.lt
    have hU12 := hU11.below hb12 hU11.lt
    have hx12 : x.held w12 w12.heap.size := held_more (hx11.below hb12) hb12.size
    have hq12 : q.held w12 w12.heap.size := held_more (hq11.below hb12) hb12.size
    have hI12 : ItR w12 w2.heap.size uA (Tr.oitems t) := hI11.below (hb12.mono (Nat.le_of_lt (Nat.lt_of_le_of_lt hz25 hz11)))
    have ht12 : OTrR wd w12 w12.heap.size t a := ht11.up hb12
    clear hb011 hz11 hx11 hq11 hI11 ht11 hX11 hQ11 hT11 hU11
    have hcase : (32 < k.length ∧ Hid (32 < k.length)) ∨ (k.length ≤ 32 ∧ Hid (checkE wd R k q = 0 ∧ checkV wd R k q = getO k t)) := by
      by_cases h : 32 < k.length
      · exact .inl ⟨h, h⟩
      · exact .inr ⟨by omega, hgood (by omega)⟩
    clear hgood
    generalize hG : getO k t = G at *
    have htell := clashP_tell wd R k q x
    have hcw := fun W g1 g2 g3 => (show Calls Try.prog 45 _ W (TwoI W (oY (clashP wd R k q x)).1 (oY (clashP wd R k q x)).2 _) from (clashP_any wd R k q x w12.heap.size W g1 g2 g3 hqm hxm).mono fun e w' hh => ClashAns.two hh htell)
    have hrw := fun W g1 g2 => (show Calls Try.prog 49 _ W (TwoI W (oY (clashP wd R k q x)).1 (oY (clashP wd R k q x)).2 _) from (rclashP_any wd R k q x W.heap.size W g1 g2 (Nat.le_refl _) hqm hxm).mono fun e w' hh => ClashAns.two hh htell)
    obtain ⟨⟨n1, n2⟩, ⟨s1, s2⟩, hun⟩ := htell.y
    clear htell hun
    generalize (decide (checkE wd R k q = 0) && decide (checkE wd R k x = 0) && decide (checkV wd R k q ≠ checkV wd R k x)) = ff at *
    generalize (oY (clashP wd R k q x)).1 = I1 at *
    generalize (oY (clashP wd R k q x)).2 = I2 at *
    have hs1 := sameI_self I1
    have hs2 := sameI_self I2
    generalize checkE wd R k x = E1 at *
    generalize checkV wd R k x = V1 at *
    generalize checkE wd R k q = E2 at *
    generalize checkV wd R k q = V2 at *
    clear hG
    have q1 : (V1 == V1) = true := by simp
    have q2 : (E1 == E1) = true := by simp
    have q3 : (V1 != V1) = false := by simp
    have q4 : (E1 != E1) = false := by simp
    have hff : (ff == ff) = true := by simp
    rcases hcase with ⟨h32, _⟩ | ⟨h32, hEV⟩
    · obtain rfl : EE = 3 := by rw [HEE.out, if_pos h32]
      go_upto_region 15 with fail
      obtain ⟨⟨x0, x1⟩, x2, x3⟩ := ProofD.cell0 hX12
      obtain ⟨⟨y0, y1⟩, y2, y3⟩ := ProofD.cell0 hQ12
      go_wp2_with fail
      refine (hcw w12 hq12 hx12 (Nat.le_refl _)).mono ?_
      rintro e w13 ⟨Ax, cx, Ay, cy, rfl, hsx, hsy, hb13⟩
      clear x0 x1 x2 x3 y0 y1 y2 y3 hcw
      have hv13 : Below w12.heap.size w12 ((w13.alloc (.cells #[.int .i64 I1.1, .slice Ax I1.2.length cx] 106)).alloc (.cells #[.int .i64 I2.1, .slice Ay I2.2.length cy] 106)) := (hb13.alloc hb13.size _).alloc (Nat.le_trans hb13.size (by simp)) _
      have ba0 : Blk ((w13.alloc (.cells #[.int .i64 I1.1, .slice Ax I1.2.length cx] 106)).alloc (.cells #[.int .i64 I2.1, .slice Ay I2.2.length cy] 106)) w13.heap.size 106 #[.int .i64 I1.1, .slice Ax I1.2.length cx] := (Blk.new _ _ _).alloc _
      have ba1 : Blk ((w13.alloc (.cells #[.int .i64 I1.1, .slice Ax I1.2.length cx] 106)).alloc (.cells #[.int .i64 I2.1, .slice Ay I2.2.length cy] 106)) (w13.heap.size + 1) 106 #[.int .i64 I2.1, .slice Ay I2.2.length cy] := by
        have := Blk.new (w13.alloc (.cells #[.int .i64 I1.1, .slice Ax I1.2.length cx] 106)) 106 #[.int .i64 I2.1, .slice Ay I2.2.length cy]
        simpa using this
      have sax : Strs ((w13.alloc (.cells #[.int .i64 I1.1, .slice Ax I1.2.length cx] 106)).alloc (.cells #[.int .i64 I2.1, .slice Ay I2.2.length cy] 106)) ((w13.alloc (.cells #[.int .i64 I1.1, .slice Ax I1.2.length cx] 106)).alloc (.cells #[.int .i64 I2.1, .slice Ay I2.2.length cy] 106)).heap.size Ax I1.2 := Rd.more (Rd.alloc (Rd.alloc hsx (Nat.le_refl _) _) (by simp) _) (by simp; omega)
      have say : Strs ((w13.alloc (.cells #[.int .i64 I1.1, .slice Ax I1.2.length cx] 106)).alloc (.cells #[.int .i64 I2.1, .slice Ay I2.2.length cy] 106)) ((w13.alloc (.cells #[.int .i64 I1.1, .slice Ax I1.2.length cx] 106)).alloc (.cells #[.int .i64 I2.1, .slice Ay I2.2.length cy] 106)).heap.size Ay I2.2 := Rd.more (Rd.alloc (Rd.alloc hsy (Nat.le_refl _) _) (by simp) _) (by simp; omega)
      go_upto_region 16 with fail
      generalize hw14 : ((w13.alloc (.cells #[.int .i64 I1.1, .slice Ax I1.2.length cx] 106)).alloc (.cells #[.int .i64 I2.1, .slice Ay I2.2.length cy] 106)) = w14 at *
      clear hw14 hsx hsy hb13
      have hb014 := hb012.trans (hv13.mono hb012.size)
      have hz14 : w5.heap.size < w14.heap.size := Nat.lt_of_lt_of_le hz12 hv13.size
      have hX14 := hX12.below hv13 hX12.lt
      have hQ14 := hQ12.below hv13 hQ12.lt
      have hT14 := hT12.below hv13 hT12.lt
      have hU14 := hU12.below hv13 hU12.lt
      have hx14 : x.held w14 w14.heap.size := held_more (hx12.below hv13) hv13.size
      have hq14 : q.held w14 w14.heap.size := held_more (hq12.below hv13) hv13.size
      have hI14 : ItR w14 w2.heap.size uA (Tr.oitems t) := hI12.below (hv13.mono (Nat.le_of_lt (Nat.lt_of_le_of_lt hz25 hz12)))
      have ht14 : OTrR wd w14 w14.heap.size t a := ht12.up hv13
      clear hb012 hz12 hx12 hq12 hI12 ht12 hX12 hQ12 hT12 hU12
      obtain ⟨⟨x0, x1⟩, x2, x3⟩ := ProofD.cell0 hX14
      obtain ⟨⟨y0, y1⟩, y2, y3⟩ := ProofD.cell0 hQ14
      go_wp2_with fail
      refine (hrw w14 hq14 hx14).mono ?_
      rintro e w15 ⟨Bx, ex, By, ey, rfl, hsx, hsy, hb15⟩
      clear x0 x1 x2 x3 y0 y1 y2 y3 hrw
      have bb0 := ((ba0.below hb15 ba0.lt).alloc (.cells #[.int .i64 I1.1, .slice Bx I1.2.length ex] 106)).alloc (.cells #[.int .i64 I2.1, .slice By I2.2.length ey] 106)
      have bb1 := ((ba1.below hb15 ba1.lt).alloc (.cells #[.int .i64 I1.1, .slice Bx I1.2.length ex] 106)).alloc (.cells #[.int .i64 I2.1, .slice By I2.2.length ey] 106)
      have bc0 : Blk ((w15.alloc (.cells #[.int .i64 I1.1, .slice Bx I1.2.length ex] 106)).alloc (.cells #[.int .i64 I2.1, .slice By I2.2.length ey] 106)) w15.heap.size 106 #[.int .i64 I1.1, .slice Bx I1.2.length ex] := (Blk.new _ _ _).alloc _
      have bc1 : Blk ((w15.alloc (.cells #[.int .i64 I1.1, .slice Bx I1.2.length ex] 106)).alloc (.cells #[.int .i64 I2.1, .slice By I2.2.length ey] 106)) (w15.heap.size + 1) 106 #[.int .i64 I2.1, .slice By I2.2.length ey] := by
        have := Blk.new (w15.alloc (.cells #[.int .i64 I1.1, .slice Bx I1.2.length ex] 106)) 106 #[.int .i64 I2.1, .slice By I2.2.length ey]
        simpa using this
      have scx : Strs ((w15.alloc (.cells #[.int .i64 I1.1, .slice Bx I1.2.length ex] 106)).alloc (.cells #[.int .i64 I2.1, .slice By I2.2.length ey] 106)) ((w15.alloc (.cells #[.int .i64 I1.1, .slice Bx I1.2.length ex] 106)).alloc (.cells #[.int .i64 I2.1, .slice By I2.2.length ey] 106)).heap.size Bx I1.2 := Rd.more (Rd.alloc (Rd.alloc hsx (Nat.le_refl _) _) (by simp) _) (by simp; omega)
      have scy : Strs ((w15.alloc (.cells #[.int .i64 I1.1, .slice Bx I1.2.length ex] 106)).alloc (.cells #[.int .i64 I2.1, .slice By I2.2.length ey] 106)) ((w15.alloc (.cells #[.int .i64 I1.1, .slice Bx I1.2.length ex] 106)).alloc (.cells #[.int .i64 I2.1, .slice By I2.2.length ey] 106)).heap.size By I2.2 := Rd.more (Rd.alloc (Rd.alloc hsy (Nat.le_refl _) _) (by simp) _) (by simp; omega)
      have sbx : Strs ((w15.alloc (.cells #[.int .i64 I1.1, .slice Bx I1.2.length ex] 106)).alloc (.cells #[.int .i64 I2.1, .slice By I2.2.length ey] 106)) ((w15.alloc (.cells #[.int .i64 I1.1, .slice Bx I1.2.length ex] 106)).alloc (.cells #[.int .i64 I2.1, .slice By I2.2.length ey] 106)).heap.size Ax I1.2 := Rd.more (Rd.alloc (Rd.alloc (Rd.more (Rd.below sax hb15) hb15.size) (Nat.le_refl _) _) (by simp) _) (by simp; omega)
      have sby : Strs ((w15.alloc (.cells #[.int .i64 I1.1, .slice Bx I1.2.length ex] 106)).alloc (.cells #[.int .i64 I2.1, .slice By I2.2.length ey] 106)) ((w15.alloc (.cells #[.int .i64 I1.1, .slice Bx I1.2.length ex] 106)).alloc (.cells #[.int .i64 I2.1, .slice By I2.2.length ey] 106)).heap.size Ay I2.2 := Rd.more (Rd.alloc (Rd.alloc (Rd.more (Rd.below say hb15) hb15.size) (Nat.le_refl _) _) (by simp) _) (by simp; omega)
      have hv16 : Below w.heap.size w ((w15.alloc (.cells #[.int .i64 I1.1, .slice Bx I1.2.length ex] 106)).alloc (.cells #[.int .i64 I2.1, .slice By I2.2.length ey] 106)) := ((hb014.trans (hb15.mono hb014.size)).alloc (Nat.le_trans hb014.size hb15.size) _).alloc (Nat.le_trans (Nat.le_trans hb014.size hb15.size) (by simp)) _
      go_upto_region 17 with fail
      generalize hw16 : ((w15.alloc (.cells #[.int .i64 I1.1, .slice Bx I1.2.length ex] 106)).alloc (.cells #[.int .i64 I2.1, .slice By I2.2.length ey] 106)) = w16 at *
      clear hw16 hsx hsy hb15 ba0 ba1 sax say hb014
      have a0 := (bb0.cell 0).trans (show _ = some (Value.int .i64 I1.1) from rfl)
      have a1 := (bb0.cell 1).trans (show _ = some (Value.slice Ax I1.2.length cx) from rfl)
      have a2 := (bc0.cell 0).trans (show _ = some (Value.int .i64 I1.1) from rfl)
      have a3 := (bc0.cell 1).trans (show _ = some (Value.slice Bx I1.2.length ex) from rfl)
      have hsame := sameImage_any I1 I1 Ax Bx cx ex w16.heap.size w16.heap.size w16 sbx scx (Nat.le_refl _) (Nat.le_refl _) n1 n1
      rw [hs1] at hsame
      go_wp2_with fail
      refine hsame.mono ?_
      rintro e w17 ⟨rfl, hb17⟩
      clear a0 a1 a2 a3 hsame
      have bd1 := bb1.below hb17 bb1.lt
      have be1 := bc1.below hb17 bc1.lt
      have sdy := Rd.more (Rd.below sby hb17) hb17.size
      have sey := Rd.more (Rd.below scy hb17) hb17.size
      have a0 := (bd1.cell 0).trans (show _ = some (Value.int .i64 I2.1) from rfl)
      have a1 := (bd1.cell 1).trans (show _ = some (Value.slice Ay I2.2.length cy) from rfl)
      have a2 := (be1.cell 0).trans (show _ = some (Value.int .i64 I2.1) from rfl)
      have a3 := (be1.cell 1).trans (show _ = some (Value.slice By I2.2.length ey) from rfl)
      have hsame := sameImage_any I2 I2 Ay By cy ey w17.heap.size w17.heap.size w17 sdy sey (Nat.le_refl _) (Nat.le_refl _) n2 n2
      rw [hs2] at hsame
      go_wp2_with fail
      refine hsame.mono ?_
      rintro e w18 ⟨rfl, hb18⟩
      go_wp2_with fail
      go_ret
      exact ⟨by simp, (hv16.trans (hb17.mono hv16.size)).trans (hb18.mono (Nat.le_trans hv16.size hb17.size))⟩
    · obtain rfl : EE = 0 := by rw [HEE.out, if_neg (by omega)]
      obtain ⟨rfl, rfl⟩ := hEV.out
      have q5 : (V2 == V2) = true := by simp
      have q6 : (V2 != V2) = false := by simp
      go_upto_region 15 with fail
      obtain ⟨⟨x0, x1⟩, x2, x3⟩ := ProofD.cell0 hX12
      obtain ⟨⟨y0, y1⟩, y2, y3⟩ := ProofD.cell0 hQ12
      go_wp2_with fail
      refine (hcw w12 hq12 hx12 (Nat.le_refl _)).mono ?_
      rintro e w13 ⟨Ax, cx, Ay, cy, rfl, hsx, hsy, hb13⟩
      clear x0 x1 x2 x3 y0 y1 y2 y3 hcw
      have hv13 : Below w12.heap.size w12 ((w13.alloc (.cells #[.int .i64 I1.1, .slice Ax I1.2.length cx] 106)).alloc (.cells #[.int .i64 I2.1, .slice Ay I2.2.length cy] 106)) := (hb13.alloc hb13.size _).alloc (Nat.le_trans hb13.size (by simp)) _
      have ba0 : Blk ((w13.alloc (.cells #[.int .i64 I1.1, .slice Ax I1.2.length cx] 106)).alloc (.cells #[.int .i64 I2.1, .slice Ay I2.2.length cy] 106)) w13.heap.size 106 #[.int .i64 I1.1, .slice Ax I1.2.length cx] := (Blk.new _ _ _).alloc _
      have ba1 : Blk ((w13.alloc (.cells #[.int .i64 I1.1, .slice Ax I1.2.length cx] 106)).alloc (.cells #[.int .i64 I2.1, .slice Ay I2.2.length cy] 106)) (w13.heap.size + 1) 106 #[.int .i64 I2.1, .slice Ay I2.2.length cy] := by
        have := Blk.new (w13.alloc (.cells #[.int .i64 I1.1, .slice Ax I1.2.length cx] 106)) 106 #[.int .i64 I2.1, .slice Ay I2.2.length cy]
        simpa using this
      have sax : Strs ((w13.alloc (.cells #[.int .i64 I1.1, .slice Ax I1.2.length cx] 106)).alloc (.cells #[.int .i64 I2.1, .slice Ay I2.2.length cy] 106)) ((w13.alloc (.cells #[.int .i64 I1.1, .slice Ax I1.2.length cx] 106)).alloc (.cells #[.int .i64 I2.1, .slice Ay I2.2.length cy] 106)).heap.size Ax I1.2 := Rd.more (Rd.alloc (Rd.alloc hsx (Nat.le_refl _) _) (by simp) _) (by simp; omega)
      have say : Strs ((w13.alloc (.cells #[.int .i64 I1.1, .slice Ax I1.2.length cx] 106)).alloc (.cells #[.int .i64 I2.1, .slice Ay I2.2.length cy] 106)) ((w13.alloc (.cells #[.int .i64 I1.1, .slice Ax I1.2.length cx] 106)).alloc (.cells #[.int .i64 I2.1, .slice Ay I2.2.length cy] 106)).heap.size Ay I2.2 := Rd.more (Rd.alloc (Rd.alloc hsy (Nat.le_refl _) _) (by simp) _) (by simp; omega)
      go_upto_region 16 with fail
      generalize hw14 : ((w13.alloc (.cells #[.int .i64 I1.1, .slice Ax I1.2.length cx] 106)).alloc (.cells #[.int .i64 I2.1, .slice Ay I2.2.length cy] 106)) = w14 at *
      clear hw14 hsx hsy hb13
      have hb014 := hb012.trans (hv13.mono hb012.size)
      have hz14 : w5.heap.size < w14.heap.size := Nat.lt_of_lt_of_le hz12 hv13.size
      have hX14 := hX12.below hv13 hX12.lt
      have hQ14 := hQ12.below hv13 hQ12.lt
      have hT14 := hT12.below hv13 hT12.lt
      have hU14 := hU12.below hv13 hU12.lt
      have hx14 : x.held w14 w14.heap.size := held_more (hx12.below hv13) hv13.size
      have hq14 : q.held w14 w14.heap.size := held_more (hq12.below hv13) hv13.size
      have hI14 : ItR w14 w2.heap.size uA (Tr.oitems t) := hI12.below (hv13.mono (Nat.le_of_lt (Nat.lt_of_le_of_lt hz25 hz12)))
      have ht14 : OTrR wd w14 w14.heap.size t a := ht12.up hv13
      clear hb012 hz12 hx12 hq12 hI12 ht12 hX12 hQ12 hT12 hU12
      obtain ⟨⟨x0, x1⟩, x2, x3⟩ := ProofD.cell0 hX14
      obtain ⟨⟨y0, y1⟩, y2, y3⟩ := ProofD.cell0 hQ14
      go_wp2_with fail
      refine (hrw w14 hq14 hx14).mono ?_
      rintro e w15 ⟨Bx, ex, By, ey, rfl, hsx, hsy, hb15⟩
      clear x0 x1 x2 x3 y0 y1 y2 y3 hrw
      have bb0 := ((ba0.below hb15 ba0.lt).alloc (.cells #[.int .i64 I1.1, .slice Bx I1.2.length ex] 106)).alloc (.cells #[.int .i64 I2.1, .slice By I2.2.length ey] 106)
      have bb1 := ((ba1.below hb15 ba1.lt).alloc (.cells #[.int .i64 I1.1, .slice Bx I1.2.length ex] 106)).alloc (.cells #[.int .i64 I2.1, .slice By I2.2.length ey] 106)
      have bc0 : Blk ((w15.alloc (.cells #[.int .i64 I1.1, .slice Bx I1.2.length ex] 106)).alloc (.cells #[.int .i64 I2.1, .slice By I2.2.length ey] 106)) w15.heap.size 106 #[.int .i64 I1.1, .slice Bx I1.2.length ex] := (Blk.new _ _ _).alloc _
      have bc1 : Blk ((w15.alloc (.cells #[.int .i64 I1.1, .slice Bx I1.2.length ex] 106)).alloc (.cells #[.int .i64 I2.1, .slice By I2.2.length ey] 106)) (w15.heap.size + 1) 106 #[.int .i64 I2.1, .slice By I2.2.length ey] := by
        have := Blk.new (w15.alloc (.cells #[.int .i64 I1.1, .slice Bx I1.2.length ex] 106)) 106 #[.int .i64 I2.1, .slice By I2.2.length ey]
        simpa using this
      have scx : Strs ((w15.alloc (.cells #[.int .i64 I1.1, .slice Bx I1.2.length ex] 106)).alloc (.cells #[.int .i64 I2.1, .slice By I2.2.length ey] 106)) ((w15.alloc (.cells #[.int .i64 I1.1, .slice Bx I1.2.length ex] 106)).alloc (.cells #[.int .i64 I2.1, .slice By I2.2.length ey] 106)).heap.size Bx I1.2 := Rd.more (Rd.alloc (Rd.alloc hsx (Nat.le_refl _) _) (by simp) _) (by simp; omega)
      have scy : Strs ((w15.alloc (.cells #[.int .i64 I1.1, .slice Bx I1.2.length ex] 106)).alloc (.cells #[.int .i64 I2.1, .slice By I2.2.length ey] 106)) ((w15.alloc (.cells #[.int .i64 I1.1, .slice Bx I1.2.length ex] 106)).alloc (.cells #[.int .i64 I2.1, .slice By I2.2.length ey] 106)).heap.size By I2.2 := Rd.more (Rd.alloc (Rd.alloc hsy (Nat.le_refl _) _) (by simp) _) (by simp; omega)
      have sbx : Strs ((w15.alloc (.cells #[.int .i64 I1.1, .slice Bx I1.2.length ex] 106)).alloc (.cells #[.int .i64 I2.1, .slice By I2.2.length ey] 106)) ((w15.alloc (.cells #[.int .i64 I1.1, .slice Bx I1.2.length ex] 106)).alloc (.cells #[.int .i64 I2.1, .slice By I2.2.length ey] 106)).heap.size Ax I1.2 := Rd.more (Rd.alloc (Rd.alloc (Rd.more (Rd.below sax hb15) hb15.size) (Nat.le_refl _) _) (by simp) _) (by simp; omega)
      have sby : Strs ((w15.alloc (.cells #[.int .i64 I1.1, .slice Bx I1.2.length ex] 106)).alloc (.cells #[.int .i64 I2.1, .slice By I2.2.length ey] 106)) ((w15.alloc (.cells #[.int .i64 I1.1, .slice Bx I1.2.length ex] 106)).alloc (.cells #[.int .i64 I2.1, .slice By I2.2.length ey] 106)).heap.size Ay I2.2 := Rd.more (Rd.alloc (Rd.alloc (Rd.more (Rd.below say hb15) hb15.size) (Nat.le_refl _) _) (by simp) _) (by simp; omega)
      have hv16 : Below w.heap.size w ((w15.alloc (.cells #[.int .i64 I1.1, .slice Bx I1.2.length ex] 106)).alloc (.cells #[.int .i64 I2.1, .slice By I2.2.length ey] 106)) := ((hb014.trans (hb15.mono hb014.size)).alloc (Nat.le_trans hb014.size hb15.size) _).alloc (Nat.le_trans (Nat.le_trans hb014.size hb15.size) (by simp)) _
      go_upto_region 17 with fail
      generalize hw16 : ((w15.alloc (.cells #[.int .i64 I1.1, .slice Bx I1.2.length ex] 106)).alloc (.cells #[.int .i64 I2.1, .slice By I2.2.length ey] 106)) = w16 at *
      clear hw16 hsx hsy hb15 ba0 ba1 sax say hb014
      have a0 := (bb0.cell 0).trans (show _ = some (Value.int .i64 I1.1) from rfl)
      have a1 := (bb0.cell 1).trans (show _ = some (Value.slice Ax I1.2.length cx) from rfl)
      have a2 := (bc0.cell 0).trans (show _ = some (Value.int .i64 I1.1) from rfl)
      have a3 := (bc0.cell 1).trans (show _ = some (Value.slice Bx I1.2.length ex) from rfl)
      have hsame := sameImage_any I1 I1 Ax Bx cx ex w16.heap.size w16.heap.size w16 sbx scx (Nat.le_refl _) (Nat.le_refl _) n1 n1
      rw [hs1] at hsame
      go_wp2_with fail
      refine hsame.mono ?_
      rintro e w17 ⟨rfl, hb17⟩
      clear a0 a1 a2 a3 hsame
      have bd1 := bb1.below hb17 bb1.lt
      have be1 := bc1.below hb17 bc1.lt
      have sdy := Rd.more (Rd.below sby hb17) hb17.size
      have sey := Rd.more (Rd.below scy hb17) hb17.size
      have a0 := (bd1.cell 0).trans (show _ = some (Value.int .i64 I2.1) from rfl)
      have a1 := (bd1.cell 1).trans (show _ = some (Value.slice Ay I2.2.length cy) from rfl)
      have a2 := (be1.cell 0).trans (show _ = some (Value.int .i64 I2.1) from rfl)
      have a3 := (be1.cell 1).trans (show _ = some (Value.slice By I2.2.length ey) from rfl)
      have hsame := sameImage_any I2 I2 Ay By cy ey w17.heap.size w17.heap.size w17 sdy sey (Nat.le_refl _) (Nat.le_refl _) n2 n2
      rw [hs2] at hsame
      go_wp2_with fail
      refine hsame.mono ?_
      rintro e w18 ⟨rfl, hb18⟩
      go_wp2_with fail
      go_ret
      exact ⟨by simp, (hv16.trans (hb17.mono hv16.size)).trans (hb18.mono (Nat.le_trans hv16.size hb17.size))⟩
  · have hKd : decide ((0 : Int) < K4) = false := decide_eq_false hK
    obtain ⟨w8, rfl⟩ : ∃ W, W = w6 := ⟨_, rfl⟩
    have hxm : proofM p ≤ 10000000 := Nat.le_trans hpm (by decide)
    have hx8 : p.held w8 w8.heap.size := held_more (hp.below hb05) hb05.size
    obtain ⟨hX8, hT8, hU8, hQ8, hI8, ht8, hq8, hb08, hz8⟩ := And.intro hX5 (And.intro hT5 (And.intro hUb5 (And.intro hQ5 (And.intro hU5 (And.intro ht5 (And.intro hq5 (And.intro hb05 hz6)))))))
    clear hX5 hT5 hUb5 hQ5 hU5 ht5 hq5 hb05 hz6
    go_upto_region 9 with fail
    generalize hgR : rootT wd t = R at *
    clear hgR
    obtain ⟨⟨x0, x1⟩, x2, x3⟩ := ProofD.cell0 hX8
    go_wp2_with fail
    refine (check_any wd R k p _ w8 hx8 (Nat.le_refl _) hxm).mono ?_
    rintro e w9 ⟨rfl, hb9⟩
    clear x0 x1 x2 x3
    have hb09 := hb08.trans (hb9.mono hb08.size)
    have hz9 : w5.heap.size < w9.heap.size := Nat.lt_of_lt_of_le hz8 hb9.size
    have hX9 := hX8.below hb9 hX8.lt
    have hQ9 := hQ8.below hb9 hQ8.lt
    have hT9 := hT8.below hb9 hT8.lt
    have hU9 := hU8.below hb9 hU8.lt
    have hx9 : p.held w9 w9.heap.size := held_more (hx8.below hb9) hb9.size
    have hq9 : q.held w9 w9.heap.size := held_more (hq8.below hb9) hb9.size
    have hI9 : ItR w9 w2.heap.size uA (Tr.oitems t) := hI8.below (hb9.mono (Nat.le_of_lt (Nat.lt_of_le_of_lt hz25 hz8)))
    have ht9 : OTrR wd w9 w9.heap.size t a := ht8.up hb9
    clear hb08 hz8 hx8 hq8 hI8 ht8 hX8 hQ8 hT8 hU8
    obtain ⟨⟨x0, x1⟩, x2, x3⟩ := ProofD.cell0 hX9
    go_wp2_with fail
    refine (rcheck_any wd R k p _ w9 hx9 (Nat.le_refl _) hxm).mono ?_
    rintro e w10 ⟨rfl, hb10⟩
    clear x0 x1 x2 x3
    have hb010 := hb09.trans (hb10.mono hb09.size)
    have hz10 : w5.heap.size < w10.heap.size := Nat.lt_of_lt_of_le hz9 hb10.size
    have hX10 := hX9.below hb10 hX9.lt
    have hQ10 := hQ9.below hb10 hQ9.lt
    have hT10 := hT9.below hb10 hT9.lt
    have hU10 := hU9.below hb10 hU9.lt
    have hx10 : p.held w10 w10.heap.size := held_more (hx9.below hb10) hb10.size
    have hq10 : q.held w10 w10.heap.size := held_more (hq9.below hb10) hb10.size
    have hI10 : ItR w10 w2.heap.size uA (Tr.oitems t) := hI9.below (hb10.mono (Nat.le_of_lt (Nat.lt_of_le_of_lt hz25 hz9)))
    have ht10 : OTrR wd w10 w10.heap.size t a := ht9.up hb10
    clear hb09 hz9 hx9 hq9 hI9 ht9 hX9 hQ9 hT9 hU9
    obtain ⟨⟨y0, y1⟩, y2, y3⟩ := ProofD.cell0 hQ10
    go_wp2_with fail
    refine (check_any wd R k q _ w10 hq10 (Nat.le_refl _) hqm).mono ?_
    rintro e w11 ⟨rfl, hb11⟩
    clear y0 y1 y2 y3
    have hb011 := hb010.trans (hb11.mono hb010.size)
    have hz11 : w5.heap.size < w11.heap.size := Nat.lt_of_lt_of_le hz10 hb11.size
    have hX11 := hX10.below hb11 hX10.lt
    have hQ11 := hQ10.below hb11 hQ10.lt
    have hT11 := hT10.below hb11 hT10.lt
    have hU11 := hU10.below hb11 hU10.lt
    have hx11 : p.held w11 w11.heap.size := held_more (hx10.below hb11) hb11.size
    have hq11 : q.held w11 w11.heap.size := held_more (hq10.below hb11) hb11.size
    have hI11 : ItR w11 w2.heap.size uA (Tr.oitems t) := hI10.below (hb11.mono (Nat.le_of_lt (Nat.lt_of_le_of_lt hz25 hz10)))
    have ht11 : OTrR wd w11 w11.heap.size t a := ht10.up hb11
    clear hb010 hz10 hx10 hq10 hI10 ht10 hX10 hQ10 hT10 hU10
    have u0 := (hT11.cell 0).trans (show _ = some (Value.int .i64 wd) from rfl)
    have u1 := (hT11.cell 1).trans (show _ = some (Value.pointer a) from rfl)
    have hget := get_any wd k t a w11 (Nat.le_trans hkb (by decide)) hok (fun u e => by subst e; exact low_of (show u.ok from hok) (fun y hy => (hit y hy).1)) ht11
    unfold treeV at hget
    rw [show getL k (Tr.oitems t) = getO k t from rfl] at hget
    go_wp2_with fail
    refine hget.mono ?_
    rintro e w12 ⟨rfl, hb12⟩
    clear u0 u1 hget
    have hb012 := hb011.trans (hb12.mono hb011.size)
    have hz12 : w5.heap.size < w12.heap.size := Nat.lt_of_lt_of_le hz11 hb12.size
    have hX12 := hX11.below hb12 hX11.lt
    have hQ12 := hQ11.below hb12 hQ11.lt
    have hT12 := hT11.below hb12 hT11.lt
    have hU12 := hU11.below hb12 hU11.lt
    have hx12 : p.held w12 w12.heap.size := held_more (hx11.below hb12) hb12.size
    have hq12 : q.held w12 w12.heap.size := held_more (hq11.below hb12) hb12.size
    have hI12 : ItR w12 w2.heap.size uA (Tr.oitems t) := hI11.below (hb12.mono (Nat.le_of_lt (Nat.lt_of_le_of_lt hz25 hz11)))
    have ht12 : OTrR wd w12 w12.heap.size t a := ht11.up hb12
    clear hb011 hz11 hx11 hq11 hI11 ht11 hX11 hQ11 hT11 hU11
    have hcase : (32 < k.length ∧ Hid (32 < k.length)) ∨ (k.length ≤ 32 ∧ Hid (checkE wd R k q = 0 ∧ checkV wd R k q = getO k t)) := by
      by_cases h : 32 < k.length
      · exact .inl ⟨h, h⟩
      · exact .inr ⟨by omega, hgood (by omega)⟩
    clear hgood
    generalize hG : getO k t = G at *
    have htell := clashP_tell wd R k q p
    have hcw := fun W g1 g2 g3 => (show Calls Try.prog 45 _ W (TwoI W (oY (clashP wd R k q p)).1 (oY (clashP wd R k q p)).2 _) from (clashP_any wd R k q p w12.heap.size W g1 g2 g3 hqm hxm).mono fun e w' hh => ClashAns.two hh htell)
    have hrw := fun W g1 g2 => (show Calls Try.prog 49 _ W (TwoI W (oY (clashP wd R k q p)).1 (oY (clashP wd R k q p)).2 _) from (rclashP_any wd R k q p W.heap.size W g1 g2 (Nat.le_refl _) hqm hxm).mono fun e w' hh => ClashAns.two hh htell)
    obtain ⟨⟨n1, n2⟩, ⟨s1, s2⟩, hun⟩ := htell.y
    clear htell hun
    generalize (decide (checkE wd R k q = 0) && decide (checkE wd R k p = 0) && decide (checkV wd R k q ≠ checkV wd R k p)) = ff at *
    generalize (oY (clashP wd R k q p)).1 = I1 at *
    generalize (oY (clashP wd R k q p)).2 = I2 at *
    have hs1 := sameI_self I1
    have hs2 := sameI_self I2
    generalize checkE wd R k p = E1 at *
    generalize checkV wd R k p = V1 at *
    generalize checkE wd R k q = E2 at *
    generalize checkV wd R k q = V2 at *
    clear hG
    have q1 : (V1 == V1) = true := by simp
    have q2 : (E1 == E1) = true := by simp
    have q3 : (V1 != V1) = false := by simp
    have q4 : (E1 != E1) = false := by simp
    have hff : (ff == ff) = true := by simp
    rcases hcase with ⟨h32, _⟩ | ⟨h32, hEV⟩
    · obtain rfl : EE = 3 := by rw [HEE.out, if_pos h32]
      go_upto_region 15 with fail
      obtain ⟨⟨x0, x1⟩, x2, x3⟩ := ProofD.cell0 hX12
      obtain ⟨⟨y0, y1⟩, y2, y3⟩ := ProofD.cell0 hQ12
      go_wp2_with fail
      refine (hcw w12 hq12 hx12 (Nat.le_refl _)).mono ?_
      rintro e w13 ⟨Ax, cx, Ay, cy, rfl, hsx, hsy, hb13⟩
      clear x0 x1 x2 x3 y0 y1 y2 y3 hcw
      have hv13 : Below w12.heap.size w12 ((w13.alloc (.cells #[.int .i64 I1.1, .slice Ax I1.2.length cx] 106)).alloc (.cells #[.int .i64 I2.1, .slice Ay I2.2.length cy] 106)) := (hb13.alloc hb13.size _).alloc (Nat.le_trans hb13.size (by simp)) _
      have ba0 : Blk ((w13.alloc (.cells #[.int .i64 I1.1, .slice Ax I1.2.length cx] 106)).alloc (.cells #[.int .i64 I2.1, .slice Ay I2.2.length cy] 106)) w13.heap.size 106 #[.int .i64 I1.1, .slice Ax I1.2.length cx] := (Blk.new _ _ _).alloc _
      have ba1 : Blk ((w13.alloc (.cells #[.int .i64 I1.1, .slice Ax I1.2.length cx] 106)).alloc (.cells #[.int .i64 I2.1, .slice Ay I2.2.length cy] 106)) (w13.heap.size + 1) 106 #[.int .i64 I2.1, .slice Ay I2.2.length cy] := by
        have := Blk.new (w13.alloc (.cells #[.int .i64 I1.1, .slice Ax I1.2.length cx] 106)) 106 #[.int .i64 I2.1, .slice Ay I2.2.length cy]
        simpa using this
      have sax : Strs ((w13.alloc (.cells #[.int .i64 I1.1, .slice Ax I1.2.length cx] 106)).alloc (.cells #[.int .i64 I2.1, .slice Ay I2.2.length cy] 106)) ((w13.alloc (.cells #[.int .i64 I1.1, .slice Ax I1.2.length cx] 106)).alloc (.cells #[.int .i64 I2.1, .slice Ay I2.2.length cy] 106)).heap.size Ax I1.2 := Rd.more (Rd.alloc (Rd.alloc hsx (Nat.le_refl _) _) (by simp) _) (by simp; omega)
      have say : Strs ((w13.alloc (.cells #[.int .i64 I1.1, .slice Ax I1.2.length cx] 106)).alloc (.cells #[.int .i64 I2.1, .slice Ay I2.2.length cy] 106)) ((w13.alloc (.cells #[.int .i64 I1.1, .slice Ax I1.2.length cx] 106)).alloc (.cells #[.int .i64 I2.1, .slice Ay I2.2.length cy] 106)).heap.size Ay I2.2 := Rd.more (Rd.alloc (Rd.alloc hsy (Nat.le_refl _) _) (by simp) _) (by simp; omega)
      go_upto_region 16 with fail
      generalize hw14 : ((w13.alloc (.cells #[.int .i64 I1.1, .slice Ax I1.2.length cx] 106)).alloc (.cells #[.int .i64 I2.1, .slice Ay I2.2.length cy] 106)) = w14 at *
      clear hw14 hsx hsy hb13
      have hb014 := hb012.trans (hv13.mono hb012.size)
      have hz14 : w5.heap.size < w14.heap.size := Nat.lt_of_lt_of_le hz12 hv13.size
      have hX14 := hX12.below hv13 hX12.lt
      have hQ14 := hQ12.below hv13 hQ12.lt
      have hT14 := hT12.below hv13 hT12.lt
      have hU14 := hU12.below hv13 hU12.lt
      have hx14 : p.held w14 w14.heap.size := held_more (hx12.below hv13) hv13.size
      have hq14 : q.held w14 w14.heap.size := held_more (hq12.below hv13) hv13.size
      have hI14 : ItR w14 w2.heap.size uA (Tr.oitems t) := hI12.below (hv13.mono (Nat.le_of_lt (Nat.lt_of_le_of_lt hz25 hz12)))
      have ht14 : OTrR wd w14 w14.heap.size t a := ht12.up hv13
      clear hb012 hz12 hx12 hq12 hI12 ht12 hX12 hQ12 hT12 hU12
      obtain ⟨⟨x0, x1⟩, x2, x3⟩ := ProofD.cell0 hX14
      obtain ⟨⟨y0, y1⟩, y2, y3⟩ := ProofD.cell0 hQ14
      go_wp2_with fail
      refine (hrw w14 hq14 hx14).mono ?_
      rintro e w15 ⟨Bx, ex, By, ey, rfl, hsx, hsy, hb15⟩
      clear x0 x1 x2 x3 y0 y1 y2 y3 hrw
      have bb0 := ((ba0.below hb15 ba0.lt).alloc (.cells #[.int .i64 I1.1, .slice Bx I1.2.length ex] 106)).alloc (.cells #[.int .i64 I2.1, .slice By I2.2.length ey] 106)
      have bb1 := ((ba1.below hb15 ba1.lt).alloc (.cells #[.int .i64 I1.1, .slice Bx I1.2.length ex] 106)).alloc (.cells #[.int .i64 I2.1, .slice By I2.2.length ey] 106)
      have bc0 : Blk ((w15.alloc (.cells #[.int .i64 I1.1, .slice Bx I1.2.length ex] 106)).alloc (.cells #[.int .i64 I2.1, .slice By I2.2.length ey] 106)) w15.heap.size 106 #[.int .i64 I1.1, .slice Bx I1.2.length ex] := (Blk.new _ _ _).alloc _
      have bc1 : Blk ((w15.alloc (.cells #[.int .i64 I1.1, .slice Bx I1.2.length ex] 106)).alloc (.cells #[.int .i64 I2.1, .slice By I2.2.length ey] 106)) (w15.heap.size + 1) 106 #[.int .i64 I2.1, .slice By I2.2.length ey] := by
        have := Blk.new (w15.alloc (.cells #[.int .i64 I1.1, .slice Bx I1.2.length ex] 106)) 106 #[.int .i64 I2.1, .slice By I2.2.length ey]
        simpa using this
      have scx : Strs ((w15.alloc (.cells #[.int .i64 I1.1, .slice Bx I1.2.length ex] 106)).alloc (.cells #[.int .i64 I2.1, .slice By I2.2.length ey] 106)) ((w15.alloc (.cells #[.int .i64 I1.1, .slice Bx I1.2.length ex] 106)).alloc (.cells #[.int .i64 I2.1, .slice By I2.2.length ey] 106)).heap.size Bx I1.2 := Rd.more (Rd.alloc (Rd.alloc hsx (Nat.le_refl _) _) (by simp) _) (by simp; omega)
      have scy : Strs ((w15.alloc (.cells #[.int .i64 I1.1, .slice Bx I1.2.length ex] 106)).alloc (.cells #[.int .i64 I2.1, .slice By I2.2.length ey] 106)) ((w15.alloc (.cells #[.int .i64 I1.1, .slice Bx I1.2.length ex] 106)).alloc (.cells #[.int .i64 I2.1, .slice By I2.2.length ey] 106)).heap.size By I2.2 := Rd.more (Rd.alloc (Rd.alloc hsy (Nat.le_refl _) _) (by simp) _) (by simp; omega)
      have sbx : Strs ((w15.alloc (.cells #[.int .i64 I1.1, .slice Bx I1.2.length ex] 106)).alloc (.cells #[.int .i64 I2.1, .slice By I2.2.length ey] 106)) ((w15.alloc (.cells #[.int .i64 I1.1, .slice Bx I1.2.length ex] 106)).alloc (.cells #[.int .i64 I2.1, .slice By I2.2.length ey] 106)).heap.size Ax I1.2 := Rd.more (Rd.alloc (Rd.alloc (Rd.more (Rd.below sax hb15) hb15.size) (Nat.le_refl _) _) (by simp) _) (by simp; omega)
      have sby : Strs ((w15.alloc (.cells #[.int .i64 I1.1, .slice Bx I1.2.length ex] 106)).alloc (.cells #[.int .i64 I2.1, .slice By I2.2.length ey] 106)) ((w15.alloc (.cells #[.int .i64 I1.1, .slice Bx I1.2.length ex] 106)).alloc (.cells #[.int .i64 I2.1, .slice By I2.2.length ey] 106)).heap.size Ay I2.2 := Rd.more (Rd.alloc (Rd.alloc (Rd.more (Rd.below say hb15) hb15.size) (Nat.le_refl _) _) (by simp) _) (by simp; omega)
      have hv16 : Below w.heap.size w ((w15.alloc (.cells #[.int .i64 I1.1, .slice Bx I1.2.length ex] 106)).alloc (.cells #[.int .i64 I2.1, .slice By I2.2.length ey] 106)) := ((hb014.trans (hb15.mono hb014.size)).alloc (Nat.le_trans hb014.size hb15.size) _).alloc (Nat.le_trans (Nat.le_trans hb014.size hb15.size) (by simp)) _
      go_upto_region 17 with fail
      generalize hw16 : ((w15.alloc (.cells #[.int .i64 I1.1, .slice Bx I1.2.length ex] 106)).alloc (.cells #[.int .i64 I2.1, .slice By I2.2.length ey] 106)) = w16 at *
      clear hw16 hsx hsy hb15 ba0 ba1 sax say hb014
      have a0 := (bb0.cell 0).trans (show _ = some (Value.int .i64 I1.1) from rfl)
      have a1 := (bb0.cell 1).trans (show _ = some (Value.slice Ax I1.2.length cx) from rfl)
      have a2 := (bc0.cell 0).trans (show _ = some (Value.int .i64 I1.1) from rfl)
      have a3 := (bc0.cell 1).trans (show _ = some (Value.slice Bx I1.2.length ex) from rfl)
      have hsame := sameImage_any I1 I1 Ax Bx cx ex w16.heap.size w16.heap.size w16 sbx scx (Nat.le_refl _) (Nat.le_refl _) n1 n1
      rw [hs1] at hsame
      go_wp2_with fail
      refine hsame.mono ?_
      rintro e w17 ⟨rfl, hb17⟩
      clear a0 a1 a2 a3 hsame
      have bd1 := bb1.below hb17 bb1.lt
      have be1 := bc1.below hb17 bc1.lt
      have sdy := Rd.more (Rd.below sby hb17) hb17.size
      have sey := Rd.more (Rd.below scy hb17) hb17.size
      have a0 := (bd1.cell 0).trans (show _ = some (Value.int .i64 I2.1) from rfl)
      have a1 := (bd1.cell 1).trans (show _ = some (Value.slice Ay I2.2.length cy) from rfl)
      have a2 := (be1.cell 0).trans (show _ = some (Value.int .i64 I2.1) from rfl)
      have a3 := (be1.cell 1).trans (show _ = some (Value.slice By I2.2.length ey) from rfl)
      have hsame := sameImage_any I2 I2 Ay By cy ey w17.heap.size w17.heap.size w17 sdy sey (Nat.le_refl _) (Nat.le_refl _) n2 n2
      rw [hs2] at hsame
      go_wp2_with fail
      refine hsame.mono ?_
      rintro e w18 ⟨rfl, hb18⟩
      go_wp2_with fail
      go_ret
      exact ⟨by simp, (hv16.trans (hb17.mono hv16.size)).trans (hb18.mono (Nat.le_trans hv16.size hb17.size))⟩
    · obtain rfl : EE = 0 := by rw [HEE.out, if_neg (by omega)]
      obtain ⟨rfl, rfl⟩ := hEV.out
      have q5 : (V2 == V2) = true := by simp
      have q6 : (V2 != V2) = false := by simp
      go_upto_region 15 with fail
      obtain ⟨⟨x0, x1⟩, x2, x3⟩ := ProofD.cell0 hX12
      obtain ⟨⟨y0, y1⟩, y2, y3⟩ := ProofD.cell0 hQ12
      go_wp2_with fail
      refine (hcw w12 hq12 hx12 (Nat.le_refl _)).mono ?_
      rintro e w13 ⟨Ax, cx, Ay, cy, rfl, hsx, hsy, hb13⟩
      clear x0 x1 x2 x3 y0 y1 y2 y3 hcw
      have hv13 : Below w12.heap.size w12 ((w13.alloc (.cells #[.int .i64 I1.1, .slice Ax I1.2.length cx] 106)).alloc (.cells #[.int .i64 I2.1, .slice Ay I2.2.length cy] 106)) := (hb13.alloc hb13.size _).alloc (Nat.le_trans hb13.size (by simp)) _
      have ba0 : Blk ((w13.alloc (.cells #[.int .i64 I1.1, .slice Ax I1.2.length cx] 106)).alloc (.cells #[.int .i64 I2.1, .slice Ay I2.2.length cy] 106)) w13.heap.size 106 #[.int .i64 I1.1, .slice Ax I1.2.length cx] := (Blk.new _ _ _).alloc _
      have ba1 : Blk ((w13.alloc (.cells #[.int .i64 I1.1, .slice Ax I1.2.length cx] 106)).alloc (.cells #[.int .i64 I2.1, .slice Ay I2.2.length cy] 106)) (w13.heap.size + 1) 106 #[.int .i64 I2.1, .slice Ay I2.2.length cy] := by
        have := Blk.new (w13.alloc (.cells #[.int .i64 I1.1, .slice Ax I1.2.length cx] 106)) 106 #[.int .i64 I2.1, .slice Ay I2.2.length cy]
        simpa using this
      have sax : Strs ((w13.alloc (.cells #[.int .i64 I1.1, .slice Ax I1.2.length cx] 106)).alloc (.cells #[.int .i64 I2.1, .slice Ay I2.2.length cy] 106)) ((w13.alloc (.cells #[.int .i64 I1.1, .slice Ax I1.2.length cx] 106)).alloc (.cells #[.int .i64 I2.1, .slice Ay I2.2.length cy] 106)).heap.size Ax I1.2 := Rd.more (Rd.alloc (Rd.alloc hsx (Nat.le_refl _) _) (by simp) _) (by simp; omega)
      have say : Strs ((w13.alloc (.cells #[.int .i64 I1.1, .slice Ax I1.2.length cx] 106)).alloc (.cells #[.int .i64 I2.1, .slice Ay I2.2.length cy] 106)) ((w13.alloc (.cells #[.int .i64 I1.1, .slice Ax I1.2.length cx] 106)).alloc (.cells #[.int .i64 I2.1, .slice Ay I2.2.length cy] 106)).heap.size Ay I2.2 := Rd.more (Rd.alloc (Rd.alloc hsy (Nat.le_refl _) _) (by simp) _) (by simp; omega)
      go_upto_region 16 with fail
      generalize hw14 : ((w13.alloc (.cells #[.int .i64 I1.1, .slice Ax I1.2.length cx] 106)).alloc (.cells #[.int .i64 I2.1, .slice Ay I2.2.length cy] 106)) = w14 at *
      clear hw14 hsx hsy hb13
      have hb014 := hb012.trans (hv13.mono hb012.size)
      have hz14 : w5.heap.size < w14.heap.size := Nat.lt_of_lt_of_le hz12 hv13.size
      have hX14 := hX12.below hv13 hX12.lt
      have hQ14 := hQ12.below hv13 hQ12.lt
      have hT14 := hT12.below hv13 hT12.lt
      have hU14 := hU12.below hv13 hU12.lt
      have hx14 : p.held w14 w14.heap.size := held_more (hx12.below hv13) hv13.size
      have hq14 : q.held w14 w14.heap.size := held_more (hq12.below hv13) hv13.size
      have hI14 : ItR w14 w2.heap.size uA (Tr.oitems t) := hI12.below (hv13.mono (Nat.le_of_lt (Nat.lt_of_le_of_lt hz25 hz12)))
      have ht14 : OTrR wd w14 w14.heap.size t a := ht12.up hv13
      clear hb012 hz12 hx12 hq12 hI12 ht12 hX12 hQ12 hT12 hU12
      obtain ⟨⟨x0, x1⟩, x2, x3⟩ := ProofD.cell0 hX14
      obtain ⟨⟨y0, y1⟩, y2, y3⟩ := ProofD.cell0 hQ14
      go_wp2_with fail
      refine (hrw w14 hq14 hx14).mono ?_
      rintro e w15 ⟨Bx, ex, By, ey, rfl, hsx, hsy, hb15⟩
      clear x0 x1 x2 x3 y0 y1 y2 y3 hrw
      have bb0 := ((ba0.below hb15 ba0.lt).alloc (.cells #[.int .i64 I1.1, .slice Bx I1.2.length ex] 106)).alloc (.cells #[.int .i64 I2.1, .slice By I2.2.length ey] 106)
      have bb1 := ((ba1.below hb15 ba1.lt).alloc (.cells #[.int .i64 I1.1, .slice Bx I1.2.length ex] 106)).alloc (.cells #[.int .i64 I2.1, .slice By I2.2.length ey] 106)
      have bc0 : Blk ((w15.alloc (.cells #[.int .i64 I1.1, .slice Bx I1.2.length ex] 106)).alloc (.cells #[.int .i64 I2.1, .slice By I2.2.length ey] 106)) w15.heap.size 106 #[.int .i64 I1.1, .slice Bx I1.2.length ex] := (Blk.new _ _ _).alloc _
      have bc1 : Blk ((w15.alloc (.cells #[.int .i64 I1.1, .slice Bx I1.2.length ex] 106)).alloc (.cells #[.int .i64 I2.1, .slice By I2.2.length ey] 106)) (w15.heap.size + 1) 106 #[.int .i64 I2.1, .slice By I2.2.length ey] := by
        have := Blk.new (w15.alloc (.cells #[.int .i64 I1.1, .slice Bx I1.2.length ex] 106)) 106 #[.int .i64 I2.1, .slice By I2.2.length ey]
        simpa using this
      have scx : Strs ((w15.alloc (.cells #[.int .i64 I1.1, .slice Bx I1.2.length ex] 106)).alloc (.cells #[.int .i64 I2.1, .slice By I2.2.length ey] 106)) ((w15.alloc (.cells #[.int .i64 I1.1, .slice Bx I1.2.length ex] 106)).alloc (.cells #[.int .i64 I2.1, .slice By I2.2.length ey] 106)).heap.size Bx I1.2 := Rd.more (Rd.alloc (Rd.alloc hsx (Nat.le_refl _) _) (by simp) _) (by simp; omega)
      have scy : Strs ((w15.alloc (.cells #[.int .i64 I1.1, .slice Bx I1.2.length ex] 106)).alloc (.cells #[.int .i64 I2.1, .slice By I2.2.length ey] 106)) ((w15.alloc (.cells #[.int .i64 I1.1, .slice Bx I1.2.length ex] 106)).alloc (.cells #[.int .i64 I2.1, .slice By I2.2.length ey] 106)).heap.size By I2.2 := Rd.more (Rd.alloc (Rd.alloc hsy (Nat.le_refl _) _) (by simp) _) (by simp; omega)
      have sbx : Strs ((w15.alloc (.cells #[.int .i64 I1.1, .slice Bx I1.2.length ex] 106)).alloc (.cells #[.int .i64 I2.1, .slice By I2.2.length ey] 106)) ((w15.alloc (.cells #[.int .i64 I1.1, .slice Bx I1.2.length ex] 106)).alloc (.cells #[.int .i64 I2.1, .slice By I2.2.length ey] 106)).heap.size Ax I1.2 := Rd.more (Rd.alloc (Rd.alloc (Rd.more (Rd.below sax hb15) hb15.size) (Nat.le_refl _) _) (by simp) _) (by simp; omega)
      have sby : Strs ((w15.alloc (.cells #[.int .i64 I1.1, .slice Bx I1.2.length ex] 106)).alloc (.cells #[.int .i64 I2.1, .slice By I2.2.length ey] 106)) ((w15.alloc (.cells #[.int .i64 I1.1, .slice Bx I1.2.length ex] 106)).alloc (.cells #[.int .i64 I2.1, .slice By I2.2.length ey] 106)).heap.size Ay I2.2 := Rd.more (Rd.alloc (Rd.alloc (Rd.more (Rd.below say hb15) hb15.size) (Nat.le_refl _) _) (by simp) _) (by simp; omega)
      have hv16 : Below w.heap.size w ((w15.alloc (.cells #[.int .i64 I1.1, .slice Bx I1.2.length ex] 106)).alloc (.cells #[.int .i64 I2.1, .slice By I2.2.length ey] 106)) := ((hb014.trans (hb15.mono hb014.size)).alloc (Nat.le_trans hb014.size hb15.size) _).alloc (Nat.le_trans (Nat.le_trans hb014.size hb15.size) (by simp)) _
      go_upto_region 17 with fail
      generalize hw16 : ((w15.alloc (.cells #[.int .i64 I1.1, .slice Bx I1.2.length ex] 106)).alloc (.cells #[.int .i64 I2.1, .slice By I2.2.length ey] 106)) = w16 at *
      clear hw16 hsx hsy hb15 ba0 ba1 sax say hb014
      have a0 := (bb0.cell 0).trans (show _ = some (Value.int .i64 I1.1) from rfl)
      have a1 := (bb0.cell 1).trans (show _ = some (Value.slice Ax I1.2.length cx) from rfl)
      have a2 := (bc0.cell 0).trans (show _ = some (Value.int .i64 I1.1) from rfl)
      have a3 := (bc0.cell 1).trans (show _ = some (Value.slice Bx I1.2.length ex) from rfl)
      have hsame := sameImage_any I1 I1 Ax Bx cx ex w16.heap.size w16.heap.size w16 sbx scx (Nat.le_refl _) (Nat.le_refl _) n1 n1
      rw [hs1] at hsame
      go_wp2_with fail
      refine hsame.mono ?_
      rintro e w17 ⟨rfl, hb17⟩
      clear a0 a1 a2 a3 hsame
      have bd1 := bb1.below hb17 bb1.lt
      have be1 := bc1.below hb17 bc1.lt
      have sdy := Rd.more (Rd.below sby hb17) hb17.size
      have sey := Rd.more (Rd.below scy hb17) hb17.size
      have a0 := (bd1.cell 0).trans (show _ = some (Value.int .i64 I2.1) from rfl)
      have a1 := (bd1.cell 1).trans (show _ = some (Value.slice Ay I2.2.length cy) from rfl)
      have a2 := (be1.cell 0).trans (show _ = some (Value.int .i64 I2.1) from rfl)
      have a3 := (be1.cell 1).trans (show _ = some (Value.slice By I2.2.length ey) from rfl)
      have hsame := sameImage_any I2 I2 Ay By cy ey w17.heap.size w17.heap.size w17 sdy sey (Nat.le_refl _) (Nat.le_refl _) n2 n2
      rw [hs2] at hsame
      go_wp2_with fail
      refine hsame.mono ?_
      rintro e w18 ⟨rfl, hb18⟩
      go_wp2_with fail
      go_ret
      exact ⟨by simp, (hv16.trans (hb17.mono hv16.size)).trans (hb18.mono (Nat.le_trans hv16.size hb17.size))⟩

namespace trieChecks
open Go.ChangeShapes Go.WideShapes Go.ChangeAt Go.RowKit
set_option linter.unusedVariables false
set_option maxRecDepth 100000 in
theorem walk {H : Type} (enc : TypeId × Value → H) : LawWalkB enc Try.prog Try.f7 7 := by
  intro W args ds p hA hval hlt hfz hbulk
  rw [Try.params7] at hA hval
  obtain ⟨v0, vs0, d0, ds0, p0, q0, hargs, rfl, rfl, h0, r0⟩ := trodAll_cons hA
  obtain ⟨v1, vs1, d1, ds1, p1, q1, rfl, rfl, rfl, h1, r1⟩ := trodAll_cons r0
  obtain ⟨v2, vs2, d2, ds2, p2, q2, rfl, rfl, rfl, h2, r2⟩ := trodAll_cons r1
  obtain ⟨v3, vs3, d3, ds3, p3, q3, rfl, rfl, rfl, h3, r3⟩ := trodAll_cons r2
  obtain ⟨v4, vs4, d4, ds4, p4, q4, rfl, rfl, rfl, h4, r4⟩ := trodAll_cons r3
  obtain ⟨v5, vs5, d5, ds5, p5, q5, rfl, rfl, rfl, h5, r5⟩ := trodAll_cons r4
  obtain ⟨rfl, rfl, rfl⟩ := trodAll_nil r5
  obtain rfl : args = #[v0, v1, v2, v3, v4, v5] := by cases args; simp_all
  simp only [Rows.uptoBulkAll] at hbulk
  obtain ⟨a0, rfl, _, _, wa0⟩ := open_int Try.underlying3 (hval 0 _ v0 rfl rfl) h0
  obtain ⟨A1, c1, l1, rfl, hl1, hx1⟩ := open_items (hval 1 _ v1 rfl rfl) h1
  obtain ⟨s2, rfl, hs2, hm2⟩ := openB_key (hval 2 _ v2 rfl rfl) h2
  obtain ⟨x3, rfl, hx3, hm3⟩ := openB_proof (hval 3 _ v3 rfl rfl) h3
  obtain ⟨a4, rfl, _, _, wa4⟩ := open_int Try.underlying3 (hval 4 _ v4 rfl rfl) h4
  obtain ⟨a5, rfl, _, _, wa5⟩ := open_int Try.underlying3 (hval 5 _ v5 rfl rfl) h5
  exact trieChecks_walk a0 (wf_i64 wa0).1 l1 A1 c1 s2 x3 a4 a5 W hx1 hl1 (by omega) hx3.2 (by omega) (wf_i64 wa4).1 (wf_i64 wa5).1 (wf_i64 wa5).2
set_option maxRecDepth 100000 in
theorem lifted (os : Os) (started : os.Started) (H : Type) (enc : TypeId × Value → H) (F : Stop.Interp) :
    ReturnsInHanded {} Try.checked os 7 .any ((Rows.OpenSpec.upto Rows.trieChecksSpec).pre6 enc Try.prog Try.f7 Rows.trieChecksUptoRow.domain false) (((Rows.OpenSpec.upto Rows.trieChecksSpec).at F).post enc Try.prog Try.f7 false true false false) := by
  refine returnsInHanded_of_cond (C := Try.checked) (s := Rows.OpenSpec.upto Rows.trieChecksSpec) (k := Rows.uptoSmall) rfl (by kernel_rfl) started (by kernel_rfl) Try.func7
    (OpenSpec.witness (enc := enc) (C := Try.checked) (s := Rows.OpenSpec.upto Rows.trieChecksSpec) (k := Rows.uptoSmall) rfl false ⟨#[], #[.int .i64 0, .slice none 0 0, .string ⟨#[]⟩, .agg #[.slice none 0 0, .bool false, .string ⟨#[]⟩, .string ⟨#[]⟩], .int .i64 0, .int .i64 0], []⟩ 8 (by kernel_rfl) (by kernel_rfl) (by kernel_rfl)
      (x := ([.lit (.int .i64 0), .nil, .lit (.string []), .agg [.nil, .lit (.bool false), .lit (.string []), .lit (.string [])], .lit (.int .i64 0), .lit (.int .i64 0)], [], [])) (by kernel_rfl) rfl (by kernel_rfl)) ?_
  intro W base args ds gs before hval hW _ hk _
  exact law_contract (C := Try.checked) (s := Rows.trieChecksSpec) (by kernel_rfl) (by kernel_rfl) rfl rfl Try.underlying4 (fun ds h => match ds, h with | [_, _, _, _, _, _], _ => rfl) (walk enc) W args ds gs before hval hW hk
set_option maxRecDepth 100000 in
theorem funcAt : Try.pinned.checked.prog.funcNamed Rows.trieChecksUptoRow.func = some 7 := by kernel_rfl
set_option maxRecDepth 100000 in
theorem closed : joinedFacts Try.pinned.checked.prog 7 Try.f7 (Rows.OpenSpec.upto Rows.trieChecksSpec).bare Rows.trieChecksUptoRow = true := by kernel_rfl
set_option maxRecDepth 100000 in
theorem over : Rows.trieChecksUptoRow.holds Try.pinned (Rows.OpenSpec.upto Rows.trieChecksSpec) :=
  OpenClaim.holds_of_cond 7 Try.f7 rfl rfl rfl rfl rfl rfl rfl ⟨rfl, rfl, rfl, rfl, rfl⟩ rfl rfl rfl rfl rfl funcAt Try.func7 closed
    (of_decide_eq_true (by kernel_rfl)) (by unfold Func.isWrapper; first | (rw [if_pos (by decide +kernel)]; kernel_rfl) | (rw [if_neg (by decide +kernel)]; exact ⟨rfl, rfl⟩))
    (fun os started H enc _ F => lifted os started H enc F)
end trieChecks
/-- the statement -/
theorem trieChecks_holds : Rows.TrieChecksUptoSaid := trieChecks.over
#print axioms trieChecks_holds
end Go.Proofs.Ytjjkdmngmopjbaa
