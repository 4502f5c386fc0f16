/- Proofs out of a tree, by the reference. -/
import Derived.Test.YtjjkdmngmopjbaaProg
import Derived.Test.YtjjkdmngmopjbaaTe2
import Derived.Test.YtjjkdmngmopjbaaG41
set_option linter.unusedSimpArgs false
set_option linter.unusedVariables false
namespace Go.Proofs.Ytjjkdmngmopjbaa
open Go.RowKit
/-- a row in the first field of a proof, appended to -/
theorem field_app4 {W w9 : World} {g base size k m : Nat} {t e : TypeId} {v v' x y z : Value} {xs ys : List Value} {tmp : Obj} (hb : Blk W g t #[v, x, y, z]) (hgb : g < base) (hrow : W.ownsRow base e size v k xs) (hbase : base ≤ W.heap.size) (hown' : w9.ownsRow base e size v' m ys) (hgrow : (W.alloc tmp).grownBy w9 v.ownBlock) :
    Blk w9 g t #[v, x, y, z] ∧ Blk (w9.setCell ⟨g, 0, none⟩ v') g t #[v', x, y, z] ∧ (w9.setCell ⟨g, 0, none⟩ v').ownsRow base e size v' m ys ∧ Below g W (w9.setCell ⟨g, 0, none⟩ v') := by
  have h9 : Blk w9 g t #[v, x, y, z] := (hb.alloc tmp).grown hgrow (fun h => by
    have := own_ge hrow g h.symm
    omega)
  refine ⟨h9, h9.set_ 0 v', hown'.kept (grown_set w9 ⟨g, 0, none⟩ v') (.inr fun h => ?_), ?_⟩
  · have := own_ge hown' g h
    omega
  · refine ((((Below.refl g W).alloc (by omega) tmp).grown hgrow (by simp; omega) fun j ej => ?_)).setCell (p := ⟨g, 0, none⟩) (Nat.le_refl _) v'
    have := own_ge hrow j ej
    omega
/-- the box of a tree and one of a proof -/
def two (w : World) (wd : Int) (s : Value) : World := (w.alloc (.cells #[.int .i64 wd, s] 57)).alloc (.cells #[.slice none 0 0, .bool false, .string ⟨#[]⟩, .string ⟨#[]⟩] 70)
theorem two_box (w : World) (wd : Int) (s : Value) : Blk (two w wd s) w.heap.size 57 #[.int .i64 wd, s] := (Blk.new w 57 #[.int .i64 wd, s]).alloc _
theorem two_a (w : World) (wd : Int) (s : Value) : Blk (two w wd s) (w.heap.size + 1) 70 #[.slice none 0 0, .bool false, .string ⟨#[]⟩, .string ⟨#[]⟩] := by
  have := Blk.new (w.alloc (.cells #[.int .i64 wd, s] 57)) 70 #[.slice none 0 0, .bool false, .string ⟨#[]⟩, .string ⟨#[]⟩]
  simpa [two] using this
theorem two_below (w : World) (wd : Int) (s : Value) : Below w.heap.size w (two w wd s) := ((Below.refl _ _).alloc (Nat.le_refl _) _).alloc (by simp) _
theorem two_size (w : World) (wd : Int) (s : Value) : (two w wd s).heap.size = w.heap.size + 2 := by simp [two]
/-- what is left of a tree on a way -/
def OnWay (wd : Int) (k : Key) (T t' : Tr) (pre : List TurnD) : Prop := GoodT t' ∧ t'.find k = T.find k ∧ pre ++ turnsT wd k t' = turnsT wd k T
def slLen : Value → Nat
  | .slice _ n _ => n
  | _ => 0
set_option maxRecDepth 100000 in
theorem rproveLong_any (wd : Int) (k : Key) (s : Value) (w : World) (h : 32 < k.length) :
    Calls Try.prog 25 #[rtreeV wd s, .string (bs k)] w fun e w' => e = .returned (.tuple #[.agg #[.slice none 0 0, .bool false, .string ⟨#[]⟩, .string ⟨#[]⟩], .int .i64 3]) ∧ Below w.heap.size w w' := by
  have hkd : decide ((32 : Int) < (k.length : Int)) = true := decide_eq_true (by omega)
  have hA : Blk ((w.alloc (.cells #[.int .i64 wd, s] 57)).alloc (.cells #[.slice none 0 0, .bool false, .string ⟨#[]⟩, .string ⟨#[]⟩] 70)) (w.heap.size + 1) 70 #[.slice none 0 0, .bool false, .string ⟨#[]⟩, .string ⟨#[]⟩] := by
    simpa using Blk.new (w.alloc (.cells #[.int .i64 wd, s] 57)) 70 #[.slice none 0 0, .bool false, .string ⟨#[]⟩, .string ⟨#[]⟩]
  have hB : Below w.heap.size w ((w.alloc (.cells #[.int .i64 wd, s] 57)).alloc (.cells #[.slice none 0 0, .bool false, .string ⟨#[]⟩, .string ⟨#[]⟩] 70)) := ((Below.refl _ _).alloc (Nat.le_refl _) _).alloc (by simp) _
  unfold rtreeV
  go_enter Try.func25, Try.ntmps25
  go_upto_region 2 with fail
  generalize ((w.alloc (.cells #[.int .i64 wd, s] 57)).alloc (.cells #[.slice none 0 0, .bool false, .string ⟨#[]⟩, .string ⟨#[]⟩] 70)) = w0 at *
  have f := hA.frozen
  have a0 := (hA.cell 0).trans (show _ = some (Value.slice none 0 0) from rfl)
  have a1 := (hA.cell 1).trans (show _ = some (Value.bool false) from rfl)
  have a2 := (hA.cell 2).trans (show _ = some (Value.string ⟨#[]⟩) from rfl)
  have a3 := (hA.cell 3).trans (show _ = some (Value.string ⟨#[]⟩) from rfl)
  have hR1 := (((hA.set_ 0 (.slice none 0 0)).set_ 1 (.bool false)).set_ 2 (.string ⟨#[]⟩)).set_ 3 (.string ⟨#[]⟩)
  have z0 := (hR1.cell 0).trans (show _ = some (Value.slice none 0 0) from rfl)
  have z1 := (hR1.cell 1).trans (show _ = some (Value.bool false) from rfl)
  have z2 := (hR1.cell 2).trans (show _ = some (Value.string ⟨#[]⟩) from rfl)
  have z3 := (hR1.cell 3).trans (show _ = some (Value.string ⟨#[]⟩) from rfl)
  go_wp2_with fail
  exact bodyPost_ret (v := .tuple #[.agg #[.slice none 0 0, .bool false, .string ⟨#[]⟩, .string ⟨#[]⟩], .int .i64 3]) (by simp [results, Try.results25, go_sem, z0, z1, z2, z3]) rfl ⟨rfl, (((hB.setCell (p := ⟨w.heap.size + 1, 0, none⟩) (by dsimp only; omega) _).setCell (p := ⟨w.heap.size + 1, 1, none⟩) (by dsimp only; omega) _).setCell (p := ⟨w.heap.size + 1, 2, none⟩) (by dsimp only; omega) _).setCell (p := ⟨w.heap.size + 1, 3, none⟩) (by dsimp only; omega) _⟩
/-- a proof's cells, stored into the box of a result -/
theorem prove_res {W : World} {g : Nat} {t : TypeId} {s x y z s' x' y' z' : Value} (h : Blk W g t #[s, x, y, z]) :
    Blk ((((W.setCell ⟨g, 0, none⟩ s').setCell ⟨g, 1, none⟩ x').setCell ⟨g, 2, none⟩ y').setCell ⟨g, 3, none⟩ z') g t #[s', x', y', z'] := (((h.set_ 0 s').set_ 1 x').set_ 2 y').set_ 3 z'
set_option maxRecDepth 100000 in
set_option maxHeartbeats 8000000 in
theorem rprove_any (wd : Int) (k : Key) (T : Tr) (A : Option Addr) (n c B : Nat) (w : World) (hk : k.length ≤ 32) (hg : GoodT T) (hn : T.items.length = n) (hl : ItR w B A T.items) (hB : B ≤ w.heap.size) (hc : n ≤ c) (hcm : c ≤ maxLen) (hd : (turnsT wd k T).length ≤ 1000000000) :
    Calls Try.prog 25 #[rtreeV wd (.slice A n c), .string (bs k)] w fun e w' => ∃ x : ProofD, e = .returned (.tuple #[x.val, .int .i64 0]) ∧ x.turns = turnsT wd k T ∧ x.leaf = true ∧ x.key = (T.find k).1 ∧ x.value = (T.find k).2 ∧ x.held w' w'.heap.size ∧ Below w.heap.size w w' := by
  have hR : Hid (∃ t' : Tr, OnWay wd k T t' [] ∧ t'.items.length = n ∧ ItR w B A t'.items) := ⟨T, ⟨hg, rfl, rfl⟩, hn, hl⟩
  obtain ⟨i0, hi0, hz0, hz1, hz2⟩ := info_parts turnInfo
  have hX := two_box w wd (.slice A n c)
  have hA := two_a w wd (.slice A n c)
  have hB0 := two_below w wd (.slice A n c)
  have hsz := Lib.hid (two_size w wd (.slice A n c))
  have hkd : decide ((32 : Int) < (k.length : Int)) = false := decide_eq_false (by omega)
  clear hg hn hl
  unfold two at *
  unfold rtreeV
  go_enter Try.func25, Try.ntmps25
  go_upto_region 3 with fail
  generalize ((w.alloc (.cells #[.int .i64 wd, .slice A n c] 57)).alloc (.cells #[.slice none 0 0, .bool false, .string ⟨#[]⟩, .string ⟨#[]⟩] 70)) = w1 at *
  have hP := Blk.new w1 70 #[.slice none 0 0, .bool false, .string ⟨#[]⟩, .string ⟨#[]⟩]
  have hX0 := hX.alloc (.cells #[.slice none 0 0, .bool false, .string ⟨#[]⟩, .string ⟨#[]⟩] 70)
  have hA0 := hA.alloc (.cells #[.slice none 0 0, .bool false, .string ⟨#[]⟩, .string ⟨#[]⟩] 70)
  have hB1 := hB0.alloc (o := .cells #[.slice none 0 0, .bool false, .string ⟨#[]⟩, .string ⟨#[]⟩] 70) hB0.size
  have hsz1 : w1.heap.size < (w1.alloc (.cells #[.slice none 0 0, .bool false, .string ⟨#[]⟩, .string ⟨#[]⟩] 70)).heap.size := hP.lt
  have f := hP.frozen
  have a0 := (hP.cell 0).trans (show _ = some (Value.slice none 0 0) from rfl)
  have a1 := (hP.cell 1).trans (show _ = some (Value.bool false) from rfl)
  have a2 := (hP.cell 2).trans (show _ = some (Value.string ⟨#[]⟩) from rfl)
  have a3 := (hP.cell 3).trans (show _ = some (Value.string ⟨#[]⟩) from rfl)
  go_upto_region 4 with fail
  clear f a0 a1 a2 a3 hX hA hB0
  have hgg : w.heap.size + 2 ≤ w1.heap.size := by rw [hsz.out]; omega
  clear hsz
  generalize (w1.alloc (.cells #[.slice none 0 0, .bool false, .string ⟨#[]⟩, .string ⟨#[]⟩] 70)) = w0 at *
  generalize w1.heap.size = g at *
  clear w1
  have x0 := (hX0.cell 0).trans (show _ = some (Value.int .i64 wd) from rfl)
  have x1 := (hX0.cell 1).trans (show _ = some (Value.slice A n c) from rfl)
  go_wp2_with fail
  go_loopw [7, 8, 9, 10, 11, 12, 13] (fun s7 _ _ _ _ _ _ wr => ∃ (A' : Option Addr) (n' c' : Nat) (pre : List TurnD) (v : Value), s7 = .slice A' n' c' ∧ n' ≤ c' ∧ c' ≤ maxLen ∧ Blk wr g 70 #[v, .bool false, .string ⟨#[]⟩, .string ⟨#[]⟩] ∧ wr.ownsRow (g + 1) 141 2 v pre.length (turnCells pre) ∧ Below g w0 wr ∧ Hid (∃ t' : Tr, OnWay wd k T t' pre ∧ t'.items.length = n' ∧ ItR w B A' t'.items)) (fun s7 _ _ _ _ _ _ _ => slLen s7)
  case atStart => exact ⟨A, n, c, [], .slice none 0 0, rfl, hc, hcm, hP, World.ownsRow_nil _ _ _ _, Below.refl _ _, hR⟩
  case round =>
    obtain ⟨A', n', c', pre, v, rfl, hc', hcm', hP', hown, hb, hR'⟩ := hrel
    clear hR hP x0 x1
    obtain ⟨t', ⟨hgt, hfd, hpre⟩, hn', hl'⟩ := hR'
    have hXr := hX0.below hb (by omega)
    have hAr := hA0.below hb (by omega)
    have hz := hb.size
    have x0 := (hXr.cell 0).trans (show _ = some (Value.int .i64 wd) from rfl)
    obtain ⟨rA, rc, rfl⟩ := own_shape hown
    have p0 := (hP'.cell 0).trans (show _ = some (Value.slice rA pre.length rc) from rfl)
    have pf := hP'.frozen
    cases t' with
    | leaf a b =>
      have hn1 : n' = 1 := by rw [← hn']; rfl
      subst hn1
      have hl2 : ItR wr B A' (Tr.items (.leaf a b)) := Rd.below hl' ((hB1.mono hB).trans (hb.mono (by omega)))
      obtain ⟨xb, xo, rfl, hxb, yy0, yy1⟩ := hl2.at_ (k := 0) (by simp [Tr.items])
      have y0 : wr.cell? ⟨xb, xo, none⟩ = some (.string (bs a)) := by simpa [Tr.items] using yy0
      have y1 : wr.cell? ⟨xb, xo + 1, none⟩ = some (.string (bs b)) := by simpa [Tr.items] using yy1
      have hfin : Hid (pre = turnsT wd k T ∧ a = (T.find k).1 ∧ b = (T.find k).2) := by
        show _ ∧ _
        rw [← hfd, ← hpre]
        exact ⟨by rw [turnsT, List.append_nil], rfl, rfl⟩
      clear hfd hpre hgt hl' hl2 hn' yy0 yy1
      have p1 := (hP'.cell 1).trans (show _ = some (Value.bool false) from rfl)
      have p2 := (hP'.cell 2).trans (show _ = some (Value.string ⟨#[]⟩) from rfl)
      have p3 := (hP'.cell 3).trans (show _ = some (Value.string ⟨#[]⟩) from rfl)
      have a0 := (hAr.cell 0).trans (show _ = some (Value.slice none 0 0) from rfl)
      have a1 := (hAr.cell 1).trans (show _ = some (Value.bool false) from rfl)
      have a2 := (hAr.cell 2).trans (show _ = some (Value.string ⟨#[]⟩) from rfl)
      have a3 := (hAr.cell 3).trans (show _ = some (Value.string ⟨#[]⟩) from rfl)
      have af := hAr.frozen
      have n1 : ¬ g = w.heap.size + 1 := by omega
      have n2 : ¬ g = xb := by omega
      have n3 : ¬ w.heap.size + 1 = xb := by omega
      have n4 : ¬ w.heap.size + 1 = g := by omega
      go_wp2_with fail
      obtain ⟨e1, e2, e3⟩ := hfin.out
      have hlen : pre.length ≤ maxLen := by rw [e1]; unfold maxLen; omega
      have hok : ∀ x ∈ pre, x.ok := by rw [e1]; exact turnsT_ok wd k T
      refine bodyPost_ret (v := .tuple #[.agg #[.slice rA pre.length rc, .bool true, .string (bs a), .string (bs b)], .int .i64 0]) (by simp [results, Try.results25, go_sem, a0, a1, a2, a3]) rfl ?_
      refine ⟨⟨pre, rA, rc, true, a, b⟩, rfl, e1, rfl, e2, e3, ⟨Rd.of_own (e := 141) (base := g + 1) (c := rc) ?_, hlen, hok⟩, ?_⟩
      · repeat (with_reducible refine own_set ?_ (by dsimp only; omega) _)
        exact hown
      · repeat (with_reducible refine Below.setCell ?_ (by dsimp only; omega) _)
        exact hB1.trans (hb.mono (by omega))
    | fork p tl tr =>
      have hlen : tl.items.length + tr.items.length = n' := by rw [← hn', Tr.items, List.length_append]
      have hpl := tl.items_pos
      have hpr := tr.items_pos
      obtain ⟨b, off, rfl, hbB, xz0, xz1⟩ := hl'.at_ (k := 0) (by omega)
      clear xz0 xz1
      have hL : ItR w B (some ⟨b, off, none⟩) tl.items := by
        have := hl'.front (k := tl.items.length) (by omega)
        rwa [Tr.items, List.take_left] at this
      have hRr : ItR w B (some ⟨b, off + tl.items.length * 2, none⟩) tr.items := by
        have := hl'.back (k := tl.items.length) (by omega)
        rwa [Tr.items, List.drop_left] at this
      have hf := rforkT_any p tl tr (some ⟨b, off, none⟩) c' B wr hgt (Rd.below hl' ((hB1.mono hB).trans (hb.mono (by omega))))
      rw [hn'] at hf
      have hDL := fun (c0 : Nat) (W : World) => (rtop_all wd tl hgt.left).2 tl.items.length (some ⟨b, off, none⟩) c0 B W rfl
      have hDR := fun (c0 : Nat) (W : World) => (rtop_all wd tr hgt.right).2 (n' - tl.items.length) (some ⟨b, off + tl.items.length * 2, none⟩) c0 B W (by omega)
      have hp9 := hgt.2.1.1
      have hbit := fun W => rbit_any k p W (by omega) (by omega)
      have hN : bitN k p = if bitB k p then 1 else 0 := rfl
      rw [hN] at hbit
      rw [turnsT] at hpre
      rw [Tr.find] at hfd
      have hpl2 : pre.length + 1 ≤ 1000000000 := by
        have := congrArg List.length hpre
        split at this <;> simp only [List.length_append, List.length_cons] at this <;> omega
      generalize bitB k p = bb at *
      have hLr : ItR wr B (some ⟨b, off, none⟩) tl.items := Rd.below hL ((hB1.mono hB).trans (hb.mono (by omega)))
      have hRw : ItR wr B (some ⟨b, off + tl.items.length * 2, none⟩) tr.items := Rd.below hRr ((hB1.mono hB).trans (hb.mono (by omega)))
      have hxL := digT_bd wd tl
      have hxR := digT_bd wd tr
      have hg1 := hgt.left
      have hg2 := hgt.right
      clear hl' hgt hN
      generalize hKe : tl.items.length = K at *
      have hKE := Lib.hid hKe
      clear hKe
      have i0' : (0 : Int) ≤ (K : Int) := by omega
      have i1 : (K : Int) ≤ (n' : Int) := by omega
      have i2 : (K : Int) ≤ (c' : Int) := by omega
      have i3 : (n' : Int) ≤ (c' : Int) := by omega
      have i5 : ¬ c' = K := by omega
      have d1 : decide ((n' : Int) > 1) = true := decide_eq_true (by omega)
      have d2 : decide ((1 : Int) < (n' : Int)) = true := decide_eq_true (by omega)
      go_wp2_with fail
      refine hf.mono ?_
      rintro e w3 ⟨rfl, rfl⟩
      go_wp2_with fail
      refine (hbit _).mono ?_
      rintro e w3 ⟨rfl, rfl⟩
      have hDL_ := trivial
      cases bb with
      | false =>
        simp only [Bool.false_eq_true, if_false] at hfd hpre ⊢
        have hnext : Hid (∃ t' : Tr, OnWay wd k T t' (pre ++ [⟨(p : Int), digT wd tr⟩]) ∧ t'.items.length = K ∧ ItR w B (some ⟨b, off, none⟩) t'.items) := ⟨tl, ⟨hg1, hfd, by rw [← hpre]; simp⟩, hKE.out, hL⟩
        clear hfd hpre hDL hf hbit
        have hSD := hDR (c' - K) wr hRw (by omega) (by omega) (by omega)
        have hx := hxR
        clear hDL_ hLr hRw hL hRr hxL hxR hDR hg1 hg2
        generalize digT wd tr = D at *
        go_wp2_with fail
        refine hSD.mono ?_
        rintro e w2 ⟨rfl, hb2⟩
        clear hSD
        have hP2 := hP'.below hb2 hP'.lt
        have q0 := (hP2.cell 0).trans (show _ = some (Value.slice rA pre.length rc) from rfl)
        have qf := hP2.frozen
        have hown2 := own_below hown hb2
        have hb12 : Below g w0 w2 := hb.trans (hb2.mono (by have := hP'.lt; omega))
        have hgw : g + 1 ≤ w2.heap.size := hP2.lt
        clear hown hP' p0 pf
        go_wp2_with (at_builtin; refine wpList_append_any _ rfl (.tmp 51) (.tmp 55) 68 rfl (g + 1) 141 i0 _ 2 16 Try.underlying68 hi0 hz0 hz1 hz2 rfl (by omega) _ pre.length _ (by rfl) (hown2.alloc _) (w2.heap.size + 1) _ 1 1 [.int .i64 (p : Int), .int .u64 D] (by rfl) (Rd.laid w2 #[.int .i64 (p : Int), .int .u64 D] 141 2 1 rfl) (fun u hu => by simp at hu; rcases hu with rfl | rfl <;> rfl) (by simp [maxLen]; omega) (by omega) (by simp; omega) ?_; intro v' w9 hown' hgrow _; obtain ⟨h9, hP9, hr9, hb9⟩ := field_app4 hP2 (by omega) hown2 hgw hown' hgrow; have n0 := (h9.cell 0).trans (show _ = some (Value.slice rA pre.length rc) from rfl); have nf0 := h9.frozen 0; obtain ⟨g', cap', rfl⟩ := ownsRow_succ hown')
        go_roundw
        case rel => exact ⟨(some ⟨b, off, none⟩), K, c', pre ++ [⟨(p : Int), D⟩], _, rfl, by omega, by omega, hP9, by simpa [turnCells, TurnD.cells] using hr9, hb12.trans hb9, hnext⟩
        case measure => simp [slLen]; omega
      | true =>
        simp only [if_true] at hfd hpre ⊢
        have hnext : Hid (∃ t' : Tr, OnWay wd k T t' (pre ++ [⟨(p : Int), digT wd tl⟩]) ∧ t'.items.length = (n' - K) ∧ ItR w B (some ⟨b, off + K * 2, none⟩) t'.items) := ⟨tr, ⟨hg2, hfd, by rw [← hpre]; simp⟩, by omega, hRr⟩
        clear hfd hpre hDR hf hbit
        have hSD := hDL c' wr hLr (by omega) (by omega) (by omega)
        have hx := hxL
        clear hDL_ hLr hRw hL hRr hxL hxR hDL hg1 hg2
        generalize digT wd tl = D at *
        go_wp2_with fail
        refine hSD.mono ?_
        rintro e w2 ⟨rfl, hb2⟩
        clear hSD
        have hP2 := hP'.below hb2 hP'.lt
        have q0 := (hP2.cell 0).trans (show _ = some (Value.slice rA pre.length rc) from rfl)
        have qf := hP2.frozen
        have hown2 := own_below hown hb2
        have hb12 : Below g w0 w2 := hb.trans (hb2.mono (by have := hP'.lt; omega))
        have hgw : g + 1 ≤ w2.heap.size := hP2.lt
        clear hown hP' p0 pf
        go_wp2_with (at_builtin; refine wpList_append_any _ rfl (.tmp 51) (.tmp 55) 68 rfl (g + 1) 141 i0 _ 2 16 Try.underlying68 hi0 hz0 hz1 hz2 rfl (by omega) _ pre.length _ (by rfl) (hown2.alloc _) (w2.heap.size + 1) _ 1 1 [.int .i64 (p : Int), .int .u64 D] (by rfl) (Rd.laid w2 #[.int .i64 (p : Int), .int .u64 D] 141 2 1 rfl) (fun u hu => by simp at hu; rcases hu with rfl | rfl <;> rfl) (by simp [maxLen]; omega) (by omega) (by simp; omega) ?_; intro v' w9 hown' hgrow _; obtain ⟨h9, hP9, hr9, hb9⟩ := field_app4 hP2 (by omega) hown2 hgw hown' hgrow; have n0 := (h9.cell 0).trans (show _ = some (Value.slice rA pre.length rc) from rfl); have nf0 := h9.frozen 0; obtain ⟨g', cap', rfl⟩ := ownsRow_succ hown')
        go_roundw
        case rel => exact ⟨(some ⟨b, off + K * 2, none⟩), (n' - K), (c' - K), pre ++ [⟨(p : Int), D⟩], _, rfl, by omega, by omega, hP9, by simpa [turnCells, TurnD.cells] using hr9, hb12.trans hb9, hnext⟩
        case measure => simp [slLen]; omega
set_option maxRecDepth 100000 in
set_option maxHeartbeats 1000000 in
theorem rproveNo_any (wd : Int) (k : Key) (A : Option Addr) (c : Nat) (w : World) (hk : k.length ≤ 32) :
    Calls Try.prog 25 #[rtreeV wd (.slice A 0 c), .string (bs k)] w fun e w' => e = .returned (.tuple #[.agg #[.slice none 0 0, .bool false, .string ⟨#[]⟩, .string ⟨#[]⟩], .int .i64 0]) ∧ Below w.heap.size w w' := by
  have hX := two_box w wd (.slice A 0 c)
  have hA := two_a w wd (.slice A 0 c)
  have hB0 := two_below w wd (.slice A 0 c)
  have hsz := Lib.hid (two_size w wd (.slice A 0 c))
  have hkd : decide ((32 : Int) < (k.length : Int)) = false := decide_eq_false (by omega)
  unfold two at *
  unfold rtreeV
  go_enter Try.func25, Try.ntmps25
  go_upto_region 3 with fail
  generalize ((w.alloc (.cells #[.int .i64 wd, .slice A 0 c] 57)).alloc (.cells #[.slice none 0 0, .bool false, .string ⟨#[]⟩, .string ⟨#[]⟩] 70)) = w1 at *
  have hP := Blk.new w1 70 #[.slice none 0 0, .bool false, .string ⟨#[]⟩, .string ⟨#[]⟩]
  have hX0 := hX.alloc (.cells #[.slice none 0 0, .bool false, .string ⟨#[]⟩, .string ⟨#[]⟩] 70)
  have hA0 := hA.alloc (.cells #[.slice none 0 0, .bool false, .string ⟨#[]⟩, .string ⟨#[]⟩] 70)
  have hB1 := hB0.alloc (o := .cells #[.slice none 0 0, .bool false, .string ⟨#[]⟩, .string ⟨#[]⟩] 70) hB0.size
  have hsz1 : w1.heap.size < (w1.alloc (.cells #[.slice none 0 0, .bool false, .string ⟨#[]⟩, .string ⟨#[]⟩] 70)).heap.size := hP.lt
  have f := hP.frozen
  have a0 := (hP.cell 0).trans (show _ = some (Value.slice none 0 0) from rfl)
  have a1 := (hP.cell 1).trans (show _ = some (Value.bool false) from rfl)
  have a2 := (hP.cell 2).trans (show _ = some (Value.string ⟨#[]⟩) from rfl)
  have a3 := (hP.cell 3).trans (show _ = some (Value.string ⟨#[]⟩) from rfl)
  go_upto_region 4 with fail
  clear f a0 a1 a2 a3 hX hA hB0
  have hgg : w.heap.size + 2 ≤ w1.heap.size := by rw [hsz.out]; omega
  clear hsz
  generalize (w1.alloc (.cells #[.slice none 0 0, .bool false, .string ⟨#[]⟩, .string ⟨#[]⟩] 70)) = w0 at *
  generalize w1.heap.size = g at *
  clear w1
  have x0 := (hX0.cell 0).trans (show _ = some (Value.int .i64 wd) from rfl)
  have x1 := (hX0.cell 1).trans (show _ = some (Value.slice A 0 c) from rfl)
  go_wp2_with fail
  go_loopw [7, 8, 9, 10, 11, 12, 13] (fun s7 _ _ _ _ _ _ wr => s7 = .slice A 0 c ∧ wr = w0) (fun s7 _ _ _ _ _ _ _ => slLen s7)
  case atStart => exact ⟨rfl, rfl⟩
  case round =>
    obtain ⟨rfl, rfl⟩ := hrel
    have p0 := (hP.cell 0).trans (show _ = some (Value.slice none 0 0) from rfl)
    have p1 := (hP.cell 1).trans (show _ = some (Value.bool false) from rfl)
    have p2 := (hP.cell 2).trans (show _ = some (Value.string ⟨#[]⟩) from rfl)
    have p3 := (hP.cell 3).trans (show _ = some (Value.string ⟨#[]⟩) from rfl)
    have a0 := (hA0.cell 0).trans (show _ = some (Value.slice none 0 0) from rfl)
    have a1 := (hA0.cell 1).trans (show _ = some (Value.bool false) from rfl)
    have a2 := (hA0.cell 2).trans (show _ = some (Value.string ⟨#[]⟩) from rfl)
    have a3 := (hA0.cell 3).trans (show _ = some (Value.string ⟨#[]⟩) from rfl)
    have pf := hP.frozen
    have af := hA0.frozen
    have n1 : ¬ g = w.heap.size + 1 := by omega
    have n4 : ¬ w.heap.size + 1 = g := by omega
    go_wp2_with fail
    refine bodyPost_ret (v := .tuple #[.agg #[.slice none 0 0, .bool false, .string ⟨#[]⟩, .string ⟨#[]⟩], .int .i64 0]) (by simp [results, Try.results25, go_sem, a0, a1, a2, a3]) rfl ⟨rfl, ?_⟩
    repeat (with_reducible refine Below.setCell ?_ (by dsimp only; omega) _)
    exact hB1
/-- what both Proves answer: of a key that is too long an empty one -/
def PrvX (wd : Int) (k : Key) (t : Option Tr) (x : ProofD) : Prop := if 32 < k.length then x.turns = [] ∧ x.leaf = false ∧ x.key = [] ∧ x.value = [] else IsProof wd k t x
theorem PrvX.same {wd : Int} {k : Key} {t : Option Tr} {x y : ProofD} (h : PrvX wd k t x) (h' : PrvX wd k t y) : x.turns = y.turns ∧ x.leaf = y.leaf ∧ x.key = y.key ∧ x.value = y.value := by
  unfold PrvX at h h'
  split at h
  · next hk =>
    rw [if_pos hk] at h'
    exact ⟨h.1.trans h'.1.symm, h.2.1.trans h'.2.1.symm, h.2.2.1.trans h'.2.2.1.symm, h.2.2.2.trans h'.2.2.2.symm⟩
  · next hk =>
    rw [if_neg hk] at h'
    cases t <;> exact ⟨h.1.trans h'.1.symm, h.2.1.trans h'.2.1.symm, h.2.2.1.trans h'.2.2.1.symm, h.2.2.2.trans h'.2.2.2.symm⟩
def ProveX (wd : Int) (k : Key) (t : Option Tr) (w : World) (e : Ending) (w' : World) : Prop := ∃ x : ProofD, e = .returned (.tuple #[x.val, .int .i64 (if 32 < k.length then 3 else 0)]) ∧ PrvX wd k t x ∧ x.held w' w'.heap.size ∧ Below w.heap.size w w'
theorem held_nil (w : World) (B : Nat) : ProofD.held w B ⟨[], none, 0, false, [], []⟩ := ⟨Rd.nil _ _ _ _, by simp, fun t ht => by cases ht⟩
theorem proveX_any (wd : Int) (k : Key) (t : Option Tr) (a : Option Addr) (w : World) (hok : Tr.ook t) (hk32 : ∀ y, y ∈ Tr.oitems t → y.1.length ≤ 32) (h : OTrR wd w w.heap.size t a) :
    Calls Try.prog 24 #[treeV wd a, .string (bs k)] w (ProveX wd k t w) := by
  by_cases hk : 32 < k.length
  · refine (proveLong_any wd k a w hk).mono ?_
    rintro e w' ⟨rfl, hb⟩
    exact ⟨⟨[], none, 0, false, [], []⟩, by rw [if_pos hk]; rfl, by unfold PrvX; rw [if_pos hk]; exact ⟨rfl, rfl, rfl, rfl⟩, held_nil _ _, hb⟩
  · have hk' : k.length ≤ 32 := by omega
    cases t with
    | none =>
      obtain rfl : a = none := h
      refine (proveNo_any wd k w hk').mono ?_
      rintro e w' ⟨rfl, hb⟩
      exact ⟨⟨[], none, 0, false, [], []⟩, by rw [if_neg hk]; rfl, by unfold PrvX; rw [if_neg hk]; exact ⟨rfl, rfl, rfl, rfl⟩, held_nil _ _, hb⟩
    | some t =>
      obtain ⟨q, rfl, hq⟩ := h
      have hlen := turnsT_len (wd := wd) (k := k) (t := t) hok hk32
      refine (prove_any wd k t q w hk' (low_of hok hk32) (by omega) hq).mono ?_
      rintro e w' ⟨x, rfl, h1, h2, h3, h4, h5, hb⟩
      exact ⟨x, by rw [if_neg hk], by unfold PrvX; rw [if_neg hk]; exact ⟨h1, h2, h3, h4⟩, h5, hb⟩
theorem rproveX_any (wd : Int) (k : Key) (t : Option Tr) (A : Option Addr) (n c B : Nat) (w : World) (hg : GoodO t) (hok : Tr.ook t) (hk32 : ∀ y, y ∈ Tr.oitems t → y.1.length ≤ 32) (hn : (Tr.oitems t).length = n) (hl : ItR w B A (Tr.oitems t)) (hB : B ≤ w.heap.size) (hc : n ≤ c) (hcm : c ≤ maxLen) :
    Calls Try.prog 25 #[rtreeV wd (.slice A n c), .string (bs k)] w (ProveX wd k t w) := by
  by_cases hk : 32 < k.length
  · refine (rproveLong_any wd k (.slice A n c) w hk).mono ?_
    rintro e w' ⟨rfl, hb⟩
    exact ⟨⟨[], none, 0, false, [], []⟩, by rw [if_pos hk]; rfl, by unfold PrvX; rw [if_pos hk]; exact ⟨rfl, rfl, rfl, rfl⟩, held_nil _ _, hb⟩
  · have hk' : k.length ≤ 32 := by omega
    cases t with
    | none =>
      have hn0 : n = 0 := by rw [← hn]; rfl
      subst hn0
      refine (rproveNo_any wd k A c w hk').mono ?_
      rintro e w' ⟨rfl, hb⟩
      exact ⟨⟨[], none, 0, false, [], []⟩, by rw [if_neg hk]; rfl, by unfold PrvX; rw [if_neg hk]; exact ⟨rfl, rfl, rfl, rfl⟩, held_nil _ _, hb⟩
    | some t =>
      have hlen := turnsT_len (wd := wd) (k := k) (t := t) hok hk32
      refine (rprove_any wd k t A n c B w hk' (hg t rfl) hn hl hB hc hcm (by omega)).mono ?_
      rintro e w' ⟨x, rfl, h1, h2, h3, h4, h5, hb⟩
      exact ⟨x, by rw [if_neg hk], by unfold PrvX; rw [if_neg hk]; exact ⟨h1, h2, h3, h4⟩, h5, hb⟩
end Go.Proofs.Ytjjkdmngmopjbaa
