/- Of the texts PfA. -/
import Derived.Test.YtjjkdmngmopjbaaProg
import Derived.Test.YtjjkdmngmopjbaaG37
import Derived.Test.YtjjkdmngmopjbaaG16
namespace Go.Proofs.Ytjjkdmngmopjbaa
open Go.RowKit Go.Shelf
set_option linter.unusedSimpArgs false
theorem Blk.kept {W W' : World} {row : Option Nat} {b : Nat} {t : TypeId} {cs : Array Value} (h : Blk W b t cs) (hg : W.grownBy W' row) (hr : ∀ r, row = some r → ∃ o : Obj, W.heap[r]? = some o ∧ o.isCells = false) : Blk W' b t cs :=
  h.grown hg (fun e => by
    obtain ⟨o, ho, hc⟩ := hr b e.symm
    unfold Blk at h
    rw [h] at ho
    cases ho
    cases hc)
theorem Strs.kept {W W' : World} {row : Option Nat} {B : Nat} {A : Option Addr} {ps : List (List UInt8)} (h : Strs W B A ps) (hg : W.grownBy W' row) (hr : ∀ r, row = some r → ∃ o : Obj, W.heap[r]? = some o ∧ o.isCells = false) : Strs W' B A ps :=
  ⟨h.1, fun hn => by
    obtain ⟨b, off, e, hb, hc⟩ := h.2 hn
    exact ⟨b, off, e, hb, fun j u hj => cell_kept (hc j u hj) hg hr⟩⟩
theorem Imgs.kept {base : Nat} {W W' : World} {r row : Option Nat} (hg : W.grownBy W' row) (hr : ∀ r, row = some r → ∃ o : Obj, W.heap[r]? = some o ∧ o.isCells = false) : ∀ {xs : List Value} {l : List ImgP}, Imgs base W r xs l → Imgs base W' r xs l
  | [], [], h => h
  | [], _ :: _, h => h
  | [_], [], h => h
  | [_], _ :: _, h => h
  | _ :: _ :: _, [], h => h
  | x :: y :: xs, i :: l, h => by
    obtain ⟨h1, ⟨A, c', h2, h3, h4, h5⟩, h6⟩ := h
    exact ⟨h1, ⟨A, c', h2, Rd.more (Strs.kept h3 hg hr) hg.size, h4, h5⟩, Imgs.kept hg hr h6⟩
theorem own_kept {W W' : World} {row : Option Nat} {base size n : Nat} {e : TypeId} {v : Value} {xs : List Value} (h : W.ownsRow base e size v n xs) (hg : W.grownBy W' row) (hr : ∀ r, row = some r → ∃ o : Obj, W.heap[r]? = some o ∧ o.isCells = false) : W'.ownsRow base e size v n xs :=
  h.kept hg (by
    rcases h.2 with ⟨rfl, _⟩ | ⟨g, cap, cur, rfl, _, hgb, _⟩
    · exact .inl rfl
    · refine .inr fun e' => ?_
      obtain ⟨o, ho, hc⟩ := hr g (by simpa [Value.ownBlock] using e'.symm)
      rw [hgb] at ho; cases ho; cases hc)
theorem Strs.boxS {w : World} {B g : Nat} {t : TypeId} {A A' : Option Addr} {m c : Nat} {ps : List (List UInt8)} (h : Strs w B A ps) (hg : Blk w g t #[.slice A' m c]) {p : Addr} (hp : p.block = g) (u : Value) : Strs (w.setCell p u) B A ps := by
  by_cases hn : 0 < ps.length
  · obtain ⟨b, off, rfl, hb, hc⟩ := h.2 hn
    refine Rd.setCell' h (fun e => ?_) u
    rw [hp] at e
    subst e
    have h0 := hc 0 (.string (bs ps[0])) (by simp [hn])
    rw [hg.cell] at h0
    rcases Nat.lt_or_ge (off + 0) 1 with h2 | h2
    · have h3 : off + 0 = 0 := by omega
      rw [h3] at h0; simp at h0
    · rw [Array.getElem?_eq_none (by simpa using h2)] at h0; cases h0
  · exact ⟨h.1, fun hh => absurd hh hn⟩
theorem Imgs.boxS {base g : Nat} {w : World} {t : TypeId} {A' : Option Addr} {m c : Nat} {row : Option Nat} (hg : Blk w g t #[.slice A' m c]) {p : Addr} (hp : p.block = g) (u : Value) : ∀ {xs : List Value} {l : List ImgP}, Imgs base w row xs l → Imgs base (w.setCell p u) row xs l
  | [], [], h => h
  | [], _ :: _, h => h
  | [_], [], h => h
  | [_], _ :: _, h => h
  | _ :: _ :: _, [], h => h
  | x :: y :: xs, i :: l, h => by
    obtain ⟨h1, ⟨A, c', h2, h3, h4, h5⟩, h6⟩ := h
    exact ⟨h1, ⟨A, c', h2, Rd.more (Strs.boxS h3 hg hp u) (by simp [World.setCell]), h4, h5⟩, Imgs.boxS hg hp u h6⟩
theorem others_of {A B : World} (h : Below A.heap.size A B) : KeepsOthers A B := KeepsOthers.of_grownBy (Below.grownNone h none) (fun r o e _ => by cases e)
/-- the top of a row of images -/
theorem downP_head (wd : Int) (k : Key) (e : ImgP) (he : e.2.length ≤ maxLen ∧ Short e.2) : ∀ ts, ∃ z tl, downP wd k e ts = z :: tl ∧ tl.length = ts.length ∧ ofS wd z.1 z.2 = digP wd k e ts ∧ z.2.length ≤ maxLen ∧ Short z.2
  | [] => ⟨e, [], rfl, rfl, rfl, he⟩
  | t :: ts => ⟨(4, forkS k t (digP wd k e ts)), downP wd k e ts, rfl, by rw [downP_len, List.length_cons], rfl, by rw [forkS_len]; simp [maxLen], forkS_short _ _ _⟩
/-- what lies there between two rounds -/
structure ImgSt (wd : Int) (K : Key) (a vv : List UInt8) (V5 : Array Value) (sv : Value) (B1 G2 : Nat) (w : World) (us : List TurnD) (W : World) : Prop where
  row : ∃ v xs, Blk W (G2 + 1) 158 #[v] ∧ W.ownsRow B1 106 2 v (us.length + 1) xs ∧ Imgs B1 W v.ownBlock xs (downP wd K (3, [a, vv]) us).reverse
  fit : us.all (fitB K a) = true
  low : Below w.heap.size w W
  x3 : Blk W w.heap.size 3 #[.int .i64 wd]
  x4 : Blk W (w.heap.size + 1) 9 #[.string (bs K)]
  x5 : Blk W (w.heap.size + 2) 70 V5
  x6 : Blk W (w.heap.size + 3) 158 #[.slice none 0 0]
  x7 : Blk W (w.heap.size + 4) 44 #[.int .i64 0]
  xs : Blk W (G2 + 2) 68 #[sv]
theorem ImgSt.kept {wd : Int} {K : Key} {a vv : List UInt8} {V5 : Array Value} {sv : Value} {B1 G2 : Nat} {w W W' : World} {us : List TurnD} {row : Option Nat} (h : ImgSt wd K a vv V5 sv B1 G2 w us W) (hg : W.grownBy W' row) (hr : ∀ r, row = some r → w.heap.size ≤ r ∧ ∃ o : Obj, W.heap[r]? = some o ∧ o.isCells = false) : ImgSt wd K a vv V5 sv B1 G2 w us W' := by
  have hr2 := fun r e => (hr r e).2
  obtain ⟨⟨v, xs, h1, h2, h3⟩, hf, hl, a3, a4, a5, a6, a7, aS⟩ := h
  exact ⟨⟨v, xs, h1.kept hg hr2, own_kept h2 hg hr2, h3.kept hg hr2⟩, hf, hl.grown hg hl.size (fun r e => (hr r e).1), a3.kept hg hr2, a4.kept hg hr2, a5.kept hg hr2, a6.kept hg hr2, a7.kept hg hr2, aS.kept hg hr2⟩
/-- where a round has said no -/
structure ImgNo (E : Int) (w W : World) : Prop where
  no : E = 2
  low : Below w.heap.size w W
  x6 : Blk W (w.heap.size + 3) 158 #[.slice none 0 0]
  x7 : Blk W (w.heap.size + 4) 44 #[.int .i64 2]
theorem ImgNo.kept {E : Int} {w W W' : World} {row : Option Nat} (h : ImgNo E w W) (hg : W.grownBy W' row) (hr : ∀ r, row = some r → w.heap.size ≤ r ∧ ∃ o : Obj, W.heap[r]? = some o ∧ o.isCells = false) : ImgNo E w W' := by
  have hr2 := fun r e => (hr r e).2
  obtain ⟨h0, hl, a6, a7⟩ := h
  exact ⟨h0, hl.grown hg hl.size (fun r e => (hr r e).1), a6.kept hg hr2, a7.kept hg hr2⟩
theorem own_neq {w : World} {base : Nat} {e : TypeId} {size n : Nat} {v : Value} {xs : List Value} (h : w.ownsRow base e size v n xs) {q : Nat} {t : TypeId} {cs : Array Value} (hq : Blk w q t cs) (ht : e ≠ t) : v.ownBlock ≠ some q := by
  rcases h.2 with ⟨rfl, _⟩ | ⟨g, cap, cur, rfl, _, hg, _⟩
  · simp [Value.ownBlock]
  · simp only [Value.ownBlock, ne_eq, Option.some.injEq]
    rintro rfl
    unfold Blk at hq
    rw [hq] at hg
    cases hg
    exact ht rfl
theorem own_cells {W : World} {base size n : Nat} {e : TypeId} {v : Value} {xs : List Value} {o : Obj} {r : Nat} {t : Obj} (h : W.ownsRow base e size v n xs) (hr : v.ownBlock = some r) (ho : (W.alloc t).heap[r]? = some o) : o.isCells = true := by
  rcases h.2 with ⟨rfl, _⟩ | ⟨g, cap, cur, rfl, _, hgb, _⟩
  · cases hr
  · obtain rfl : g = r := by simpa [Value.ownBlock] using hr
    rw [Below.heap_alloc W t g (Array.getElem?_eq_some_iff.1 hgb).1, hgb] at ho
    cases ho
    rfl
theorem own_off {w : World} {base : Nat} {e : TypeId} {size n : Nat} {v : Value} {xs : List Value} (h : w.ownsRow base e size v n xs) {p : Addr} (hp : v.ownBlock ≠ some p.block) (u : Value) : (w.setCell p u).ownsRow base e size v n xs :=
  h.kept (row := some p.block) ⟨rfl, rfl, rfl, by simp [World.setCell], fun k _ hk => Below.heap_setCell w p u k (fun e => hk (by rw [e]))⟩ (.inr hp)
theorem cell_lt {W : World} {p : Addr} {v : Value} (h : W.cell? p = some v) : p.block < W.heap.size := by
  obtain ⟨o, ho, _⟩ := cells_of_cell h
  exact (Array.getElem?_eq_some_iff.1 ho).1
set_option maxRecDepth 100000 in
set_option maxHeartbeats 8000000 in
theorem images_some (wd : Int) (K : Key) (x : ProofD) (B : Nat) (w : World) (h : K.length ≤ 32) (hx : x.held w B) (hB : B ≤ w.heap.size) (hl : proofM x ≤ 10000000) (hr : (Out.empty.proof x).re = 0) (hf : x.leaf = true) :
    Calls Try.prog 85 #[.int .i64 wd, .string (bs K), x.val] w (RowAns w (climbE K x) (climbL wd K x).reverse) := by
  have hw1 : ∀ f, Fence.wide.fn f := fun _ => trivial
  have hw2 : Fence.wide.depth.isSome = false := rfl
  have hmx : Try.prog.follows .mixedOrders = true := by kernel_rfl
  have hgood := proof_re.1 hr
  have hE : Hid (climbE K x = if x.turns.all (fitB K x.key) = false then 2 else 0) := by
    show _ = _
    unfold climbE
    rw [if_neg (by omega), hr, if_neg (by simp)]
    simp [hf]
  have hL : Hid ((climbL wd K x).reverse = (downP wd K (3, [x.key, x.value]) x.turns).reverse ++ [(5, [be (digP wd K (3, [x.key, x.value]) x.turns) 8])]) := by
    show _ = _
    unfold climbL
    rw [if_pos hf, List.reverse_cons]
    rfl
  generalize climbE K x = E at *
  generalize (climbL wd K x).reverse = LL at *
  have hi : decide ((32 : Int) < (K.length : Int)) = false := decide_eq_false (by omega)
  have hp := fun W g1 g2 => put_proof x B W g1 g2 hl
  rw [hr] at hp
  have hx' := fun W (g : Below w.heap.size w W) => hx.below (g.mono hB)
  obtain ⟨ts, ta, tc, x2, a, vv⟩ := x
  have hkl : a.length ≤ 32 := hgood.key
  have hvl : vv.length ≤ 4096 := hgood.value
  have htl : ts.length ≤ 288 := hgood.len
  have hlow : ∀ t ∈ ts, 0 ≤ t.p ∧ t.p ≤ 287 := hgood.low
  dsimp only [ProofD.val] at *
  subst hf
  clear hgood
  obtain ⟨W, hW, hWs, hWb, b3, b4, b5, b6, b7⟩ := five_blks w 3 9 70 158 44 #[.int .i64 wd] #[.string (bs K)] #[.slice ta ts.length tc, .bool true, .string (bs a), .string (bs vv)] #[.slice none 0 0] #[.int .i64 0]
  have HW := Lib.hid hW
  have hWl : w.heap.size + 5 ≤ W.heap.size := by omega
  clear hW hWs
  refine (callsIn_wide (n := 9)).1 ?_
  refine callsIn_of_wp_marks Try.func85 rfl trivial ?_ rfl
  simp only [Try.ntmps85, List.size_toArray, List.length_cons, List.length_nil, Nat.reduceAdd, Nat.reduceSub, Array.replicate_succ, Array.replicate_zero, List.push_toArray, List.append_toArray, List.nil_append, List.cons_append]
  refine wpIn_wide.2 ?_
  go_upto_region 1 with fail
  rw [HW.out]
  clear HW
  have k4 := (b4.cell 0).trans (show _ = some (Value.string (bs K)) from rfl)
  have k50 := (b5.cell 0).trans (show _ = some (Value.slice ta ts.length tc) from rfl)
  have k51 := (b5.cell 1).trans (show _ = some (Value.bool true) from rfl)
  have k52 := (b5.cell 2).trans (show _ = some (Value.string (bs a)) from rfl)
  have k53 := (b5.cell 3).trans (show _ = some (Value.string (bs vv)) from rfl)
  go_wp2_with fail
  refine (hp _ (hx' _ hWb) (by omega)).mono ?_
  rintro e w1 ⟨rfl, hb1⟩
  have hxr := fun W (g : Below w.heap.size w W) => (hx' W g).read
  have hdg := hx.digs
  dsimp only at hxr hdg
  have c3 := b3.below hb1 b3.lt
  have c4 := b4.below hb1 b4.lt
  have c5 := b5.below hb1 b5.lt
  have c6 := b6.below hb1 b6.lt
  have c7 := b7.below hb1 b7.lt
  have hb01 := hWb.trans (hb1.mono hWb.size)
  have hzA : w.heap.size + 5 ≤ w1.heap.size := by have := hb1.size; omega
  have m51 := (c5.cell 1).trans (show _ = some (Value.bool true) from rfl)
  have m52 := (c5.cell 2).trans (show _ = some (Value.string (bs a)) from rfl)
  have m53 := (c5.cell 3).trans (show _ = some (Value.string (bs vv)) from rfl)
  clear k4 k50 k51 k52 k53 b3 b4 b5 b6 b7 hb1 hp hx' hx hWb hWl
  generalize (Out.empty.proof { turns := ts, ta := ta, tc := tc, leaf := true, key := a, value := vv }).rs = RS at *
  clear hl hr
  go_wp2_with fail
  refine (entry_any a vv _).mono ?_
  rintro e w2 ⟨y, rfl, ⟨A2, c2, rfl, hs2, hf2⟩, hb2⟩
  have d3 := c3.below hb2 c3.lt
  have d4 := c4.below hb2 c4.lt
  have d5 := c5.below hb2 c5.lt
  have d6 := c6.below hb2 c6.lt
  have d7 := c7.below hb2 c7.lt
  have hb02 := hb01.trans (hb2.mono hb01.size)
  have hzG := hb2.size
  obtain ⟨hrow, himg⟩ := row_one (tag := 3) (c := c2) (ps := [a, vv]) (W := w2) (B := w1.heap.size) (B1 := w1.heap.size) (B' := w1.heap.size) hb2.size (Nat.le_refl _) hs2 hf2
  clear m51 m52 m53 c3 c4 c5 c6 c7 hb01 hb2
  have hbk := fun W => back_any ta ts.length tc W
  have m50 := fun o o' => (((d5.alloc o).alloc o').cell 0).trans (show _ = some (Value.slice ta ts.length tc) from rfl)
  go_wp2_with fail
  refine (hbk _).mono ?_
  rintro e w3 ⟨rfl, rfl⟩
  go_wp2_with fail
  have hbL : Below w.heap.size w (((w2.alloc (.cells #[.int .i64 3, .slice A2 2 c2] 106)).alloc (.cells #[.slice (some ⟨w2.heap.size, 0, none⟩) 1 1] 158)).alloc (.cells #[.slice ta ts.length tc] 68)) := ((hb02.alloc hb02.size _).alloc (by have := hb02.size; simp; omega) _).alloc (by have := hb02.size; simp; omega) _
  have hbox : Blk (((w2.alloc (.cells #[.int .i64 3, .slice A2 2 c2] 106)).alloc (.cells #[.slice (some ⟨w2.heap.size, 0, none⟩) 1 1] 158)).alloc (.cells #[.slice ta ts.length tc] 68)) (w2.heap.size + 1) 158 #[.slice (some ⟨w2.heap.size, 0, none⟩) 1 1] := by
    have := (Blk.new (w2.alloc (.cells #[.int .i64 3, .slice A2 2 c2] 106)) 158 #[.slice (some ⟨w2.heap.size, 0, none⟩) 1 1]).alloc (.cells #[.slice ta ts.length tc] 68)
    simpa using this
  have hsl : Blk (((w2.alloc (.cells #[.int .i64 3, .slice A2 2 c2] 106)).alloc (.cells #[.slice (some ⟨w2.heap.size, 0, none⟩) 1 1] 158)).alloc (.cells #[.slice ta ts.length tc] 68)) (w2.heap.size + 2) 68 #[.slice ta ts.length tc] := by
    have := Blk.new ((w2.alloc (.cells #[.int .i64 3, .slice A2 2 c2] 106)).alloc (.cells #[.slice (some ⟨w2.heap.size, 0, none⟩) 1 1] 158)) 68 #[.slice ta ts.length tc]
    simpa using this
  have hst0 : ImgSt wd K a vv #[.slice ta ts.length tc, .bool true, .string (bs a), .string (bs vv)] (.slice ta ts.length tc) w1.heap.size w2.heap.size w [] (((w2.alloc (.cells #[.int .i64 3, .slice A2 2 c2] 106)).alloc (.cells #[.slice (some ⟨w2.heap.size, 0, none⟩) 1 1] 158)).alloc (.cells #[.slice ta ts.length tc] 68)) :=
    ⟨⟨_, _, hbox, (hrow.alloc _).alloc _, (himg.below ((Below.refl _ _).alloc (Nat.le_refl _) _)).below ((Below.refl _ _).alloc (Nat.le_refl _) _)⟩, rfl, hbL, ((d3.alloc _).alloc _).alloc _, ((d4.alloc _).alloc _).alloc _, ((d5.alloc _).alloc _).alloc _, ((d6.alloc _).alloc _).alloc _, ((d7.alloc _).alloc _).alloc _, hsl⟩
  have hLs : w2.heap.size + 2 < (((w2.alloc (.cells #[.int .i64 3, .slice A2 2 c2] 106)).alloc (.cells #[.slice (some ⟨w2.heap.size, 0, none⟩) 1 1] 158)).alloc (.cells #[.slice ta ts.length tc] 68)).heap.size := by simp
  generalize (((w2.alloc (.cells #[.int .i64 3, .slice A2 2 c2] 106)).alloc (.cells #[.slice (some ⟨w2.heap.size, 0, none⟩) 1 1] 158)).alloc (.cells #[.slice ta ts.length tc] 68)) = L at *
  clear hbox hrow himg d3 d4 d5 d6 d7 m50 hbk hs2 hf2 hb02
  have hxrL := hxr L hbL
  have hBsz : B ≤ w.heap.size := hB
  generalize w1.heap.size = B1 at *
  generalize w2.heap.size = G2 at *
  refine (wpIn_wide (n := 9)).1 ?_
  refine wpIn_rangeFunc_ownH rfl (by omega) (gf := 162) (lb := #[.pointer (some ⟨G2 + 1 + 1, 0, none⟩)]) rfl trivial (enters_of Try.func162 (by kernel_rfl) rfl)
    (back_stops (9 - 1) (G2 + 2) w.heap.size B tc ts ta L (by omega) (by omega) hBsz (by omega) hsl hxrL) (fun h k => KeepS.trans h k) (fun W l o o' hl h hc _ => KeepS.putObj (by omega) h hc) (Below.refl _ _) (fun _ => rfl)
    (fun pre W => ImgSt wd K a vv #[.slice ta ts.length tc, .bool true, .string (bs a), .string (bs vv)] (.slice ta ts.length tc) B1 G2 w (trnOf pre).reverse W)
    (fun c _ W => c = .ret ∧ ImgNo E w W)
    (fun pre W W' row h hg hr => ImgSt.kept h hg (fun r e => ⟨by have := (hr r e).1; omega, (hr r e).2⟩))
    (fun c pre W W' row h hg hr => ⟨h.1, ImgNo.kept h.2 hg (fun r e => ⟨by have := (hr r e).1; omega, (hr r e).2⟩)⟩)
    hst0
    (fun x a' W => ∃ Bx, G2 + 2 < Bx ∧ Blk W Bx 141 #[.int .i64 x.1.2.p, .int .u64 x.1.2.d] ∧ a' = { tmps := #[.int .i64 wd, .string (bs K), .agg #[.slice ta ts.length tc, .bool true, .string (bs a), .string (bs vv)], .pointer (some ⟨w.heap.size, 0, none⟩), .pointer (some ⟨w.heap.size + 1, 0, none⟩), .pointer (some ⟨w.heap.size + 1 + 1, 0, none⟩), .pointer (some ⟨w.heap.size + 1 + 1 + 1, 0, none⟩), .pointer (some ⟨w.heap.size + 1 + 1 + 1 + 1, 0, none⟩), .string (bs RS), .int .i64 0, .pointer (some ⟨G2 + 1, 0, none⟩), undef, .pointer (some ⟨Bx, 0, none⟩), undef, .string (bs K), .int .i64 (K.length : Int), .bool false, .tuple #[.string (bs RS), .int .i64 0], .agg #[.slice ta ts.length tc, .bool true, .string (bs a), .string (bs vv)], .tuple #[.string (bs RS), .int .i64 0], .string (bs RS), .int .i64 0, .int .i64 0, .bool false, undef, .pointer (some ⟨w.heap.size + 1 + 1, 1, none⟩), .bool true, .bool false, undef, undef, .pointer (some ⟨w.heap.size + 1 + 1, 2, none⟩), .string (bs a), .pointer (some ⟨w.heap.size + 1 + 1, 3, none⟩), .string (bs vv), .agg #[.int .i64 3, .slice A2 2 c2], .slice (some ⟨G2, 0, none⟩) 1 1, .pointer (some ⟨w.heap.size + 1 + 1, 0, none⟩), .slice ta ts.length tc, .func (.func 162) #[] #[.pointer (some ⟨G2 + 1 + 1, 0, none⟩)], .int .i64 (x.1.1 : Int), .agg #[.int .i64 x.1.2.p, .int .u64 x.1.2.d], undef, undef, undef, undef, undef, undef, undef, undef, undef, undef, undef, undef, undef, undef, undef, undef, undef, undef, undef, undef, undef, undef, undef, undef, undef, undef, undef, undef, undef, undef, undef, undef, undef, undef, undef, undef, undef, undef, undef, undef, undef, undef, undef, undef, undef, undef, undef, undef, undef, undef, undef, undef, undef, undef, undef], defers := [] })
    (fun x a' _ X Y row h hg hr => by obtain ⟨Bx, h0, h1, h2⟩ := h; exact ⟨Bx, h0, h1.kept hg (fun r e => (hr r e).2), h2⟩)
    ?assign ?body ?done ?stop
  case assign =>
    rintro l pre x W Kc hI hK
    have hsm := Oper.semAt_some l
    unfold encB
    have hzW : G2 + 2 < W.heap.size := hI.xs.lt
    gi_wp2
    refine hK _ _ ((KeepsOthers.alloc _ _).from _) ⟨(Below.refl _ W).alloc (by have := hI.low.size; omega) _, fun h => h.alloc _⟩ ?_ ⟨W.heap.size, hzW, Blk.new _ _ _, rfl⟩
    exact hI.kept (World.grownBy_alloc W _ none) (fun r e => by cases e)
  case body =>
    rintro l pre x a' W hl ⟨r, hr⟩ hI ⟨Bx, hbX, hX, rfl⟩ hlt
    have hsm := Oper.semAt_some l
    obtain ⟨⟨k, t⟩, hxt⟩ := x
    dsimp only at hX hxt
    have hmem : t ∈ ts := List.mem_of_getElem? hxt
    have hpl := hlow t hmem
    have hdk := hdg t hmem
    have hall : Hid (fitB K a t = false → ts.all (fitB K a) = false) := fun hh => by
      rw [List.all_eq_false]
      exact ⟨_, hmem, by rw [hh]; simp⟩
    have HR : Hid ((trnOf (pre ++ [(⟨(k, t), hxt⟩ : BkT ts)])).reverse = t :: (trnOf pre).reverse) := by show _ = _; simp [trnOf]
    have hul : (trnOf pre).reverse.length < 288 := by
      have : (trnOf pre).reverse.length = pre.length := by simp [trnOf]
      omega
    generalize (trnOf pre).reverse = us at *
    obtain ⟨⟨v, xs, hv, hrow, himg⟩, hfit, hbel, a3, a4, a5, a6, a7, aS⟩ := hI
    obtain ⟨vA, vc, rfl⟩ := own_shape hrow
    obtain ⟨z, tl, hz, htl2, hzd, hzl, hzsh⟩ := downP_head wd K (3, [a, vv]) ⟨by simp [maxLen], short2 (by unfold maxLen; omega) (by unfold maxLen; omega)⟩ us
    have himg2 := himg
    rw [hz, List.reverse_cons] at himg2
    obtain ⟨b, off, A', c', rfl, hnn, k0, k1, hs⟩ := row_last hrow himg2
    clear hnn
    rw [List.length_reverse, htl2] at k0 k1
    have hdb := digP_bd wd K (3, [a, vv]) us
    have hof := fun W' (g : Below W.heap.size W W') => ofImage_any wd z.1 z.2 A' c' W.heap.size W' (Rd.below hs g) g.size hzl hzsh
    rw [hzd] at hof
    have hC : downP wd K (3, [a, vv]) (t :: us) = (4, forkS K t (digP wd K (3, [a, vv]) us)) :: downP wd K (3, [a, vv]) us := rfl
    clear himg2 hzd hz htl2 hdg hlow hxr hxrL hst0 hbL hsl hL
    generalize digP wd K (3, [a, vv]) us = dd at *
    obtain ⟨i0, hi0, hz0, hz1, hz2⟩ := info_parts imgInfo
    obtain ⟨p, dk⟩ := t
    unfold TurnD.ok at hdk
    dsimp only at hpl hdk hX
    obtain ⟨P, rfl⟩ := Int.eq_ofNat_of_zero_le hpl.1
    have hbit : fitB K a ⟨(P : Int), dk⟩ = (bitB K P == bitB a P) := rfl
    have hfork : forkS K ⟨(P : Int), dk⟩ dd = if bitB K P then [be (P : Int) 5, be dk 8, be dd 8] else [be (P : Int) 5, be dd 8, be dk 8] := rfl
    rw [hfork] at hC
    have hc1 := fun W => bit_any K P W (by omega) (by omega)
    have hc2 := fun W => bit_any a P W (by omega) (by omega)
    unfold bitN at hc1 hc2
    clear hfork
    generalize bitB K P = b1 at *
    generalize bitB a P = b2 at *
    have hWs : G2 + 2 < W.heap.size := aS.lt
    have hw1 : IntKind.i64.wrap (((us.length + 1 : Nat) : Int) - 1) = (us.length : Int) := by rw [IntWalk.i64_in _ (by omega)]; omega
    have hw5 : IntKind.i64.wrap (us.length : Int) = (us.length : Int) := IntWalk.i64_in _ (by omega)
    have hw3 : (us.length : Int) < (us.length : Int) + 1 := by omega
    have hw4 : (0 : Int) ≤ (us.length : Int) := by omega
    have x3 := (a3.cell 0).trans (show _ = some (Value.int .i64 wd) from rfl)
    have xv := (hv.cell 0).trans (show _ = some (Value.slice (some ⟨b, off, none⟩) (us.length + 1) vc) from rfl)
    gi_wp2
    refine wpIn_region_held (S := fun W' => (W'.cell? ⟨w.heap.size, 0, none⟩ = some (Value.int .i64 wd) ∧ W'.cell? ⟨G2 + 1, 0, none⟩ = some (Value.slice (some ⟨b, off, none⟩) (us.length + 1) vc)) ∧ W'.cell? ⟨b, off + us.length * 2, none⟩ = some (Value.int .i64 z.1) ∧ W'.cell? ⟨b, off + us.length * 2 + 1, none⟩ = some (Value.slice A' z.2.length c')) hmx (by kernel_rfl) (fun ⟨_, _, h⟩ => h) ⟨⟨x3, xv⟩, k0, k1⟩ (fun hHeld => ?_)
    refine wpAnyH_take (i := 0) (v := ?_) rfl (by kernel_rfl) (by kernel_rfl) (by kernel_rfl) (fun _ _ _ h => h) (Or.inl ⟨by rfl, ?_⟩) (by assumption) ?_
    rotate_left
    · intro w' hSw
      (try dsimp only at hSw)
      go_simp
      try with_reducible rfl
    try simp only [Act.put, List.setIfInBounds_toArray, List.set_cons_zero, List.set_cons_succ]
    refine wpAnyH_take (i := 1) (v := ?_) rfl (by kernel_rfl) (by kernel_rfl) (by kernel_rfl) (fun _ _ _ h => h) (Or.inl ⟨by rfl, ?_⟩) (by assumption) ?_
    rotate_left
    · intro w' hSw
      (try dsimp only at hSw)
      go_simp
      try with_reducible rfl
    try simp only [Act.put, List.setIfInBounds_toArray, List.set_cons_zero, List.set_cons_succ]
    refine wpAnyH_take (i := 2) (v := ?_) rfl (by kernel_rfl) (by kernel_rfl) (by kernel_rfl) (fun _ _ _ h => h) (Or.inl ⟨by rfl, ?_⟩) (by assumption) ?_
    rotate_left
    · intro w' hSw
      (try dsimp only at hSw)
      go_simp
      try with_reducible rfl
    try simp only [Act.put, List.setIfInBounds_toArray, List.set_cons_zero, List.set_cons_succ]
    refine wpAnyH_take (i := 3) (v := ?_) rfl (by kernel_rfl) (by kernel_rfl) (by kernel_rfl) (fun _ _ _ h => h) (Or.inl ⟨by rfl, ?_⟩) (by assumption) ?_
    rotate_left
    · intro w' hSw
      (try dsimp only at hSw)
      go_simp
      try with_reducible rfl
    try simp only [Act.put, List.setIfInBounds_toArray, List.set_cons_zero, List.set_cons_succ]
    refine wpAnyH_take (i := 4) (v := ?_) rfl (by kernel_rfl) (by kernel_rfl) (by kernel_rfl) (fun _ _ _ h => h) (Or.inl ⟨by rfl, ?_⟩) (by assumption) ?_
    rotate_left
    · intro w' hSw
      (try dsimp only at hSw)
      go_simp
      try with_reducible rfl
    try simp only [Act.put, List.setIfInBounds_toArray, List.set_cons_zero, List.set_cons_succ]
    refine wpAnyH_take (i := 5) (v := ?_) rfl (by kernel_rfl) (by kernel_rfl) (by kernel_rfl) (fun _ _ _ h => h) (Or.inl ⟨by rfl, ?_⟩) (by assumption) ?_
    rotate_left
    · intro w' hSw
      (try dsimp only at hSw)
      go_simp
      try with_reducible rfl
    try simp only [Act.put, List.setIfInBounds_toArray, List.set_cons_zero, List.set_cons_succ]
    refine wpAnyH_take (i := 6) (v := ?_) rfl (by kernel_rfl) (by kernel_rfl) (by kernel_rfl) (fun _ _ _ h => h) (Or.inl ⟨by rfl, ?_⟩) (by assumption) ?_
    rotate_left
    · intro w' hSw
      (try dsimp only at hSw)
      go_simp
      try with_reducible rfl
    try simp only [Act.put, List.setIfInBounds_toArray, List.set_cons_zero, List.set_cons_succ]
    refine wpAnyH_ready (rs := [7]) (by kernel_rfl) (by simp) ?_
    refine AllReadyH.cons rfl (fun K' hK => ?_) AllReadyH.nil
    go_simp
    refine (hof W.drew ((Below.refl _ _).drew)).mono ?_
    rintro e w3 ⟨rfl, hb3⟩
    dsimp only
    have hbW3 : Below W.heap.size W w3 := ((Below.refl _ _).drew).trans hb3
    have hbB := cell_lt k0
    have hv3 := hv.below hbW3 hv.lt
    have a33 := a3.below hbW3 a3.lt
    have a43 := a4.below hbW3 a4.lt
    have a53 := a5.below hbW3 a5.lt
    have a63 := a6.below hbW3 a6.lt
    have a73 := a7.below hbW3 a7.lt
    have hX3 := hX.below hbW3 hX.lt
    have qv3 := (hv3.cell 0).trans (show _ = some (Value.slice (some ⟨b, off, none⟩) (us.length + 1) vc) from rfl)
    have qv3d := (hv3.drew.drew.cell 0).trans (show _ = some (Value.slice (some ⟨b, off, none⟩) (us.length + 1) vc) from rfl)
    refine hK.out _ _ ⟨⟨(a33.cell 0).trans rfl, (hv3.cell 0).trans rfl⟩, (hbW3.cell (p := ⟨b, off + us.length * 2, none⟩) hbB).trans k0, (hbW3.cell (p := ⟨b, off + us.length * 2 + 1, none⟩) hbB).trans k1⟩ (fun _ => ?_)
    clear hK K'
    try simp only [Act.put, List.setIfInBounds_toArray, List.set_cons_zero, List.set_cons_succ]
    refine wpAnyH_take (i := 8) (v := ?_) rfl (by kernel_rfl) (by kernel_rfl) (by kernel_rfl) (fun _ _ _ h => h) (Or.inl ⟨by rfl, ?_⟩) (by assumption) ?_
    rotate_left
    · intro w' hSw
      (try dsimp only at hSw)
      go_simp
      try with_reducible rfl
    try simp only [Act.put, List.setIfInBounds_toArray, List.set_cons_zero, List.set_cons_succ]
    refine wpAnyH_done (by kernel_rfl) ?_ _
    have hz3 := hbW3.size
    clear hof hb3
    cases b1 <;> cases b2
    · as_aux_lemma =>
      simp only [Bool.false_eq_true, if_false] at hc1 hc2 hC
      have HC := Lib.hid hC
      have HB : Hid (fitB K a ⟨(P : Int), dk⟩ = true) := by show _ = _; rw [hbit]; rfl
      clear hC hall hbit hE
      gi_wp2
      refine wpIn_region_held (S := fun W' => W'.cell? ⟨w.heap.size + 1, 0, none⟩ = some (Value.string (bs K)) ∧ W'.cell? ⟨Bx, 0, none⟩ = some (Value.int .i64 (P : Int)) ∧ W'.cell? ⟨w.heap.size + 2, 2, none⟩ = some (Value.string (bs a))) hmx (by kernel_rfl) (fun ⟨_, _, h⟩ => h) ⟨(a43.cell 0).trans rfl, (hX3.cell 0).trans rfl, (a53.cell 2).trans rfl⟩ (fun hHeld => ?_)
      refine wpAnyH_take (i := 0) (v := ?_) rfl (by kernel_rfl) (by kernel_rfl) (by kernel_rfl) (fun _ _ _ h => h) (Or.inl ⟨by rfl, ?_⟩) (by assumption) ?_
      rotate_left
      · intro w' hSw
        (try dsimp only at hSw)
        go_simp
        try with_reducible rfl
      try simp only [Act.put, List.setIfInBounds_toArray, List.set_cons_zero, List.set_cons_succ]
      refine wpAnyH_take (i := 1) (v := ?_) rfl (by kernel_rfl) (by kernel_rfl) (by kernel_rfl) (fun _ _ _ h => h) (Or.inl ⟨by rfl, ?_⟩) (by assumption) ?_
      rotate_left
      · intro w' hSw
        (try dsimp only at hSw)
        go_simp
        try with_reducible rfl
      try simp only [Act.put, List.setIfInBounds_toArray, List.set_cons_zero, List.set_cons_succ]
      refine wpAnyH_take (i := 2) (v := ?_) rfl (by kernel_rfl) (by kernel_rfl) (by kernel_rfl) (fun _ _ _ h => h) (Or.inl ⟨by rfl, ?_⟩) (by assumption) ?_
      rotate_left
      · intro w' hSw
        (try dsimp only at hSw)
        go_simp
        try with_reducible rfl
      try simp only [Act.put, List.setIfInBounds_toArray, List.set_cons_zero, List.set_cons_succ]
      refine wpAnyH_take (i := 4) (v := ?_) rfl (by kernel_rfl) (by kernel_rfl) (by kernel_rfl) (fun _ _ _ h => h) (Or.inl ⟨by rfl, ?_⟩) (by assumption) ?_
      rotate_left
      · intro w' hSw
        (try dsimp only at hSw)
        go_simp
        try with_reducible rfl
      try simp only [Act.put, List.setIfInBounds_toArray, List.set_cons_zero, List.set_cons_succ]
      refine wpAnyH_take (i := 5) (v := ?_) rfl (by kernel_rfl) (by kernel_rfl) (by kernel_rfl) (fun _ _ _ h => h) (Or.inl ⟨by rfl, ?_⟩) (by assumption) ?_
      rotate_left
      · intro w' hSw
        (try dsimp only at hSw)
        go_simp
        try with_reducible rfl
      try simp only [Act.put, List.setIfInBounds_toArray, List.set_cons_zero, List.set_cons_succ]
      refine wpAnyH_take (i := 6) (v := ?_) rfl (by kernel_rfl) (by kernel_rfl) (by kernel_rfl) (fun _ _ _ h => h) (Or.inl ⟨by rfl, ?_⟩) (by assumption) ?_
      rotate_left
      · intro w' hSw
        (try dsimp only at hSw)
        go_simp
        try with_reducible rfl
      try simp only [Act.put, List.setIfInBounds_toArray, List.set_cons_zero, List.set_cons_succ]
      refine wpAnyH_take (i := 7) (v := ?_) rfl (by kernel_rfl) (by kernel_rfl) (by kernel_rfl) (fun _ _ _ h => h) (Or.inl ⟨by rfl, ?_⟩) (by assumption) ?_
      rotate_left
      · intro w' hSw
        (try dsimp only at hSw)
        go_simp
        try with_reducible rfl
      try simp only [Act.put, List.setIfInBounds_toArray, List.set_cons_zero, List.set_cons_succ]
      refine wpAnyH_ready (rs := [3]) (by kernel_rfl) (by simp) ?_
      refine AllReadyH.cons rfl (fun K' hK => ?_) AllReadyH.nil
      go_simp
      with_reducible refine (hc1 _).mono ?_
      rintro e w4 ⟨rfl, rfl⟩
      dsimp only
      refine hK.out _ _ ⟨(a43.cell 0).trans rfl, (hX3.cell 0).trans rfl, (a53.cell 2).trans rfl⟩ (fun _ => ?_)
      clear hK K'
      try simp only [Act.put, List.setIfInBounds_toArray, List.set_cons_zero, List.set_cons_succ]
      refine wpAnyH_ready (rs := [8]) (by kernel_rfl) (by simp) ?_
      refine AllReadyH.cons rfl (fun K' hK => ?_) AllReadyH.nil
      go_simp
      refine (hc2 _).mono ?_
      rintro e w4 ⟨rfl, rfl⟩
      dsimp only
      refine hK.out _ _ ⟨(a43.cell 0).trans rfl, (hX3.cell 0).trans rfl, (a53.cell 2).trans rfl⟩ (fun _ => ?_)
      clear hK K'
      try simp only [Act.put, List.setIfInBounds_toArray, List.set_cons_zero, List.set_cons_succ]
      refine wpAnyH_take (i := 9) (v := ?_) rfl (by kernel_rfl) (by kernel_rfl) (by kernel_rfl) (fun _ _ _ h => h) (Or.inl ⟨by rfl, ?_⟩) (by assumption) ?_
      rotate_left
      · intro w' hSw
        (try dsimp only at hSw)
        go_simp
        try with_reducible rfl
      try simp only [Act.put, List.setIfInBounds_toArray, List.set_cons_zero, List.set_cons_succ]
      refine wpAnyH_take (i := 10) (v := ?_) rfl (by kernel_rfl) (by kernel_rfl) (by kernel_rfl) (fun _ _ _ h => h) (Or.inl ⟨by rfl, ?_⟩) (by assumption) ?_
      rotate_left
      · intro w' hSw
        (try dsimp only at hSw)
        go_simp
        try with_reducible rfl
      try simp only [Act.put, List.setIfInBounds_toArray, List.set_cons_zero, List.set_cons_succ]
      refine wpAnyH_done (by kernel_rfl) ?_ _
      as_aux_lemma =>
        have k4 := (a43.drew.cell 0).trans (show _ = some (Value.string (bs K)) from rfl)
        have kx := (hX3.drew.cell 0).trans (show _ = some (Value.int .i64 (P : Int)) from rfl)
        have h1' : 1 ≤ 9 - 1 - 1 := by omega
        gi_wp2_with (gi_at_call 66; refine (CallsIn.inRound l (callsIn_wide.2 (hc1 _))).mono ?_; rintro e w4 ⟨rfl, rfl⟩)
        refine wpIn_region_held (S := fun W' => W'.cell? ⟨Bx, 0, none⟩ = some (Value.int .i64 (P : Int)) ∧ W'.cell? ⟨Bx, 1, none⟩ = some (Value.int .u64 dk)) hmx (by kernel_rfl) (fun ⟨_, _, h⟩ => h) ⟨(hX3.cell 0).trans rfl, (hX3.cell 1).trans rfl⟩ (fun hHeld => ?_)
        refine wpAnyH_take (i := 1) (v := ?_) rfl (by kernel_rfl) (by kernel_rfl) (by kernel_rfl) (fun _ _ _ h => h) (Or.inl ⟨by rfl, ?_⟩) (by assumption) ?_
        rotate_left
        · intro w' hSw
          (try dsimp only at hSw)
          go_simp
          try with_reducible rfl
        try simp only [Act.put, List.setIfInBounds_toArray, List.set_cons_zero, List.set_cons_succ]
        refine wpAnyH_take (i := 2) (v := ?_) rfl (by kernel_rfl) (by kernel_rfl) (by kernel_rfl) (fun _ _ _ h => h) (Or.inl ⟨by rfl, ?_⟩) (by assumption) ?_
        rotate_left
        · intro w' hSw
          (try dsimp only at hSw)
          go_simp
          try with_reducible rfl
        try simp only [Act.put, List.setIfInBounds_toArray, List.set_cons_zero, List.set_cons_succ]
        refine wpAnyH_take (i := 3) (v := ?_) rfl (by kernel_rfl) (by kernel_rfl) (by kernel_rfl) (fun _ _ _ h => h) (Or.inl ⟨by rfl, ?_⟩) (by assumption) ?_
        rotate_left
        · intro w' hSw
          (try dsimp only at hSw)
          go_simp
          try with_reducible rfl
        try simp only [Act.put, List.setIfInBounds_toArray, List.set_cons_zero, List.set_cons_succ]
        refine wpAnyH_take (i := 4) (v := ?_) rfl (by kernel_rfl) (by kernel_rfl) (by kernel_rfl) (fun _ _ _ h => h) (Or.inl ⟨by rfl, ?_⟩) (by assumption) ?_
        rotate_left
        · intro w' hSw
          (try dsimp only at hSw)
          go_simp
          try with_reducible rfl
        try simp only [Act.put, List.setIfInBounds_toArray, List.set_cons_zero, List.set_cons_succ]
        refine wpAnyH_take (i := 5) (v := ?_) rfl (by kernel_rfl) (by kernel_rfl) (by kernel_rfl) (fun _ _ _ h => h) (Or.inl ⟨by rfl, ?_⟩) (by assumption) ?_
        rotate_left
        · intro w' hSw
          (try dsimp only at hSw)
          go_simp
          try with_reducible rfl
        try simp only [Act.put, List.setIfInBounds_toArray, List.set_cons_zero, List.set_cons_succ]
        refine wpAnyH_ready (rs := [0, 6]) (by kernel_rfl) (by simp) ?_
        refine AllReadyH.cons rfl (fun K' hK => ?_) (AllReadyH.cons rfl (fun K' hK => ?_) AllReadyH.nil)
        · go_simp
          refine hK.out _ _ ⟨(hX3.cell 0).trans rfl, (hX3.cell 1).trans rfl⟩ (fun _ => ?_)
          clear hK K'
          try simp only [Act.put, List.setIfInBounds_toArray, List.set_cons_zero, List.set_cons_succ]
          refine wpAnyH_ready (rs := [6]) (by kernel_rfl) (by simp) ?_
          refine AllReadyH.cons rfl (fun K' hK => ?_) AllReadyH.nil
          go_simp
          refine (fork_any (P : Int) dd dk _ hdb.1 hdb.2 hdk.1 hdk.2).mono ?_
          rintro e w5 ⟨y, rfl, ⟨A5, c5, rfl, hs5, hf5⟩, hb5⟩
          dsimp only
          have hbW5 : Below W.heap.size W w5 := (hbW3.drew.drew).trans (hb5.mono hbW3.size)
          have hv5 := hv.below hbW5 hv.lt
          have hX5 := hX.below hbW5 hX.lt
          have qv5 := (hv5.cell 0).trans (show _ = some (Value.slice (some ⟨b, off, none⟩) (us.length + 1) vc) from rfl)
          have qv5a := fun o => hv5.cell_a 0 (Value.slice (some ⟨b, off, none⟩) (us.length + 1) vc) rfl o
          refine hK.out _ _ ⟨(hX5.cell 0).trans rfl, (hX5.cell 1).trans rfl⟩ (fun _ => ?_)
          clear hK K'
          try simp only [Act.put, List.setIfInBounds_toArray, List.set_cons_zero, List.set_cons_succ]
          refine wpAnyH_ready (rs := [7]) (by kernel_rfl) (by simp) ?_
          refine AllReadyH.cons rfl (fun K' hK => ?_) AllReadyH.nil
          go_simp
          refine hK.out _ _ ⟨((hX5.alloc _).cell 0).trans rfl, ((hX5.alloc _).cell 1).trans rfl⟩ (fun _ => ?_)
          clear hK K'
          try simp only [Act.put, List.setIfInBounds_toArray, List.set_cons_zero, List.set_cons_succ]
          have hzW5 := hbW5.size
          have hrow5 := own_below hrow hbW5
          have himg5 := himg.below hbW5
          have hrm := row_more (tag := 4) (c := c5) (ps := [be (P : Int) 5, be dd 8, be dk 8]) (B' := w3.heap.size) himg5 (by omega) hs5 hf5 (fun g hg => by have := (hrow.lt g hg).2; omega)
          simp only [List.length_cons, List.length_nil, Nat.zero_add, Nat.reduceAdd] at hrm
          have hlaid : Rd (w5.alloc (.cells #[.int .i64 4, .slice A5 3 c5] 106)) (w5.heap.size + 1) 2 (some ⟨w5.heap.size, 0, none⟩) 1 [.int .i64 4, .slice A5 3 c5] := by
            have := Rd.laid w5 #[.int .i64 4, .slice A5 3 c5] 106 2 1 rfl
            simpa using this
          have l1 : us.length + 1 + 1 ≤ maxLen := by simp [maxLen]; omega
          have l3 : B1 ≤ (w5.alloc (.cells #[.int .i64 4, .slice A5 3 c5] 106)).heap.size := by simp; omega
          refine wpAnyH_ready (rs := [8]) (by kernel_rfl) (by simp) ?_
          refine AllReadyH.cons rfl (fun K' hK => ?_) AllReadyH.nil
          refine step_append_any _ (by rfl) (.tmp 49) (.tmp 56) 158 (by rfl) B1 106 i0 _ 2 32 Try.underlying158 hi0 hz0 hz1 hz2 rfl (by omega) (.slice (some ⟨b, off, none⟩) (us.length + 1) vc) (us.length + 1) _ (by rfl) (hrow5.alloc _) (w5.heap.size + 1) _ 1 1 [.int .i64 4, .slice A5 3 c5] (by rfl) hlaid (fun u hu => by simp at hu; rcases hu with rfl | rfl <;> rfl) l1 (by omega) l3 ?_
          intro v' w9 hown' hgrow hat
          obtain ⟨g', cap', rfl⟩ := ownsRow_succ hown'
          have himg9 := hrm.step hgrow hat
          have hgn : ∀ g, some g = (Value.slice (some ⟨b, off, none⟩) (us.length + 1) vc).ownBlock → B1 ≤ g := fun g e => own_ge hrow g e.symm
          have hv9 := (hv5.alloc (.cells #[.int .i64 4, .slice A5 3 c5] 106)).grown hgrow (fun e => own_neq hrow hv (by decide) e.symm)
          have hX9 := (hX5.alloc (.cells #[.int .i64 4, .slice A5 3 c5] 106)).grown hgrow (fun e => own_neq hrow hX (by decide) e.symm)
          have aS9 := ((aS.below hbW5 aS.lt).alloc (.cells #[.int .i64 4, .slice A5 3 c5] 106)).grown hgrow (fun e => own_neq hrow aS (by decide) e.symm)
          have a39 := ((a3.below hbW5 a3.lt).alloc (.cells #[.int .i64 4, .slice A5 3 c5] 106)).grown hgrow (fun e => by have := hgn _ e; omega)
          have a49 := ((a4.below hbW5 a4.lt).alloc (.cells #[.int .i64 4, .slice A5 3 c5] 106)).grown hgrow (fun e => by have := hgn _ e; omega)
          have a59 := ((a5.below hbW5 a5.lt).alloc (.cells #[.int .i64 4, .slice A5 3 c5] 106)).grown hgrow (fun e => by have := hgn _ e; omega)
          have a69 := ((a6.below hbW5 a6.lt).alloc (.cells #[.int .i64 4, .slice A5 3 c5] 106)).grown hgrow (fun e => by have := hgn _ e; omega)
          have a79 := ((a7.below hbW5 a7.lt).alloc (.cells #[.int .i64 4, .slice A5 3 c5] 106)).grown hgrow (fun e => by have := hgn _ e; omega)
          have hbW9 : Below w.heap.size W w9 := ((hbW5.mono hbel.size).alloc (by have := hbel.size; omega) (.cells #[.int .i64 4, .slice A5 3 c5] 106)).grown hgrow (by have := hbel.size; simp; omega) (fun k hk => by have := own_ge hrow k hk; omega)
          have hko9 : KeepsOthers W w9 := ((others_of hbW5).trans (KeepsOthers.alloc _ _)).trans (KeepsOthers.of_grownBy hgrow (fun r o e ho => own_cells hrow5 e ho))
          have qv9 := (hv9.cell 0).trans (show _ = some (Value.slice (some ⟨b, off, none⟩) (us.length + 1) vc) from rfl)
          have fv9 := hv9.frozen 0
          refine hK.out _ _ ⟨(hX9.cell 0).trans rfl, (hX9.cell 1).trans rfl⟩ (fun _ => ?_)
          clear hK K'
          try simp only [Act.put, List.setIfInBounds_toArray, List.set_cons_zero, List.set_cons_succ]
          refine wpAnyH_ready (rs := [9]) (by kernel_rfl) (by simp) ?_
          refine AllReadyH.cons rfl (fun K' hK => ?_) AllReadyH.nil
          go_simp
          refine hK.out _ _ ⟨((hX9.far (by dsimp only; omega) _).cell 0).trans rfl, ((hX9.far (by dsimp only; omega) _).cell 1).trans rfl⟩ (fun _ => ?_)
          clear hK K'
          try simp only [Act.put, List.setIfInBounds_toArray, List.set_cons_zero, List.set_cons_succ]
          refine wpAnyH_done (by kernel_rfl) ?_ _
          refine ⟨(hko9.trans (KeepsOthers.setCell w9 ⟨G2 + 1, 0, none⟩ (.slice (some ⟨g', 0, none⟩) (us.length + 1 + 1) cap'))).from _, ⟨hbW9.setCell (p := ⟨G2 + 1, 0, none⟩) (by dsimp only; omega) _, fun _ => aS9.far (by dsimp only; omega) _⟩, ?_⟩
          show ImgSt _ _ _ _ _ _ _ _ _ _ _
          rw [HR.out]
          refine ⟨⟨_, _, hv9.set_ 0 _, own_off hown' (own_neq hown' hv9 (by decide)) _, ?_⟩, by rw [List.all_cons, hfit, HB.out]; rfl, hbel.trans (hbW9.setCell (p := ⟨G2 + 1, 0, none⟩) (by dsimp only; omega) _), a39.far (by dsimp only; omega) _, a49.far (by dsimp only; omega) _, a59.far (by dsimp only; omega) _, a69.far (by dsimp only; omega) _, a79.far (by dsimp only; omega) _, aS9.far (by dsimp only; omega) _⟩
          rw [HC.out, List.reverse_cons]
          exact Imgs.boxS hv9 rfl _ himg9
        · go_simp
          refine (fork_any (P : Int) dd dk _ hdb.1 hdb.2 hdk.1 hdk.2).mono ?_
          rintro e w5 ⟨y, rfl, ⟨A5, c5, rfl, hs5, hf5⟩, hb5⟩
          dsimp only
          have hbW5 : Below W.heap.size W w5 := (hbW3.drew.drew).trans (hb5.mono hbW3.size)
          have hv5 := hv.below hbW5 hv.lt
          have hX5 := hX.below hbW5 hX.lt
          have qv5 := (hv5.cell 0).trans (show _ = some (Value.slice (some ⟨b, off, none⟩) (us.length + 1) vc) from rfl)
          have qv5a := fun o => hv5.cell_a 0 (Value.slice (some ⟨b, off, none⟩) (us.length + 1) vc) rfl o
          refine hK.out _ _ ⟨(hX5.cell 0).trans rfl, (hX5.cell 1).trans rfl⟩ (fun _ => ?_)
          clear hK K'
          try simp only [Act.put, List.setIfInBounds_toArray, List.set_cons_zero, List.set_cons_succ]
          refine wpAnyH_ready (rs := [0, 7]) (by kernel_rfl) (by simp) ?_
          refine AllReadyH.cons rfl (fun K' hK => ?_) (AllReadyH.cons rfl (fun K' hK => ?_) AllReadyH.nil)
          · go_simp
            refine hK.out _ _ ⟨(hX5.cell 0).trans rfl, (hX5.cell 1).trans rfl⟩ (fun _ => ?_)
            clear hK K'
            try simp only [Act.put, List.setIfInBounds_toArray, List.set_cons_zero, List.set_cons_succ]
            refine wpAnyH_ready (rs := [7]) (by kernel_rfl) (by simp) ?_
            refine AllReadyH.cons rfl (fun K' hK => ?_) AllReadyH.nil
            go_simp
            refine hK.out _ _ ⟨((hX5.alloc _).cell 0).trans rfl, ((hX5.alloc _).cell 1).trans rfl⟩ (fun _ => ?_)
            clear hK K'
            try simp only [Act.put, List.setIfInBounds_toArray, List.set_cons_zero, List.set_cons_succ]
            have hzW5 := hbW5.size
            have hrow5 := own_below hrow hbW5
            have himg5 := himg.below hbW5
            have hrm := row_more (tag := 4) (c := c5) (ps := [be (P : Int) 5, be dd 8, be dk 8]) (B' := w3.heap.size) himg5 (by omega) hs5 hf5 (fun g hg => by have := (hrow.lt g hg).2; omega)
            simp only [List.length_cons, List.length_nil, Nat.zero_add, Nat.reduceAdd] at hrm
            have hlaid : Rd (w5.alloc (.cells #[.int .i64 4, .slice A5 3 c5] 106)) (w5.heap.size + 1) 2 (some ⟨w5.heap.size, 0, none⟩) 1 [.int .i64 4, .slice A5 3 c5] := by
              have := Rd.laid w5 #[.int .i64 4, .slice A5 3 c5] 106 2 1 rfl
              simpa using this
            have l1 : us.length + 1 + 1 ≤ maxLen := by simp [maxLen]; omega
            have l3 : B1 ≤ (w5.alloc (.cells #[.int .i64 4, .slice A5 3 c5] 106)).heap.size := by simp; omega
            refine wpAnyH_ready (rs := [8]) (by kernel_rfl) (by simp) ?_
            refine AllReadyH.cons rfl (fun K' hK => ?_) AllReadyH.nil
            refine step_append_any _ (by rfl) (.tmp 49) (.tmp 56) 158 (by rfl) B1 106 i0 _ 2 32 Try.underlying158 hi0 hz0 hz1 hz2 rfl (by omega) (.slice (some ⟨b, off, none⟩) (us.length + 1) vc) (us.length + 1) _ (by rfl) (hrow5.alloc _) (w5.heap.size + 1) _ 1 1 [.int .i64 4, .slice A5 3 c5] (by rfl) hlaid (fun u hu => by simp at hu; rcases hu with rfl | rfl <;> rfl) l1 (by omega) l3 ?_
            intro v' w9 hown' hgrow hat
            obtain ⟨g', cap', rfl⟩ := ownsRow_succ hown'
            have himg9 := hrm.step hgrow hat
            have hgn : ∀ g, some g = (Value.slice (some ⟨b, off, none⟩) (us.length + 1) vc).ownBlock → B1 ≤ g := fun g e => own_ge hrow g e.symm
            have hv9 := (hv5.alloc (.cells #[.int .i64 4, .slice A5 3 c5] 106)).grown hgrow (fun e => own_neq hrow hv (by decide) e.symm)
            have hX9 := (hX5.alloc (.cells #[.int .i64 4, .slice A5 3 c5] 106)).grown hgrow (fun e => own_neq hrow hX (by decide) e.symm)
            have aS9 := ((aS.below hbW5 aS.lt).alloc (.cells #[.int .i64 4, .slice A5 3 c5] 106)).grown hgrow (fun e => own_neq hrow aS (by decide) e.symm)
            have a39 := ((a3.below hbW5 a3.lt).alloc (.cells #[.int .i64 4, .slice A5 3 c5] 106)).grown hgrow (fun e => by have := hgn _ e; omega)
            have a49 := ((a4.below hbW5 a4.lt).alloc (.cells #[.int .i64 4, .slice A5 3 c5] 106)).grown hgrow (fun e => by have := hgn _ e; omega)
            have a59 := ((a5.below hbW5 a5.lt).alloc (.cells #[.int .i64 4, .slice A5 3 c5] 106)).grown hgrow (fun e => by have := hgn _ e; omega)
            have a69 := ((a6.below hbW5 a6.lt).alloc (.cells #[.int .i64 4, .slice A5 3 c5] 106)).grown hgrow (fun e => by have := hgn _ e; omega)
            have a79 := ((a7.below hbW5 a7.lt).alloc (.cells #[.int .i64 4, .slice A5 3 c5] 106)).grown hgrow (fun e => by have := hgn _ e; omega)
            have hbW9 : Below w.heap.size W w9 := ((hbW5.mono hbel.size).alloc (by have := hbel.size; omega) (.cells #[.int .i64 4, .slice A5 3 c5] 106)).grown hgrow (by have := hbel.size; simp; omega) (fun k hk => by have := own_ge hrow k hk; omega)
            have hko9 : KeepsOthers W w9 := ((others_of hbW5).trans (KeepsOthers.alloc _ _)).trans (KeepsOthers.of_grownBy hgrow (fun r o e ho => own_cells hrow5 e ho))
            have qv9 := (hv9.cell 0).trans (show _ = some (Value.slice (some ⟨b, off, none⟩) (us.length + 1) vc) from rfl)
            have fv9 := hv9.frozen 0
            refine hK.out _ _ ⟨(hX9.cell 0).trans rfl, (hX9.cell 1).trans rfl⟩ (fun _ => ?_)
            clear hK K'
            try simp only [Act.put, List.setIfInBounds_toArray, List.set_cons_zero, List.set_cons_succ]
            refine wpAnyH_ready (rs := [9]) (by kernel_rfl) (by simp) ?_
            refine AllReadyH.cons rfl (fun K' hK => ?_) AllReadyH.nil
            go_simp
            refine hK.out _ _ ⟨((hX9.far (by dsimp only; omega) _).cell 0).trans rfl, ((hX9.far (by dsimp only; omega) _).cell 1).trans rfl⟩ (fun _ => ?_)
            clear hK K'
            try simp only [Act.put, List.setIfInBounds_toArray, List.set_cons_zero, List.set_cons_succ]
            refine wpAnyH_done (by kernel_rfl) ?_ _
            refine ⟨(hko9.trans (KeepsOthers.setCell w9 ⟨G2 + 1, 0, none⟩ (.slice (some ⟨g', 0, none⟩) (us.length + 1 + 1) cap'))).from _, ⟨hbW9.setCell (p := ⟨G2 + 1, 0, none⟩) (by dsimp only; omega) _, fun _ => aS9.far (by dsimp only; omega) _⟩, ?_⟩
            show ImgSt _ _ _ _ _ _ _ _ _ _ _
            rw [HR.out]
            refine ⟨⟨_, _, hv9.set_ 0 _, own_off hown' (own_neq hown' hv9 (by decide)) _, ?_⟩, by rw [List.all_cons, hfit, HB.out]; rfl, hbel.trans (hbW9.setCell (p := ⟨G2 + 1, 0, none⟩) (by dsimp only; omega) _), a39.far (by dsimp only; omega) _, a49.far (by dsimp only; omega) _, a59.far (by dsimp only; omega) _, a69.far (by dsimp only; omega) _, a79.far (by dsimp only; omega) _, aS9.far (by dsimp only; omega) _⟩
            rw [HC.out, List.reverse_cons]
            exact Imgs.boxS hv9 rfl _ himg9
          · go_simp
            refine hK.out _ _ ⟨((hX5.alloc _).cell 0).trans rfl, ((hX5.alloc _).cell 1).trans rfl⟩ (fun _ => ?_)
            clear hK K'
            try simp only [Act.put, List.setIfInBounds_toArray, List.set_cons_zero, List.set_cons_succ]
            refine wpAnyH_ready (rs := [0]) (by kernel_rfl) (by simp) ?_
            refine AllReadyH.cons rfl (fun K' hK => ?_) AllReadyH.nil
            go_simp
            refine hK.out _ _ ⟨((hX5.alloc _).cell 0).trans rfl, ((hX5.alloc _).cell 1).trans rfl⟩ (fun _ => ?_)
            clear hK K'
            try simp only [Act.put, List.setIfInBounds_toArray, List.set_cons_zero, List.set_cons_succ]
            have hzW5 := hbW5.size
            have hrow5 := own_below hrow hbW5
            have himg5 := himg.below hbW5
            have hrm := row_more (tag := 4) (c := c5) (ps := [be (P : Int) 5, be dd 8, be dk 8]) (B' := w3.heap.size) himg5 (by omega) hs5 hf5 (fun g hg => by have := (hrow.lt g hg).2; omega)
            simp only [List.length_cons, List.length_nil, Nat.zero_add, Nat.reduceAdd] at hrm
            have hlaid : Rd (w5.alloc (.cells #[.int .i64 4, .slice A5 3 c5] 106)) (w5.heap.size + 1) 2 (some ⟨w5.heap.size, 0, none⟩) 1 [.int .i64 4, .slice A5 3 c5] := by
              have := Rd.laid w5 #[.int .i64 4, .slice A5 3 c5] 106 2 1 rfl
              simpa using this
            have l1 : us.length + 1 + 1 ≤ maxLen := by simp [maxLen]; omega
            have l3 : B1 ≤ (w5.alloc (.cells #[.int .i64 4, .slice A5 3 c5] 106)).heap.size := by simp; omega
            refine wpAnyH_ready (rs := [8]) (by kernel_rfl) (by simp) ?_
            refine AllReadyH.cons rfl (fun K' hK => ?_) AllReadyH.nil
            refine step_append_any _ (by rfl) (.tmp 49) (.tmp 56) 158 (by rfl) B1 106 i0 _ 2 32 Try.underlying158 hi0 hz0 hz1 hz2 rfl (by omega) (.slice (some ⟨b, off, none⟩) (us.length + 1) vc) (us.length + 1) _ (by rfl) (hrow5.alloc _) (w5.heap.size + 1) _ 1 1 [.int .i64 4, .slice A5 3 c5] (by rfl) hlaid (fun u hu => by simp at hu; rcases hu with rfl | rfl <;> rfl) l1 (by omega) l3 ?_
            intro v' w9 hown' hgrow hat
            obtain ⟨g', cap', rfl⟩ := ownsRow_succ hown'
            have himg9 := hrm.step hgrow hat
            have hgn : ∀ g, some g = (Value.slice (some ⟨b, off, none⟩) (us.length + 1) vc).ownBlock → B1 ≤ g := fun g e => own_ge hrow g e.symm
            have hv9 := (hv5.alloc (.cells #[.int .i64 4, .slice A5 3 c5] 106)).grown hgrow (fun e => own_neq hrow hv (by decide) e.symm)
            have hX9 := (hX5.alloc (.cells #[.int .i64 4, .slice A5 3 c5] 106)).grown hgrow (fun e => own_neq hrow hX (by decide) e.symm)
            have aS9 := ((aS.below hbW5 aS.lt).alloc (.cells #[.int .i64 4, .slice A5 3 c5] 106)).grown hgrow (fun e => own_neq hrow aS (by decide) e.symm)
            have a39 := ((a3.below hbW5 a3.lt).alloc (.cells #[.int .i64 4, .slice A5 3 c5] 106)).grown hgrow (fun e => by have := hgn _ e; omega)
            have a49 := ((a4.below hbW5 a4.lt).alloc (.cells #[.int .i64 4, .slice A5 3 c5] 106)).grown hgrow (fun e => by have := hgn _ e; omega)
            have a59 := ((a5.below hbW5 a5.lt).alloc (.cells #[.int .i64 4, .slice A5 3 c5] 106)).grown hgrow (fun e => by have := hgn _ e; omega)
            have a69 := ((a6.below hbW5 a6.lt).alloc (.cells #[.int .i64 4, .slice A5 3 c5] 106)).grown hgrow (fun e => by have := hgn _ e; omega)
            have a79 := ((a7.below hbW5 a7.lt).alloc (.cells #[.int .i64 4, .slice A5 3 c5] 106)).grown hgrow (fun e => by have := hgn _ e; omega)
            have hbW9 : Below w.heap.size W w9 := ((hbW5.mono hbel.size).alloc (by have := hbel.size; omega) (.cells #[.int .i64 4, .slice A5 3 c5] 106)).grown hgrow (by have := hbel.size; simp; omega) (fun k hk => by have := own_ge hrow k hk; omega)
            have hko9 : KeepsOthers W w9 := ((others_of hbW5).trans (KeepsOthers.alloc _ _)).trans (KeepsOthers.of_grownBy hgrow (fun r o e ho => own_cells hrow5 e ho))
            have qv9 := (hv9.cell 0).trans (show _ = some (Value.slice (some ⟨b, off, none⟩) (us.length + 1) vc) from rfl)
            have fv9 := hv9.frozen 0
            refine hK.out _ _ ⟨(hX9.cell 0).trans rfl, (hX9.cell 1).trans rfl⟩ (fun _ => ?_)
            clear hK K'
            try simp only [Act.put, List.setIfInBounds_toArray, List.set_cons_zero, List.set_cons_succ]
            refine wpAnyH_ready (rs := [9]) (by kernel_rfl) (by simp) ?_
            refine AllReadyH.cons rfl (fun K' hK => ?_) AllReadyH.nil
            go_simp
            refine hK.out _ _ ⟨((hX9.far (by dsimp only; omega) _).cell 0).trans rfl, ((hX9.far (by dsimp only; omega) _).cell 1).trans rfl⟩ (fun _ => ?_)
            clear hK K'
            try simp only [Act.put, List.setIfInBounds_toArray, List.set_cons_zero, List.set_cons_succ]
            refine wpAnyH_done (by kernel_rfl) ?_ _
            refine ⟨(hko9.trans (KeepsOthers.setCell w9 ⟨G2 + 1, 0, none⟩ (.slice (some ⟨g', 0, none⟩) (us.length + 1 + 1) cap'))).from _, ⟨hbW9.setCell (p := ⟨G2 + 1, 0, none⟩) (by dsimp only; omega) _, fun _ => aS9.far (by dsimp only; omega) _⟩, ?_⟩
            show ImgSt _ _ _ _ _ _ _ _ _ _ _
            rw [HR.out]
            refine ⟨⟨_, _, hv9.set_ 0 _, own_off hown' (own_neq hown' hv9 (by decide)) _, ?_⟩, by rw [List.all_cons, hfit, HB.out]; rfl, hbel.trans (hbW9.setCell (p := ⟨G2 + 1, 0, none⟩) (by dsimp only; omega) _), a39.far (by dsimp only; omega) _, a49.far (by dsimp only; omega) _, a59.far (by dsimp only; omega) _, a69.far (by dsimp only; omega) _, a79.far (by dsimp only; omega) _, aS9.far (by dsimp only; omega) _⟩
            rw [HC.out, List.reverse_cons]
            exact Imgs.boxS hv9 rfl _ himg9
    · as_aux_lemma =>
      simp only [Bool.false_eq_true, if_false, if_true] at hc1 hc2 hC
      have hEE : Hid (E = 2) := by show _ = _; rw [hE.out, hall.out (by rw [hbit]; rfl)]; rfl
      clear hC HR hfit hall hbit hE
      gi_wp2
      refine wpIn_region_held (S := fun W' => W'.cell? ⟨w.heap.size + 1, 0, none⟩ = some (Value.string (bs K)) ∧ W'.cell? ⟨Bx, 0, none⟩ = some (Value.int .i64 (P : Int)) ∧ W'.cell? ⟨w.heap.size + 2, 2, none⟩ = some (Value.string (bs a))) hmx (by kernel_rfl) (fun ⟨_, _, h⟩ => h) ⟨(a43.cell 0).trans rfl, (hX3.cell 0).trans rfl, (a53.cell 2).trans rfl⟩ (fun hHeld => ?_)
      refine wpAnyH_take (i := 0) (v := ?_) rfl (by kernel_rfl) (by kernel_rfl) (by kernel_rfl) (fun _ _ _ h => h) (Or.inl ⟨by rfl, ?_⟩) (by assumption) ?_
      rotate_left
      · intro w' hSw
        (try dsimp only at hSw)
        go_simp
        try with_reducible rfl
      try simp only [Act.put, List.setIfInBounds_toArray, List.set_cons_zero, List.set_cons_succ]
      refine wpAnyH_take (i := 1) (v := ?_) rfl (by kernel_rfl) (by kernel_rfl) (by kernel_rfl) (fun _ _ _ h => h) (Or.inl ⟨by rfl, ?_⟩) (by assumption) ?_
      rotate_left
      · intro w' hSw
        (try dsimp only at hSw)
        go_simp
        try with_reducible rfl
      try simp only [Act.put, List.setIfInBounds_toArray, List.set_cons_zero, List.set_cons_succ]
      refine wpAnyH_take (i := 2) (v := ?_) rfl (by kernel_rfl) (by kernel_rfl) (by kernel_rfl) (fun _ _ _ h => h) (Or.inl ⟨by rfl, ?_⟩) (by assumption) ?_
      rotate_left
      · intro w' hSw
        (try dsimp only at hSw)
        go_simp
        try with_reducible rfl
      try simp only [Act.put, List.setIfInBounds_toArray, List.set_cons_zero, List.set_cons_succ]
      refine wpAnyH_take (i := 4) (v := ?_) rfl (by kernel_rfl) (by kernel_rfl) (by kernel_rfl) (fun _ _ _ h => h) (Or.inl ⟨by rfl, ?_⟩) (by assumption) ?_
      rotate_left
      · intro w' hSw
        (try dsimp only at hSw)
        go_simp
        try with_reducible rfl
      try simp only [Act.put, List.setIfInBounds_toArray, List.set_cons_zero, List.set_cons_succ]
      refine wpAnyH_take (i := 5) (v := ?_) rfl (by kernel_rfl) (by kernel_rfl) (by kernel_rfl) (fun _ _ _ h => h) (Or.inl ⟨by rfl, ?_⟩) (by assumption) ?_
      rotate_left
      · intro w' hSw
        (try dsimp only at hSw)
        go_simp
        try with_reducible rfl
      try simp only [Act.put, List.setIfInBounds_toArray, List.set_cons_zero, List.set_cons_succ]
      refine wpAnyH_take (i := 6) (v := ?_) rfl (by kernel_rfl) (by kernel_rfl) (by kernel_rfl) (fun _ _ _ h => h) (Or.inl ⟨by rfl, ?_⟩) (by assumption) ?_
      rotate_left
      · intro w' hSw
        (try dsimp only at hSw)
        go_simp
        try with_reducible rfl
      try simp only [Act.put, List.setIfInBounds_toArray, List.set_cons_zero, List.set_cons_succ]
      refine wpAnyH_take (i := 7) (v := ?_) rfl (by kernel_rfl) (by kernel_rfl) (by kernel_rfl) (fun _ _ _ h => h) (Or.inl ⟨by rfl, ?_⟩) (by assumption) ?_
      rotate_left
      · intro w' hSw
        (try dsimp only at hSw)
        go_simp
        try with_reducible rfl
      try simp only [Act.put, List.setIfInBounds_toArray, List.set_cons_zero, List.set_cons_succ]
      refine wpAnyH_ready (rs := [3]) (by kernel_rfl) (by simp) ?_
      refine AllReadyH.cons rfl (fun K' hK => ?_) AllReadyH.nil
      go_simp
      with_reducible refine (hc1 _).mono ?_
      rintro e w4 ⟨rfl, rfl⟩
      dsimp only
      refine hK.out _ _ ⟨(a43.cell 0).trans rfl, (hX3.cell 0).trans rfl, (a53.cell 2).trans rfl⟩ (fun _ => ?_)
      clear hK K'
      try simp only [Act.put, List.setIfInBounds_toArray, List.set_cons_zero, List.set_cons_succ]
      refine wpAnyH_ready (rs := [8]) (by kernel_rfl) (by simp) ?_
      refine AllReadyH.cons rfl (fun K' hK => ?_) AllReadyH.nil
      go_simp
      refine (hc2 _).mono ?_
      rintro e w4 ⟨rfl, rfl⟩
      dsimp only
      refine hK.out _ _ ⟨(a43.cell 0).trans rfl, (hX3.cell 0).trans rfl, (a53.cell 2).trans rfl⟩ (fun _ => ?_)
      clear hK K'
      try simp only [Act.put, List.setIfInBounds_toArray, List.set_cons_zero, List.set_cons_succ]
      refine wpAnyH_take (i := 9) (v := ?_) rfl (by kernel_rfl) (by kernel_rfl) (by kernel_rfl) (fun _ _ _ h => h) (Or.inl ⟨by rfl, ?_⟩) (by assumption) ?_
      rotate_left
      · intro w' hSw
        (try dsimp only at hSw)
        go_simp
        try with_reducible rfl
      try simp only [Act.put, List.setIfInBounds_toArray, List.set_cons_zero, List.set_cons_succ]
      refine wpAnyH_take (i := 10) (v := ?_) rfl (by kernel_rfl) (by kernel_rfl) (by kernel_rfl) (fun _ _ _ h => h) (Or.inl ⟨by rfl, ?_⟩) (by assumption) ?_
      rotate_left
      · intro w' hSw
        (try dsimp only at hSw)
        go_simp
        try with_reducible rfl
      try simp only [Act.put, List.setIfInBounds_toArray, List.set_cons_zero, List.set_cons_succ]
      refine wpAnyH_done (by kernel_rfl) ?_ _
      as_aux_lemma =>
        have k6 := (a63.drew.cell 0).trans (show _ = some (Value.slice none 0 0) from rfl)
        have k7 := (a73.drew.cell 0).trans (show _ = some (Value.int .i64 0) from rfl)
        have f6 := a63.drew.frozen 0
        have f7 := a73.drew.frozen 0
        have k6b := (a63.cell 0).trans (show _ = some (Value.slice none 0 0) from rfl)
        have k7b := (a73.cell 0).trans (show _ = some (Value.int .i64 0) from rfl)
        have f6b := a63.frozen 0
        have f7b := a73.frozen 0
        gi_wp2
        exact ⟨((((others_of hbW3).trans (KeepsOthers.drew _)).trans (KeepsOthers.setCell _ ⟨w.heap.size + 3, 0, none⟩ (.slice none 0 0))).trans (KeepsOthers.setCell _ ⟨w.heap.size + 4, 0, none⟩ (.int .i64 2))).from _, rfl, hEE.out, (((hbel.trans (hbW3.mono hbel.size)).drew.setCell (p := ⟨w.heap.size + 3, 0, none⟩) (by dsimp only; omega) _).setCell (p := ⟨w.heap.size + 4, 0, none⟩) (by dsimp only; omega) _), ((a63.drew.set_ 0 (.slice none 0 0)).far (p := ⟨w.heap.size + 4, 0, none⟩) (by dsimp only; omega) _), ((a73.drew.far (p := ⟨w.heap.size + 3, 0, none⟩) (by dsimp only; omega) _).set_ 0 (.int .i64 2))⟩
    · as_aux_lemma =>
      simp only [Bool.false_eq_true, if_false, if_true] at hc1 hc2 hC
      have hEE : Hid (E = 2) := by show _ = _; rw [hE.out, hall.out (by rw [hbit]; rfl)]; rfl
      clear hC HR hfit hall hbit hE
      gi_wp2
      refine wpIn_region_held (S := fun W' => W'.cell? ⟨w.heap.size + 1, 0, none⟩ = some (Value.string (bs K)) ∧ W'.cell? ⟨Bx, 0, none⟩ = some (Value.int .i64 (P : Int)) ∧ W'.cell? ⟨w.heap.size + 2, 2, none⟩ = some (Value.string (bs a))) hmx (by kernel_rfl) (fun ⟨_, _, h⟩ => h) ⟨(a43.cell 0).trans rfl, (hX3.cell 0).trans rfl, (a53.cell 2).trans rfl⟩ (fun hHeld => ?_)
      refine wpAnyH_take (i := 0) (v := ?_) rfl (by kernel_rfl) (by kernel_rfl) (by kernel_rfl) (fun _ _ _ h => h) (Or.inl ⟨by rfl, ?_⟩) (by assumption) ?_
      rotate_left
      · intro w' hSw
        (try dsimp only at hSw)
        go_simp
        try with_reducible rfl
      try simp only [Act.put, List.setIfInBounds_toArray, List.set_cons_zero, List.set_cons_succ]
      refine wpAnyH_take (i := 1) (v := ?_) rfl (by kernel_rfl) (by kernel_rfl) (by kernel_rfl) (fun _ _ _ h => h) (Or.inl ⟨by rfl, ?_⟩) (by assumption) ?_
      rotate_left
      · intro w' hSw
        (try dsimp only at hSw)
        go_simp
        try with_reducible rfl
      try simp only [Act.put, List.setIfInBounds_toArray, List.set_cons_zero, List.set_cons_succ]
      refine wpAnyH_take (i := 2) (v := ?_) rfl (by kernel_rfl) (by kernel_rfl) (by kernel_rfl) (fun _ _ _ h => h) (Or.inl ⟨by rfl, ?_⟩) (by assumption) ?_
      rotate_left
      · intro w' hSw
        (try dsimp only at hSw)
        go_simp
        try with_reducible rfl
      try simp only [Act.put, List.setIfInBounds_toArray, List.set_cons_zero, List.set_cons_succ]
      refine wpAnyH_take (i := 4) (v := ?_) rfl (by kernel_rfl) (by kernel_rfl) (by kernel_rfl) (fun _ _ _ h => h) (Or.inl ⟨by rfl, ?_⟩) (by assumption) ?_
      rotate_left
      · intro w' hSw
        (try dsimp only at hSw)
        go_simp
        try with_reducible rfl
      try simp only [Act.put, List.setIfInBounds_toArray, List.set_cons_zero, List.set_cons_succ]
      refine wpAnyH_take (i := 5) (v := ?_) rfl (by kernel_rfl) (by kernel_rfl) (by kernel_rfl) (fun _ _ _ h => h) (Or.inl ⟨by rfl, ?_⟩) (by assumption) ?_
      rotate_left
      · intro w' hSw
        (try dsimp only at hSw)
        go_simp
        try with_reducible rfl
      try simp only [Act.put, List.setIfInBounds_toArray, List.set_cons_zero, List.set_cons_succ]
      refine wpAnyH_take (i := 6) (v := ?_) rfl (by kernel_rfl) (by kernel_rfl) (by kernel_rfl) (fun _ _ _ h => h) (Or.inl ⟨by rfl, ?_⟩) (by assumption) ?_
      rotate_left
      · intro w' hSw
        (try dsimp only at hSw)
        go_simp
        try with_reducible rfl
      try simp only [Act.put, List.setIfInBounds_toArray, List.set_cons_zero, List.set_cons_succ]
      refine wpAnyH_take (i := 7) (v := ?_) rfl (by kernel_rfl) (by kernel_rfl) (by kernel_rfl) (fun _ _ _ h => h) (Or.inl ⟨by rfl, ?_⟩) (by assumption) ?_
      rotate_left
      · intro w' hSw
        (try dsimp only at hSw)
        go_simp
        try with_reducible rfl
      try simp only [Act.put, List.setIfInBounds_toArray, List.set_cons_zero, List.set_cons_succ]
      refine wpAnyH_ready (rs := [3]) (by kernel_rfl) (by simp) ?_
      refine AllReadyH.cons rfl (fun K' hK => ?_) AllReadyH.nil
      go_simp
      with_reducible refine (hc1 _).mono ?_
      rintro e w4 ⟨rfl, rfl⟩
      dsimp only
      refine hK.out _ _ ⟨(a43.cell 0).trans rfl, (hX3.cell 0).trans rfl, (a53.cell 2).trans rfl⟩ (fun _ => ?_)
      clear hK K'
      try simp only [Act.put, List.setIfInBounds_toArray, List.set_cons_zero, List.set_cons_succ]
      refine wpAnyH_ready (rs := [8]) (by kernel_rfl) (by simp) ?_
      refine AllReadyH.cons rfl (fun K' hK => ?_) AllReadyH.nil
      go_simp
      refine (hc2 _).mono ?_
      rintro e w4 ⟨rfl, rfl⟩
      dsimp only
      refine hK.out _ _ ⟨(a43.cell 0).trans rfl, (hX3.cell 0).trans rfl, (a53.cell 2).trans rfl⟩ (fun _ => ?_)
      clear hK K'
      try simp only [Act.put, List.setIfInBounds_toArray, List.set_cons_zero, List.set_cons_succ]
      refine wpAnyH_take (i := 9) (v := ?_) rfl (by kernel_rfl) (by kernel_rfl) (by kernel_rfl) (fun _ _ _ h => h) (Or.inl ⟨by rfl, ?_⟩) (by assumption) ?_
      rotate_left
      · intro w' hSw
        (try dsimp only at hSw)
        go_simp
        try with_reducible rfl
      try simp only [Act.put, List.setIfInBounds_toArray, List.set_cons_zero, List.set_cons_succ]
      refine wpAnyH_take (i := 10) (v := ?_) rfl (by kernel_rfl) (by kernel_rfl) (by kernel_rfl) (fun _ _ _ h => h) (Or.inl ⟨by rfl, ?_⟩) (by assumption) ?_
      rotate_left
      · intro w' hSw
        (try dsimp only at hSw)
        go_simp
        try with_reducible rfl
      try simp only [Act.put, List.setIfInBounds_toArray, List.set_cons_zero, List.set_cons_succ]
      refine wpAnyH_done (by kernel_rfl) ?_ _
      as_aux_lemma =>
        have k6 := (a63.drew.cell 0).trans (show _ = some (Value.slice none 0 0) from rfl)
        have k7 := (a73.drew.cell 0).trans (show _ = some (Value.int .i64 0) from rfl)
        have f6 := a63.drew.frozen 0
        have f7 := a73.drew.frozen 0
        have k6b := (a63.cell 0).trans (show _ = some (Value.slice none 0 0) from rfl)
        have k7b := (a73.cell 0).trans (show _ = some (Value.int .i64 0) from rfl)
        have f6b := a63.frozen 0
        have f7b := a73.frozen 0
        gi_wp2
        exact ⟨((((others_of hbW3).trans (KeepsOthers.drew _)).trans (KeepsOthers.setCell _ ⟨w.heap.size + 3, 0, none⟩ (.slice none 0 0))).trans (KeepsOthers.setCell _ ⟨w.heap.size + 4, 0, none⟩ (.int .i64 2))).from _, rfl, hEE.out, (((hbel.trans (hbW3.mono hbel.size)).drew.setCell (p := ⟨w.heap.size + 3, 0, none⟩) (by dsimp only; omega) _).setCell (p := ⟨w.heap.size + 4, 0, none⟩) (by dsimp only; omega) _), ((a63.drew.set_ 0 (.slice none 0 0)).far (p := ⟨w.heap.size + 4, 0, none⟩) (by dsimp only; omega) _), ((a73.drew.far (p := ⟨w.heap.size + 3, 0, none⟩) (by dsimp only; omega) _).set_ 0 (.int .i64 2))⟩
    · as_aux_lemma =>
      simp only [if_true] at hc1 hc2 hC
      have HC := Lib.hid hC
      have HB : Hid (fitB K a ⟨(P : Int), dk⟩ = true) := by show _ = _; rw [hbit]; rfl
      clear hC hall hbit hE
      gi_wp2
      refine wpIn_region_held (S := fun W' => W'.cell? ⟨w.heap.size + 1, 0, none⟩ = some (Value.string (bs K)) ∧ W'.cell? ⟨Bx, 0, none⟩ = some (Value.int .i64 (P : Int)) ∧ W'.cell? ⟨w.heap.size + 2, 2, none⟩ = some (Value.string (bs a))) hmx (by kernel_rfl) (fun ⟨_, _, h⟩ => h) ⟨(a43.cell 0).trans rfl, (hX3.cell 0).trans rfl, (a53.cell 2).trans rfl⟩ (fun hHeld => ?_)
      refine wpAnyH_take (i := 0) (v := ?_) rfl (by kernel_rfl) (by kernel_rfl) (by kernel_rfl) (fun _ _ _ h => h) (Or.inl ⟨by rfl, ?_⟩) (by assumption) ?_
      rotate_left
      · intro w' hSw
        (try dsimp only at hSw)
        go_simp
        try with_reducible rfl
      try simp only [Act.put, List.setIfInBounds_toArray, List.set_cons_zero, List.set_cons_succ]
      refine wpAnyH_take (i := 1) (v := ?_) rfl (by kernel_rfl) (by kernel_rfl) (by kernel_rfl) (fun _ _ _ h => h) (Or.inl ⟨by rfl, ?_⟩) (by assumption) ?_
      rotate_left
      · intro w' hSw
        (try dsimp only at hSw)
        go_simp
        try with_reducible rfl
      try simp only [Act.put, List.setIfInBounds_toArray, List.set_cons_zero, List.set_cons_succ]
      refine wpAnyH_take (i := 2) (v := ?_) rfl (by kernel_rfl) (by kernel_rfl) (by kernel_rfl) (fun _ _ _ h => h) (Or.inl ⟨by rfl, ?_⟩) (by assumption) ?_
      rotate_left
      · intro w' hSw
        (try dsimp only at hSw)
        go_simp
        try with_reducible rfl
      try simp only [Act.put, List.setIfInBounds_toArray, List.set_cons_zero, List.set_cons_succ]
      refine wpAnyH_take (i := 4) (v := ?_) rfl (by kernel_rfl) (by kernel_rfl) (by kernel_rfl) (fun _ _ _ h => h) (Or.inl ⟨by rfl, ?_⟩) (by assumption) ?_
      rotate_left
      · intro w' hSw
        (try dsimp only at hSw)
        go_simp
        try with_reducible rfl
      try simp only [Act.put, List.setIfInBounds_toArray, List.set_cons_zero, List.set_cons_succ]
      refine wpAnyH_take (i := 5) (v := ?_) rfl (by kernel_rfl) (by kernel_rfl) (by kernel_rfl) (fun _ _ _ h => h) (Or.inl ⟨by rfl, ?_⟩) (by assumption) ?_
      rotate_left
      · intro w' hSw
        (try dsimp only at hSw)
        go_simp
        try with_reducible rfl
      try simp only [Act.put, List.setIfInBounds_toArray, List.set_cons_zero, List.set_cons_succ]
      refine wpAnyH_take (i := 6) (v := ?_) rfl (by kernel_rfl) (by kernel_rfl) (by kernel_rfl) (fun _ _ _ h => h) (Or.inl ⟨by rfl, ?_⟩) (by assumption) ?_
      rotate_left
      · intro w' hSw
        (try dsimp only at hSw)
        go_simp
        try with_reducible rfl
      try simp only [Act.put, List.setIfInBounds_toArray, List.set_cons_zero, List.set_cons_succ]
      refine wpAnyH_take (i := 7) (v := ?_) rfl (by kernel_rfl) (by kernel_rfl) (by kernel_rfl) (fun _ _ _ h => h) (Or.inl ⟨by rfl, ?_⟩) (by assumption) ?_
      rotate_left
      · intro w' hSw
        (try dsimp only at hSw)
        go_simp
        try with_reducible rfl
      try simp only [Act.put, List.setIfInBounds_toArray, List.set_cons_zero, List.set_cons_succ]
      refine wpAnyH_ready (rs := [3]) (by kernel_rfl) (by simp) ?_
      refine AllReadyH.cons rfl (fun K' hK => ?_) AllReadyH.nil
      go_simp
      with_reducible refine (hc1 _).mono ?_
      rintro e w4 ⟨rfl, rfl⟩
      dsimp only
      refine hK.out _ _ ⟨(a43.cell 0).trans rfl, (hX3.cell 0).trans rfl, (a53.cell 2).trans rfl⟩ (fun _ => ?_)
      clear hK K'
      try simp only [Act.put, List.setIfInBounds_toArray, List.set_cons_zero, List.set_cons_succ]
      refine wpAnyH_ready (rs := [8]) (by kernel_rfl) (by simp) ?_
      refine AllReadyH.cons rfl (fun K' hK => ?_) AllReadyH.nil
      go_simp
      refine (hc2 _).mono ?_
      rintro e w4 ⟨rfl, rfl⟩
      dsimp only
      refine hK.out _ _ ⟨(a43.cell 0).trans rfl, (hX3.cell 0).trans rfl, (a53.cell 2).trans rfl⟩ (fun _ => ?_)
      clear hK K'
      try simp only [Act.put, List.setIfInBounds_toArray, List.set_cons_zero, List.set_cons_succ]
      refine wpAnyH_take (i := 9) (v := ?_) rfl (by kernel_rfl) (by kernel_rfl) (by kernel_rfl) (fun _ _ _ h => h) (Or.inl ⟨by rfl, ?_⟩) (by assumption) ?_
      rotate_left
      · intro w' hSw
        (try dsimp only at hSw)
        go_simp
        try with_reducible rfl
      try simp only [Act.put, List.setIfInBounds_toArray, List.set_cons_zero, List.set_cons_succ]
      refine wpAnyH_take (i := 10) (v := ?_) rfl (by kernel_rfl) (by kernel_rfl) (by kernel_rfl) (fun _ _ _ h => h) (Or.inl ⟨by rfl, ?_⟩) (by assumption) ?_
      rotate_left
      · intro w' hSw
        (try dsimp only at hSw)
        go_simp
        try with_reducible rfl
      try simp only [Act.put, List.setIfInBounds_toArray, List.set_cons_zero, List.set_cons_succ]
      refine wpAnyH_done (by kernel_rfl) ?_ _
      as_aux_lemma =>
        have k4 := (a43.drew.cell 0).trans (show _ = some (Value.string (bs K)) from rfl)
        have kx := (hX3.drew.cell 0).trans (show _ = some (Value.int .i64 (P : Int)) from rfl)
        have h1' : 1 ≤ 9 - 1 - 1 := by omega
        gi_wp2_with (gi_at_call 66; refine (CallsIn.inRound l (callsIn_wide.2 (hc1 _))).mono ?_; rintro e w4 ⟨rfl, rfl⟩)
        refine wpIn_region_held (S := fun W' => W'.cell? ⟨Bx, 0, none⟩ = some (Value.int .i64 (P : Int)) ∧ W'.cell? ⟨Bx, 1, none⟩ = some (Value.int .u64 dk)) hmx (by kernel_rfl) (fun ⟨_, _, h⟩ => h) ⟨(hX3.cell 0).trans rfl, (hX3.cell 1).trans rfl⟩ (fun hHeld => ?_)
        refine wpAnyH_take (i := 1) (v := ?_) rfl (by kernel_rfl) (by kernel_rfl) (by kernel_rfl) (fun _ _ _ h => h) (Or.inl ⟨by rfl, ?_⟩) (by assumption) ?_
        rotate_left
        · intro w' hSw
          (try dsimp only at hSw)
          go_simp
          try with_reducible rfl
        try simp only [Act.put, List.setIfInBounds_toArray, List.set_cons_zero, List.set_cons_succ]
        refine wpAnyH_take (i := 2) (v := ?_) rfl (by kernel_rfl) (by kernel_rfl) (by kernel_rfl) (fun _ _ _ h => h) (Or.inl ⟨by rfl, ?_⟩) (by assumption) ?_
        rotate_left
        · intro w' hSw
          (try dsimp only at hSw)
          go_simp
          try with_reducible rfl
        try simp only [Act.put, List.setIfInBounds_toArray, List.set_cons_zero, List.set_cons_succ]
        refine wpAnyH_take (i := 3) (v := ?_) rfl (by kernel_rfl) (by kernel_rfl) (by kernel_rfl) (fun _ _ _ h => h) (Or.inl ⟨by rfl, ?_⟩) (by assumption) ?_
        rotate_left
        · intro w' hSw
          (try dsimp only at hSw)
          go_simp
          try with_reducible rfl
        try simp only [Act.put, List.setIfInBounds_toArray, List.set_cons_zero, List.set_cons_succ]
        refine wpAnyH_take (i := 4) (v := ?_) rfl (by kernel_rfl) (by kernel_rfl) (by kernel_rfl) (fun _ _ _ h => h) (Or.inl ⟨by rfl, ?_⟩) (by assumption) ?_
        rotate_left
        · intro w' hSw
          (try dsimp only at hSw)
          go_simp
          try with_reducible rfl
        try simp only [Act.put, List.setIfInBounds_toArray, List.set_cons_zero, List.set_cons_succ]
        refine wpAnyH_take (i := 5) (v := ?_) rfl (by kernel_rfl) (by kernel_rfl) (by kernel_rfl) (fun _ _ _ h => h) (Or.inl ⟨by rfl, ?_⟩) (by assumption) ?_
        rotate_left
        · intro w' hSw
          (try dsimp only at hSw)
          go_simp
          try with_reducible rfl
        try simp only [Act.put, List.setIfInBounds_toArray, List.set_cons_zero, List.set_cons_succ]
        refine wpAnyH_ready (rs := [0, 6]) (by kernel_rfl) (by simp) ?_
        refine AllReadyH.cons rfl (fun K' hK => ?_) (AllReadyH.cons rfl (fun K' hK => ?_) AllReadyH.nil)
        · go_simp
          refine hK.out _ _ ⟨(hX3.cell 0).trans rfl, (hX3.cell 1).trans rfl⟩ (fun _ => ?_)
          clear hK K'
          try simp only [Act.put, List.setIfInBounds_toArray, List.set_cons_zero, List.set_cons_succ]
          refine wpAnyH_ready (rs := [6]) (by kernel_rfl) (by simp) ?_
          refine AllReadyH.cons rfl (fun K' hK => ?_) AllReadyH.nil
          go_simp
          refine (fork_any (P : Int) dk dd _ hdk.1 hdk.2 hdb.1 hdb.2).mono ?_
          rintro e w5 ⟨y, rfl, ⟨A5, c5, rfl, hs5, hf5⟩, hb5⟩
          dsimp only
          have hbW5 : Below W.heap.size W w5 := (hbW3.drew.drew).trans (hb5.mono hbW3.size)
          have hv5 := hv.below hbW5 hv.lt
          have hX5 := hX.below hbW5 hX.lt
          have qv5 := (hv5.cell 0).trans (show _ = some (Value.slice (some ⟨b, off, none⟩) (us.length + 1) vc) from rfl)
          have qv5a := fun o => hv5.cell_a 0 (Value.slice (some ⟨b, off, none⟩) (us.length + 1) vc) rfl o
          refine hK.out _ _ ⟨(hX5.cell 0).trans rfl, (hX5.cell 1).trans rfl⟩ (fun _ => ?_)
          clear hK K'
          try simp only [Act.put, List.setIfInBounds_toArray, List.set_cons_zero, List.set_cons_succ]
          refine wpAnyH_ready (rs := [7]) (by kernel_rfl) (by simp) ?_
          refine AllReadyH.cons rfl (fun K' hK => ?_) AllReadyH.nil
          go_simp
          refine hK.out _ _ ⟨((hX5.alloc _).cell 0).trans rfl, ((hX5.alloc _).cell 1).trans rfl⟩ (fun _ => ?_)
          clear hK K'
          try simp only [Act.put, List.setIfInBounds_toArray, List.set_cons_zero, List.set_cons_succ]
          have hzW5 := hbW5.size
          have hrow5 := own_below hrow hbW5
          have himg5 := himg.below hbW5
          have hrm := row_more (tag := 4) (c := c5) (ps := [be (P : Int) 5, be dk 8, be dd 8]) (B' := w3.heap.size) himg5 (by omega) hs5 hf5 (fun g hg => by have := (hrow.lt g hg).2; omega)
          simp only [List.length_cons, List.length_nil, Nat.zero_add, Nat.reduceAdd] at hrm
          have hlaid : Rd (w5.alloc (.cells #[.int .i64 4, .slice A5 3 c5] 106)) (w5.heap.size + 1) 2 (some ⟨w5.heap.size, 0, none⟩) 1 [.int .i64 4, .slice A5 3 c5] := by
            have := Rd.laid w5 #[.int .i64 4, .slice A5 3 c5] 106 2 1 rfl
            simpa using this
          have l1 : us.length + 1 + 1 ≤ maxLen := by simp [maxLen]; omega
          have l3 : B1 ≤ (w5.alloc (.cells #[.int .i64 4, .slice A5 3 c5] 106)).heap.size := by simp; omega
          refine wpAnyH_ready (rs := [8]) (by kernel_rfl) (by simp) ?_
          refine AllReadyH.cons rfl (fun K' hK => ?_) AllReadyH.nil
          refine step_append_any _ (by rfl) (.tmp 75) (.tmp 82) 158 (by rfl) B1 106 i0 _ 2 32 Try.underlying158 hi0 hz0 hz1 hz2 rfl (by omega) (.slice (some ⟨b, off, none⟩) (us.length + 1) vc) (us.length + 1) _ (by rfl) (hrow5.alloc _) (w5.heap.size + 1) _ 1 1 [.int .i64 4, .slice A5 3 c5] (by rfl) hlaid (fun u hu => by simp at hu; rcases hu with rfl | rfl <;> rfl) l1 (by omega) l3 ?_
          intro v' w9 hown' hgrow hat
          obtain ⟨g', cap', rfl⟩ := ownsRow_succ hown'
          have himg9 := hrm.step hgrow hat
          have hgn : ∀ g, some g = (Value.slice (some ⟨b, off, none⟩) (us.length + 1) vc).ownBlock → B1 ≤ g := fun g e => own_ge hrow g e.symm
          have hv9 := (hv5.alloc (.cells #[.int .i64 4, .slice A5 3 c5] 106)).grown hgrow (fun e => own_neq hrow hv (by decide) e.symm)
          have hX9 := (hX5.alloc (.cells #[.int .i64 4, .slice A5 3 c5] 106)).grown hgrow (fun e => own_neq hrow hX (by decide) e.symm)
          have aS9 := ((aS.below hbW5 aS.lt).alloc (.cells #[.int .i64 4, .slice A5 3 c5] 106)).grown hgrow (fun e => own_neq hrow aS (by decide) e.symm)
          have a39 := ((a3.below hbW5 a3.lt).alloc (.cells #[.int .i64 4, .slice A5 3 c5] 106)).grown hgrow (fun e => by have := hgn _ e; omega)
          have a49 := ((a4.below hbW5 a4.lt).alloc (.cells #[.int .i64 4, .slice A5 3 c5] 106)).grown hgrow (fun e => by have := hgn _ e; omega)
          have a59 := ((a5.below hbW5 a5.lt).alloc (.cells #[.int .i64 4, .slice A5 3 c5] 106)).grown hgrow (fun e => by have := hgn _ e; omega)
          have a69 := ((a6.below hbW5 a6.lt).alloc (.cells #[.int .i64 4, .slice A5 3 c5] 106)).grown hgrow (fun e => by have := hgn _ e; omega)
          have a79 := ((a7.below hbW5 a7.lt).alloc (.cells #[.int .i64 4, .slice A5 3 c5] 106)).grown hgrow (fun e => by have := hgn _ e; omega)
          have hbW9 : Below w.heap.size W w9 := ((hbW5.mono hbel.size).alloc (by have := hbel.size; omega) (.cells #[.int .i64 4, .slice A5 3 c5] 106)).grown hgrow (by have := hbel.size; simp; omega) (fun k hk => by have := own_ge hrow k hk; omega)
          have hko9 : KeepsOthers W w9 := ((others_of hbW5).trans (KeepsOthers.alloc _ _)).trans (KeepsOthers.of_grownBy hgrow (fun r o e ho => own_cells hrow5 e ho))
          have qv9 := (hv9.cell 0).trans (show _ = some (Value.slice (some ⟨b, off, none⟩) (us.length + 1) vc) from rfl)
          have fv9 := hv9.frozen 0
          refine hK.out _ _ ⟨(hX9.cell 0).trans rfl, (hX9.cell 1).trans rfl⟩ (fun _ => ?_)
          clear hK K'
          try simp only [Act.put, List.setIfInBounds_toArray, List.set_cons_zero, List.set_cons_succ]
          refine wpAnyH_ready (rs := [9]) (by kernel_rfl) (by simp) ?_
          refine AllReadyH.cons rfl (fun K' hK => ?_) AllReadyH.nil
          go_simp
          refine hK.out _ _ ⟨((hX9.far (by dsimp only; omega) _).cell 0).trans rfl, ((hX9.far (by dsimp only; omega) _).cell 1).trans rfl⟩ (fun _ => ?_)
          clear hK K'
          try simp only [Act.put, List.setIfInBounds_toArray, List.set_cons_zero, List.set_cons_succ]
          refine wpAnyH_done (by kernel_rfl) ?_ _
          refine ⟨(hko9.trans (KeepsOthers.setCell w9 ⟨G2 + 1, 0, none⟩ (.slice (some ⟨g', 0, none⟩) (us.length + 1 + 1) cap'))).from _, ⟨hbW9.setCell (p := ⟨G2 + 1, 0, none⟩) (by dsimp only; omega) _, fun _ => aS9.far (by dsimp only; omega) _⟩, ?_⟩
          show ImgSt _ _ _ _ _ _ _ _ _ _ _
          rw [HR.out]
          refine ⟨⟨_, _, hv9.set_ 0 _, own_off hown' (own_neq hown' hv9 (by decide)) _, ?_⟩, by rw [List.all_cons, hfit, HB.out]; rfl, hbel.trans (hbW9.setCell (p := ⟨G2 + 1, 0, none⟩) (by dsimp only; omega) _), a39.far (by dsimp only; omega) _, a49.far (by dsimp only; omega) _, a59.far (by dsimp only; omega) _, a69.far (by dsimp only; omega) _, a79.far (by dsimp only; omega) _, aS9.far (by dsimp only; omega) _⟩
          rw [HC.out, List.reverse_cons]
          exact Imgs.boxS hv9 rfl _ himg9
        · go_simp
          refine (fork_any (P : Int) dk dd _ hdk.1 hdk.2 hdb.1 hdb.2).mono ?_
          rintro e w5 ⟨y, rfl, ⟨A5, c5, rfl, hs5, hf5⟩, hb5⟩
          dsimp only
          have hbW5 : Below W.heap.size W w5 := (hbW3.drew.drew).trans (hb5.mono hbW3.size)
          have hv5 := hv.below hbW5 hv.lt
          have hX5 := hX.below hbW5 hX.lt
          have qv5 := (hv5.cell 0).trans (show _ = some (Value.slice (some ⟨b, off, none⟩) (us.length + 1) vc) from rfl)
          have qv5a := fun o => hv5.cell_a 0 (Value.slice (some ⟨b, off, none⟩) (us.length + 1) vc) rfl o
          refine hK.out _ _ ⟨(hX5.cell 0).trans rfl, (hX5.cell 1).trans rfl⟩ (fun _ => ?_)
          clear hK K'
          try simp only [Act.put, List.setIfInBounds_toArray, List.set_cons_zero, List.set_cons_succ]
          refine wpAnyH_ready (rs := [0, 7]) (by kernel_rfl) (by simp) ?_
          refine AllReadyH.cons rfl (fun K' hK => ?_) (AllReadyH.cons rfl (fun K' hK => ?_) AllReadyH.nil)
          · go_simp
            refine hK.out _ _ ⟨(hX5.cell 0).trans rfl, (hX5.cell 1).trans rfl⟩ (fun _ => ?_)
            clear hK K'
            try simp only [Act.put, List.setIfInBounds_toArray, List.set_cons_zero, List.set_cons_succ]
            refine wpAnyH_ready (rs := [7]) (by kernel_rfl) (by simp) ?_
            refine AllReadyH.cons rfl (fun K' hK => ?_) AllReadyH.nil
            go_simp
            refine hK.out _ _ ⟨((hX5.alloc _).cell 0).trans rfl, ((hX5.alloc _).cell 1).trans rfl⟩ (fun _ => ?_)
            clear hK K'
            try simp only [Act.put, List.setIfInBounds_toArray, List.set_cons_zero, List.set_cons_succ]
            have hzW5 := hbW5.size
            have hrow5 := own_below hrow hbW5
            have himg5 := himg.below hbW5
            have hrm := row_more (tag := 4) (c := c5) (ps := [be (P : Int) 5, be dk 8, be dd 8]) (B' := w3.heap.size) himg5 (by omega) hs5 hf5 (fun g hg => by have := (hrow.lt g hg).2; omega)
            simp only [List.length_cons, List.length_nil, Nat.zero_add, Nat.reduceAdd] at hrm
            have hlaid : Rd (w5.alloc (.cells #[.int .i64 4, .slice A5 3 c5] 106)) (w5.heap.size + 1) 2 (some ⟨w5.heap.size, 0, none⟩) 1 [.int .i64 4, .slice A5 3 c5] := by
              have := Rd.laid w5 #[.int .i64 4, .slice A5 3 c5] 106 2 1 rfl
              simpa using this
            have l1 : us.length + 1 + 1 ≤ maxLen := by simp [maxLen]; omega
            have l3 : B1 ≤ (w5.alloc (.cells #[.int .i64 4, .slice A5 3 c5] 106)).heap.size := by simp; omega
            refine wpAnyH_ready (rs := [8]) (by kernel_rfl) (by simp) ?_
            refine AllReadyH.cons rfl (fun K' hK => ?_) AllReadyH.nil
            refine step_append_any _ (by rfl) (.tmp 75) (.tmp 82) 158 (by rfl) B1 106 i0 _ 2 32 Try.underlying158 hi0 hz0 hz1 hz2 rfl (by omega) (.slice (some ⟨b, off, none⟩) (us.length + 1) vc) (us.length + 1) _ (by rfl) (hrow5.alloc _) (w5.heap.size + 1) _ 1 1 [.int .i64 4, .slice A5 3 c5] (by rfl) hlaid (fun u hu => by simp at hu; rcases hu with rfl | rfl <;> rfl) l1 (by omega) l3 ?_
            intro v' w9 hown' hgrow hat
            obtain ⟨g', cap', rfl⟩ := ownsRow_succ hown'
            have himg9 := hrm.step hgrow hat
            have hgn : ∀ g, some g = (Value.slice (some ⟨b, off, none⟩) (us.length + 1) vc).ownBlock → B1 ≤ g := fun g e => own_ge hrow g e.symm
            have hv9 := (hv5.alloc (.cells #[.int .i64 4, .slice A5 3 c5] 106)).grown hgrow (fun e => own_neq hrow hv (by decide) e.symm)
            have hX9 := (hX5.alloc (.cells #[.int .i64 4, .slice A5 3 c5] 106)).grown hgrow (fun e => own_neq hrow hX (by decide) e.symm)
            have aS9 := ((aS.below hbW5 aS.lt).alloc (.cells #[.int .i64 4, .slice A5 3 c5] 106)).grown hgrow (fun e => own_neq hrow aS (by decide) e.symm)
            have a39 := ((a3.below hbW5 a3.lt).alloc (.cells #[.int .i64 4, .slice A5 3 c5] 106)).grown hgrow (fun e => by have := hgn _ e; omega)
            have a49 := ((a4.below hbW5 a4.lt).alloc (.cells #[.int .i64 4, .slice A5 3 c5] 106)).grown hgrow (fun e => by have := hgn _ e; omega)
            have a59 := ((a5.below hbW5 a5.lt).alloc (.cells #[.int .i64 4, .slice A5 3 c5] 106)).grown hgrow (fun e => by have := hgn _ e; omega)
            have a69 := ((a6.below hbW5 a6.lt).alloc (.cells #[.int .i64 4, .slice A5 3 c5] 106)).grown hgrow (fun e => by have := hgn _ e; omega)
            have a79 := ((a7.below hbW5 a7.lt).alloc (.cells #[.int .i64 4, .slice A5 3 c5] 106)).grown hgrow (fun e => by have := hgn _ e; omega)
            have hbW9 : Below w.heap.size W w9 := ((hbW5.mono hbel.size).alloc (by have := hbel.size; omega) (.cells #[.int .i64 4, .slice A5 3 c5] 106)).grown hgrow (by have := hbel.size; simp; omega) (fun k hk => by have := own_ge hrow k hk; omega)
            have hko9 : KeepsOthers W w9 := ((others_of hbW5).trans (KeepsOthers.alloc _ _)).trans (KeepsOthers.of_grownBy hgrow (fun r o e ho => own_cells hrow5 e ho))
            have qv9 := (hv9.cell 0).trans (show _ = some (Value.slice (some ⟨b, off, none⟩) (us.length + 1) vc) from rfl)
            have fv9 := hv9.frozen 0
            refine hK.out _ _ ⟨(hX9.cell 0).trans rfl, (hX9.cell 1).trans rfl⟩ (fun _ => ?_)
            clear hK K'
            try simp only [Act.put, List.setIfInBounds_toArray, List.set_cons_zero, List.set_cons_succ]
            refine wpAnyH_ready (rs := [9]) (by kernel_rfl) (by simp) ?_
            refine AllReadyH.cons rfl (fun K' hK => ?_) AllReadyH.nil
            go_simp
            refine hK.out _ _ ⟨((hX9.far (by dsimp only; omega) _).cell 0).trans rfl, ((hX9.far (by dsimp only; omega) _).cell 1).trans rfl⟩ (fun _ => ?_)
            clear hK K'
            try simp only [Act.put, List.setIfInBounds_toArray, List.set_cons_zero, List.set_cons_succ]
            refine wpAnyH_done (by kernel_rfl) ?_ _
            refine ⟨(hko9.trans (KeepsOthers.setCell w9 ⟨G2 + 1, 0, none⟩ (.slice (some ⟨g', 0, none⟩) (us.length + 1 + 1) cap'))).from _, ⟨hbW9.setCell (p := ⟨G2 + 1, 0, none⟩) (by dsimp only; omega) _, fun _ => aS9.far (by dsimp only; omega) _⟩, ?_⟩
            show ImgSt _ _ _ _ _ _ _ _ _ _ _
            rw [HR.out]
            refine ⟨⟨_, _, hv9.set_ 0 _, own_off hown' (own_neq hown' hv9 (by decide)) _, ?_⟩, by rw [List.all_cons, hfit, HB.out]; rfl, hbel.trans (hbW9.setCell (p := ⟨G2 + 1, 0, none⟩) (by dsimp only; omega) _), a39.far (by dsimp only; omega) _, a49.far (by dsimp only; omega) _, a59.far (by dsimp only; omega) _, a69.far (by dsimp only; omega) _, a79.far (by dsimp only; omega) _, aS9.far (by dsimp only; omega) _⟩
            rw [HC.out, List.reverse_cons]
            exact Imgs.boxS hv9 rfl _ himg9
          · go_simp
            refine hK.out _ _ ⟨((hX5.alloc _).cell 0).trans rfl, ((hX5.alloc _).cell 1).trans rfl⟩ (fun _ => ?_)
            clear hK K'
            try simp only [Act.put, List.setIfInBounds_toArray, List.set_cons_zero, List.set_cons_succ]
            refine wpAnyH_ready (rs := [0]) (by kernel_rfl) (by simp) ?_
            refine AllReadyH.cons rfl (fun K' hK => ?_) AllReadyH.nil
            go_simp
            refine hK.out _ _ ⟨((hX5.alloc _).cell 0).trans rfl, ((hX5.alloc _).cell 1).trans rfl⟩ (fun _ => ?_)
            clear hK K'
            try simp only [Act.put, List.setIfInBounds_toArray, List.set_cons_zero, List.set_cons_succ]
            have hzW5 := hbW5.size
            have hrow5 := own_below hrow hbW5
            have himg5 := himg.below hbW5
            have hrm := row_more (tag := 4) (c := c5) (ps := [be (P : Int) 5, be dk 8, be dd 8]) (B' := w3.heap.size) himg5 (by omega) hs5 hf5 (fun g hg => by have := (hrow.lt g hg).2; omega)
            simp only [List.length_cons, List.length_nil, Nat.zero_add, Nat.reduceAdd] at hrm
            have hlaid : Rd (w5.alloc (.cells #[.int .i64 4, .slice A5 3 c5] 106)) (w5.heap.size + 1) 2 (some ⟨w5.heap.size, 0, none⟩) 1 [.int .i64 4, .slice A5 3 c5] := by
              have := Rd.laid w5 #[.int .i64 4, .slice A5 3 c5] 106 2 1 rfl
              simpa using this
            have l1 : us.length + 1 + 1 ≤ maxLen := by simp [maxLen]; omega
            have l3 : B1 ≤ (w5.alloc (.cells #[.int .i64 4, .slice A5 3 c5] 106)).heap.size := by simp; omega
            refine wpAnyH_ready (rs := [8]) (by kernel_rfl) (by simp) ?_
            refine AllReadyH.cons rfl (fun K' hK => ?_) AllReadyH.nil
            refine step_append_any _ (by rfl) (.tmp 75) (.tmp 82) 158 (by rfl) B1 106 i0 _ 2 32 Try.underlying158 hi0 hz0 hz1 hz2 rfl (by omega) (.slice (some ⟨b, off, none⟩) (us.length + 1) vc) (us.length + 1) _ (by rfl) (hrow5.alloc _) (w5.heap.size + 1) _ 1 1 [.int .i64 4, .slice A5 3 c5] (by rfl) hlaid (fun u hu => by simp at hu; rcases hu with rfl | rfl <;> rfl) l1 (by omega) l3 ?_
            intro v' w9 hown' hgrow hat
            obtain ⟨g', cap', rfl⟩ := ownsRow_succ hown'
            have himg9 := hrm.step hgrow hat
            have hgn : ∀ g, some g = (Value.slice (some ⟨b, off, none⟩) (us.length + 1) vc).ownBlock → B1 ≤ g := fun g e => own_ge hrow g e.symm
            have hv9 := (hv5.alloc (.cells #[.int .i64 4, .slice A5 3 c5] 106)).grown hgrow (fun e => own_neq hrow hv (by decide) e.symm)
            have hX9 := (hX5.alloc (.cells #[.int .i64 4, .slice A5 3 c5] 106)).grown hgrow (fun e => own_neq hrow hX (by decide) e.symm)
            have aS9 := ((aS.below hbW5 aS.lt).alloc (.cells #[.int .i64 4, .slice A5 3 c5] 106)).grown hgrow (fun e => own_neq hrow aS (by decide) e.symm)
            have a39 := ((a3.below hbW5 a3.lt).alloc (.cells #[.int .i64 4, .slice A5 3 c5] 106)).grown hgrow (fun e => by have := hgn _ e; omega)
            have a49 := ((a4.below hbW5 a4.lt).alloc (.cells #[.int .i64 4, .slice A5 3 c5] 106)).grown hgrow (fun e => by have := hgn _ e; omega)
            have a59 := ((a5.below hbW5 a5.lt).alloc (.cells #[.int .i64 4, .slice A5 3 c5] 106)).grown hgrow (fun e => by have := hgn _ e; omega)
            have a69 := ((a6.below hbW5 a6.lt).alloc (.cells #[.int .i64 4, .slice A5 3 c5] 106)).grown hgrow (fun e => by have := hgn _ e; omega)
            have a79 := ((a7.below hbW5 a7.lt).alloc (.cells #[.int .i64 4, .slice A5 3 c5] 106)).grown hgrow (fun e => by have := hgn _ e; omega)
            have hbW9 : Below w.heap.size W w9 := ((hbW5.mono hbel.size).alloc (by have := hbel.size; omega) (.cells #[.int .i64 4, .slice A5 3 c5] 106)).grown hgrow (by have := hbel.size; simp; omega) (fun k hk => by have := own_ge hrow k hk; omega)
            have hko9 : KeepsOthers W w9 := ((others_of hbW5).trans (KeepsOthers.alloc _ _)).trans (KeepsOthers.of_grownBy hgrow (fun r o e ho => own_cells hrow5 e ho))
            have qv9 := (hv9.cell 0).trans (show _ = some (Value.slice (some ⟨b, off, none⟩) (us.length + 1) vc) from rfl)
            have fv9 := hv9.frozen 0
            refine hK.out _ _ ⟨(hX9.cell 0).trans rfl, (hX9.cell 1).trans rfl⟩ (fun _ => ?_)
            clear hK K'
            try simp only [Act.put, List.setIfInBounds_toArray, List.set_cons_zero, List.set_cons_succ]
            refine wpAnyH_ready (rs := [9]) (by kernel_rfl) (by simp) ?_
            refine AllReadyH.cons rfl (fun K' hK => ?_) AllReadyH.nil
            go_simp
            refine hK.out _ _ ⟨((hX9.far (by dsimp only; omega) _).cell 0).trans rfl, ((hX9.far (by dsimp only; omega) _).cell 1).trans rfl⟩ (fun _ => ?_)
            clear hK K'
            try simp only [Act.put, List.setIfInBounds_toArray, List.set_cons_zero, List.set_cons_succ]
            refine wpAnyH_done (by kernel_rfl) ?_ _
            refine ⟨(hko9.trans (KeepsOthers.setCell w9 ⟨G2 + 1, 0, none⟩ (.slice (some ⟨g', 0, none⟩) (us.length + 1 + 1) cap'))).from _, ⟨hbW9.setCell (p := ⟨G2 + 1, 0, none⟩) (by dsimp only; omega) _, fun _ => aS9.far (by dsimp only; omega) _⟩, ?_⟩
            show ImgSt _ _ _ _ _ _ _ _ _ _ _
            rw [HR.out]
            refine ⟨⟨_, _, hv9.set_ 0 _, own_off hown' (own_neq hown' hv9 (by decide)) _, ?_⟩, by rw [List.all_cons, hfit, HB.out]; rfl, hbel.trans (hbW9.setCell (p := ⟨G2 + 1, 0, none⟩) (by dsimp only; omega) _), a39.far (by dsimp only; omega) _, a49.far (by dsimp only; omega) _, a59.far (by dsimp only; omega) _, a69.far (by dsimp only; omega) _, a79.far (by dsimp only; omega) _, aS9.far (by dsimp only; omega) _⟩
            rw [HC.out, List.reverse_cons]
            exact Imgs.boxS hv9 rfl _ himg9
  case done =>
    rintro D zs W hD hzs hI hKD
    have hzs : trnOf zs = ts.reverse := hzs
    rw [hzs, List.reverse_reverse] at hI
    obtain ⟨⟨v, xs, hv, hrow, himg⟩, hfit, hbel, a3, a4, a5, a6, a7, aS⟩ := hI
    have hEE : Hid (E = 0) := by show _ = _; rw [hE.out, hfit]; rfl
    obtain ⟨vA, vc, rfl⟩ := own_shape hrow
    obtain ⟨z, tl, hz, htl, hzd, hzl, hzsh⟩ := downP_head wd K (3, [a, vv]) ⟨by simp [maxLen], short2 (by unfold maxLen; omega) (by unfold maxLen; omega)⟩ ts
    have himg2 := himg
    rw [hz, List.reverse_cons] at himg2
    obtain ⟨b, off, A', c', rfl, hnn, k0, k1, hs⟩ := row_last hrow himg2
    clear hnn
    rw [List.length_reverse, htl] at k0 k1
    have hdb := digP_bd wd K (3, [a, vv]) ts
    have hof := fun W' (g : Below W.heap.size W W') => ofImage_any wd z.1 z.2 A' c' W.heap.size W' (Rd.below hs g) g.size hzl hzsh
    rw [hzd] at hof
    generalize digP wd K (3, [a, vv]) ts = dd at *
    obtain ⟨i0, hi0, hz0, hz1, hz2⟩ := info_parts imgInfo
    have hWs : G2 + 2 < W.heap.size := aS.lt
    clear himg2 hE hdg hlow hxr hxrL hzd hz htl hfit
    have x3 := (a3.cell 0).trans (show _ = some (Value.int .i64 wd) from rfl)
    have xv := (hv.cell 0).trans (show _ = some (Value.slice (some ⟨b, off, none⟩) (ts.length + 1) vc) from rfl)
    have hw1 : IntKind.i64.wrap (((ts.length + 1 : Nat) : Int) - 1) = (ts.length : Int) := by rw [IntWalk.i64_in _ (by omega)]; omega
    have hw2 : IntKind.i64.wrap ((ts.length : Int) + 1 - 1) = (ts.length : Int) := by rw [IntWalk.i64_in _ (by omega)]; omega
    have hw5 : IntKind.i64.wrap (ts.length : Int) = (ts.length : Int) := IntWalk.i64_in _ (by omega)
    have hw3 : (ts.length : Int) < (ts.length : Int) + 1 := by omega
    have hw4 : (0 : Int) ≤ (ts.length : Int) := by omega
    go_wp2_with fail
    refine wp_region_noPanic ?_
    refine wp_region_held_drew (S := fun W' => W'.cell? ⟨w.heap.size, 0, none⟩ = some (Value.int .i64 wd) ∧ W'.cell? ⟨G2 + 1, 0, none⟩ = some (Value.slice (some ⟨b, off, none⟩) (ts.length + 1) vc)) (by kernel_rfl) ⟨x3, xv⟩ (fun hHeld => ?_)
    refine wpAnyH_take (i := 0) (v := ?_) rfl (by kernel_rfl) (by kernel_rfl) (by kernel_rfl) (fun _ _ _ h => h) (Or.inl ⟨by rfl, ?_⟩) (by assumption) ?_
    rotate_left
    · intro w' hSw
      (try dsimp only at hSw)
      go_simp
      try with_reducible rfl
    try simp only [Act.put, List.setIfInBounds_toArray, List.set_cons_zero, List.set_cons_succ]
    refine wpAnyH_take (i := 1) (v := ?_) rfl (by kernel_rfl) (by kernel_rfl) (by kernel_rfl) (fun _ _ _ h => h) (Or.inl ⟨by rfl, ?_⟩) (by assumption) ?_
    rotate_left
    · intro w' hSw
      (try dsimp only at hSw)
      go_simp
      try with_reducible rfl
    try simp only [Act.put, List.setIfInBounds_toArray, List.set_cons_zero, List.set_cons_succ]
    refine wpAnyH_take (i := 2) (v := ?_) rfl (by kernel_rfl) (by kernel_rfl) (by kernel_rfl) (fun _ _ _ h => h) (Or.inl ⟨by rfl, ?_⟩) (by assumption) ?_
    rotate_left
    · intro w' hSw
      (try dsimp only at hSw)
      go_simp
      try with_reducible rfl
    try simp only [Act.put, List.setIfInBounds_toArray, List.set_cons_zero, List.set_cons_succ]
    refine wpAnyH_take (i := 3) (v := ?_) rfl (by kernel_rfl) (by kernel_rfl) (by kernel_rfl) (fun _ _ _ h => h) (Or.inl ⟨by rfl, ?_⟩) (by assumption) ?_
    rotate_left
    · intro w' hSw
      (try dsimp only at hSw)
      go_simp
      try with_reducible rfl
    try simp only [Act.put, List.setIfInBounds_toArray, List.set_cons_zero, List.set_cons_succ]
    refine wpAnyH_take (i := 4) (v := ?_) rfl (by kernel_rfl) (by kernel_rfl) (by kernel_rfl) (fun _ _ _ h => h) (Or.inl ⟨by rfl, ?_⟩) (by assumption) ?_
    rotate_left
    · intro w' hSw
      (try dsimp only at hSw)
      go_simp
      try with_reducible rfl
    try simp only [Act.put, List.setIfInBounds_toArray, List.set_cons_zero, List.set_cons_succ]
    refine wpAnyH_take (i := 5) (v := ?_) rfl (by kernel_rfl) (by kernel_rfl) (by kernel_rfl) (fun _ _ _ h => h) (Or.inl ⟨by rfl, ?_⟩) (by assumption) ?_
    rotate_left
    · intro w' hSw
      (try dsimp only at hSw)
      go_simp
      try with_reducible rfl
    try simp only [Act.put, List.setIfInBounds_toArray, List.set_cons_zero, List.set_cons_succ]
    refine wpAnyH_take (i := 6) (v := ?_) rfl (by kernel_rfl) (by kernel_rfl) (by kernel_rfl) (fun _ _ _ h => h) (Or.inl ⟨by rfl, ?_⟩) (by assumption) ?_
    rotate_left
    · intro w' hSw
      (try dsimp only at hSw)
      go_simp
      try with_reducible rfl
    try simp only [Act.put, List.setIfInBounds_toArray, List.set_cons_zero, List.set_cons_succ]
    refine wpAnyH_ready (rs := [7]) (by kernel_rfl) (by simp) ?_
    refine AllReadyH.cons rfl (fun K' hK => ?_) AllReadyH.nil
    go_simp
    refine hK.out _ _ ⟨x3, xv⟩ (fun _ => ?_)
    clear hK K'
    try simp only [Act.put, List.setIfInBounds_toArray, List.set_cons_zero, List.set_cons_succ]
    refine wpAnyH_ready (rs := [8]) (by kernel_rfl) (by simp) ?_
    refine AllReadyH.cons rfl (fun K' hK => ?_) AllReadyH.nil
    go_simp
    refine (hof W.drew ((Below.refl _ _).drew)).mono ?_
    rintro e w5 ⟨rfl, hb5⟩
    dsimp only
    have hbW5 : Below W.heap.size W w5 := ((Below.refl _ _).drew).trans hb5
    have hv5 := hv.below hbW5 hv.lt
    have a35 := a3.below hbW5 a3.lt
    refine hK.out _ _ ⟨(a35.cell 0).trans rfl, (hv5.cell 0).trans rfl⟩ (fun _ => ?_)
    clear hK K'
    try simp only [Act.put, List.setIfInBounds_toArray, List.set_cons_zero, List.set_cons_succ]
    refine wpAnyH_ready (rs := [9]) (by kernel_rfl) (by simp) ?_
    refine AllReadyH.cons rfl (fun K' hK => ?_) AllReadyH.nil
    go_simp
    refine (wholeYes_any dd w5 hdb.1 hdb.2).mono ?_
    rintro e w6 ⟨y, rfl, ⟨A6, c6, rfl, hs6, hf6⟩, hb6⟩
    dsimp only
    have hbW6 : Below W.heap.size W w6 := hbW5.trans (hb6.mono hbW5.size)
    have hv6 := hv.below hbW6 hv.lt
    have a36 := a3.below hbW6 a3.lt
    refine hK.out _ _ ⟨(a36.cell 0).trans rfl, (hv6.cell 0).trans rfl⟩ (fun _ => ?_)
    clear hK K'
    try simp only [Act.put, List.setIfInBounds_toArray, List.set_cons_zero, List.set_cons_succ]
    refine wpAnyH_ready (rs := [10]) (by kernel_rfl) (by simp) ?_
    refine AllReadyH.cons rfl (fun K' hK => ?_) AllReadyH.nil
    go_simp
    refine hK.out _ _ ⟨((a36.alloc _).cell 0).trans rfl, ((hv6.alloc _).cell 0).trans rfl⟩ (fun _ => ?_)
    clear hK K'
    try simp only [Act.put, List.setIfInBounds_toArray, List.set_cons_zero, List.set_cons_succ]
    have hzW6 := hbW6.size
    have hzW5 := hbW5.size
    have hrow6 := own_below hrow hbW6
    have himg6 := himg.below hbW6
    have a66 := a6.below hbW6 a6.lt
    have a76 := a7.below hbW6 a7.lt
    have hrm := row_more (tag := 5) (c := c6) (ps := [be dd 8]) (B' := w5.heap.size) himg6 (by omega) hs6 hf6 (fun g hg => by have := (hrow.lt g hg).2; omega)
    simp only [List.length_cons, List.length_nil, Nat.zero_add, Nat.reduceAdd] at hrm
    have hlaid : Rd (w6.alloc (.cells #[.int .i64 5, .slice A6 1 c6] 106)) (w6.heap.size + 1) 2 (some ⟨w6.heap.size, 0, none⟩) 1 [.int .i64 5, .slice A6 1 c6] := by
      have := Rd.laid w6 #[.int .i64 5, .slice A6 1 c6] 106 2 1 rfl
      simpa using this
    have l1 : ts.length + 1 + 1 ≤ maxLen := by simp [maxLen]; omega
    have l3 : B1 ≤ (w6.alloc (.cells #[.int .i64 5, .slice A6 1 c6] 106)).heap.size := by simp; omega
    refine wpAnyH_ready (rs := [11]) (by kernel_rfl) (by simp) ?_
    refine AllReadyH.cons rfl (fun K' hK => ?_) AllReadyH.nil
    refine step_append_any _ (by rfl) (.tmp 84) (.tmp 94) 158 (by rfl) B1 106 i0 _ 2 32 Try.underlying158 hi0 hz0 hz1 hz2 rfl (by omega) (.slice (some ⟨b, off, none⟩) (ts.length + 1) vc) (ts.length + 1) _ (by rfl) (hrow6.alloc _) (w6.heap.size + 1) _ 1 1 [.int .i64 5, .slice A6 1 c6] (by rfl) hlaid (fun u hu => by simp at hu; rcases hu with rfl | rfl <;> rfl) l1 (by omega) l3 ?_
    intro v' w9 hown' hgrow hat
    obtain ⟨g', cap', rfl⟩ := ownsRow_succ hown'
    have himg9 := hrm.step hgrow hat
    have hgn : ∀ g, some g = (Value.slice (some ⟨b, off, none⟩) (ts.length + 1) vc).ownBlock → B1 ≤ g := fun g e => own_ge hrow g e.symm
    have hv9 := (hv6.alloc (.cells #[.int .i64 5, .slice A6 1 c6] 106)).grown hgrow (fun e => own_neq hrow hv (by decide) e.symm)
    have a39 := (a36.alloc (.cells #[.int .i64 5, .slice A6 1 c6] 106)).grown hgrow (fun e => by have := hgn _ e; omega)
    have a69 := (a66.alloc (.cells #[.int .i64 5, .slice A6 1 c6] 106)).grown hgrow (fun e => by have := hgn _ e; omega)
    have a79 := (a76.alloc (.cells #[.int .i64 5, .slice A6 1 c6] 106)).grown hgrow (fun e => by have := hgn _ e; omega)
    have hbel9 : Below w.heap.size w w9 := ((hbel.trans (hbW6.mono hbel.size)).alloc (by have := hbel.size; omega) (.cells #[.int .i64 5, .slice A6 1 c6] 106)).grown hgrow (by have := hbel.size; simp; omega) (fun k hk => by have := own_ge hrow k hk; omega)
    have hko9 : KeepsOthers W w9 := ((others_of hbW6).trans (KeepsOthers.alloc _ _)).trans (KeepsOthers.of_grownBy hgrow (fun r o e ho => own_cells hrow6 e ho))
    have q39 := (a39.cell 0).trans (show _ = some (Value.int .i64 wd) from rfl)
    have qv9 := (hv9.cell 0).trans (show _ = some (Value.slice (some ⟨b, off, none⟩) (ts.length + 1) vc) from rfl)
    have k6 := (a69.cell 0).trans (show _ = some (Value.slice none 0 0) from rfl)
    have k7 := (a79.cell 0).trans (show _ = some (Value.int .i64 0) from rfl)
    have f6 := a69.frozen 0
    have f7 := a79.frozen 0
    have n6 : ¬ G2 + 1 = w.heap.size + 3 := by omega
    have n7 : ¬ G2 + 1 = w.heap.size + 4 := by omega
    refine hK.out _ _ ⟨q39, qv9⟩ (fun _ => ?_)
    clear hK K'
    try simp only [Act.put, List.setIfInBounds_toArray, List.set_cons_zero, List.set_cons_succ]
    refine wpAnyH_ready (rs := [12]) (by kernel_rfl) (by simp) ?_
    refine AllReadyH.cons rfl (fun K' hK => ?_) AllReadyH.nil
    go_simp
    refine hK.out _ _ ⟨((a39.far (by dsimp only; omega) _).cell 0).trans rfl, ((hv9.far (by dsimp only; omega) _).cell 0).trans rfl⟩ (fun _ => ?_)
    clear hK K'
    try simp only [Act.put, List.setIfInBounds_toArray, List.set_cons_zero, List.set_cons_succ]
    refine wpAnyH_ready (rs := [13]) (by kernel_rfl) (by simp) ?_
    refine AllReadyH.cons rfl (fun K' hK => ?_) AllReadyH.nil
    go_simp
    refine hK.out _ _ ⟨(((a39.far (by dsimp only; omega) _).far (by dsimp only; omega) _).cell 0).trans rfl, (((hv9.far (by dsimp only; omega) _).far (by dsimp only; omega) _).cell 0).trans rfl⟩ (fun _ => ?_)
    clear hK K'
    try simp only [Act.put, List.setIfInBounds_toArray, List.set_cons_zero, List.set_cons_succ]
    refine wpAnyH_done (by kernel_rfl) ?_ _
    refine NoPanic.normal ?_
    go_wp2_with fail
    have h6 := (a69.set_ 0 (.slice (some ⟨g', 0, none⟩) (ts.length + 1 + 1) cap')).far (p := ⟨w.heap.size + 4, 0, none⟩) (by simp) (.int .i64 0)
    have h7 := (a79.far (p := ⟨w.heap.size + 3, 0, none⟩) (by simp) (.slice (some ⟨g', 0, none⟩) (ts.length + 1 + 1) cap')).set_ 0 (.int .i64 0)
    have hkf := (hko9.trans (KeepsOthers.setCell w9 ⟨w.heap.size + 3, 0, none⟩ (.slice (some ⟨g', 0, none⟩) (ts.length + 1 + 1) cap'))).trans (KeepsOthers.setCell _ ⟨w.heap.size + 4, 0, none⟩ (.int .i64 0))
    have hKD2 := hkf.same D _ hKD rfl
    have hkp := fun r (e : some D = some r) => (show ∃ o : Obj, ((w9.setCell ⟨w.heap.size + 3, 0, none⟩ (.slice (some ⟨g', 0, none⟩) (ts.length + 1 + 1) cap')).setCell ⟨w.heap.size + 4, 0, none⟩ (.int .i64 0)).heap[r]? = some o ∧ o.isCells = false from by cases e; exact ⟨_, hKD2, rfl⟩)
    have z6 := ((Blk.kept h6 (grownBy_putObj' _ D (.deferred none)) hkp).cell 0).trans (show _ = some (Value.slice (some ⟨g', 0, none⟩) (ts.length + 1 + 1) cap') from rfl)
    have z7 := ((Blk.kept h7 (grownBy_putObj' _ D (.deferred none)) hkp).cell 0).trans (show _ = some (Value.int .i64 0) from rfl)
    refine ⟨by simp, .inl ⟨_, _, rfl, run_takeDeferred hKD2, ?_⟩⟩
    exact ⟨.tuple #[.slice (some ⟨g', 0, none⟩) (ts.length + 1 + 1) cap', .int .i64 0], by simp [results, Try.results85, go_sem, z6, z7], ((hbel9.setCell (by dsimp only; omega) _).setCell (by dsimp only; omega) _).trans (belowK_b (w := w) (Nat.le_refl _) _ D _ _ (by omega) hKD2 rfl rfl), .inr ⟨hEE.out, .slice (some ⟨g', 0, none⟩) (ts.length + 1 + 1) cap', _, rfl, by rw [hL.out, List.length_append, List.length_reverse, downP_len]; exact own_mono (own_kept (own_set (own_set hown' (by dsimp only; omega) _) (by dsimp only; omega) _) (grownBy_putObj' _ D (.deferred none)) hkp) (by omega), by rw [hL.out]; exact (Imgs.kept (grownBy_putObj' _ D (.deferred none)) hkp (Imgs.setLow (by dsimp only; omega) _ (Imgs.setLow (by dsimp only; omega) _ himg9))).weak (by omega)⟩⟩
  case stop =>
    rintro D c pre W hD hpre ⟨rfl, hno, hbel, a6, a7⟩ hKD
    have hkp := fun r (e : some D = some r) => (show ∃ o : Obj, W.heap[r]? = some o ∧ o.isCells = false from by cases e; exact ⟨_, hKD, rfl⟩)
    have z6 := ((Blk.kept a6 (grownBy_putObj' _ D (.deferred none)) hkp).cell 0).trans (show _ = some (Value.slice none 0 0) from rfl)
    have z7 := ((Blk.kept a7 (grownBy_putObj' _ D (.deferred none)) hkp).cell 0).trans (show _ = some (Value.int .i64 2) from rfl)
    refine wpIn_ret ?_
    refine ⟨by simp, .inl ⟨_, _, rfl, run_takeDeferred hKD, ?_⟩⟩
    exact ⟨.tuple #[.slice none 0 0, .int .i64 2], by simp [results, Try.results85, go_sem, z6, z7], hbel.trans (belowK_b (w := w) (Nat.le_refl _) W D _ _ (by omega) hKD rfl rfl), .inl ⟨by rw [hno]; decide, by rw [hno]⟩⟩
end Go.Proofs.Ytjjkdmngmopjbaa
