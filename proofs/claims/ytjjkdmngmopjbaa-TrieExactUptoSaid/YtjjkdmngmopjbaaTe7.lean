/- The law on trees: what is asked of both trees. -/
import Derived.Test.YtjjkdmngmopjbaaProg
import Derived.Test.YtjjkdmngmopjbaaTe6
import Derived.Test.YtjjkdmngmopjbaaTri19
set_option linter.unusedSimpArgs false
set_option linter.unusedVariables false
namespace Go.Proofs.Ytjjkdmngmopjbaa
open Go.RowKit
set_option linter.unusedSectionVars false
theorem own_capM {w : World} {base : Nat} {e : TypeId} {size n : Nat} {A : Option Addr} {c : Nat} {xs : List Value} (h : w.ownsRow base e size (.slice A n c) n xs) : c ≤ maxLen := by
  rcases h.2 with ⟨e, h0⟩ | ⟨g, cap, cur, e, _, _, h1, h2, _⟩
  · simp only [Value.slice.injEq] at e
    unfold maxLen
    omega
  · simp only [Value.slice.injEq] at e
    omega
theorem Both.up {wd : Int} {W W' : World} {t : Option Tr} {a : Option Addr} {v : Value} (h : Both wd W t a v) (hb : Below W.heap.size W W') : Both wd W' t a v := by
  obtain ⟨h1, h2, h3, base, h4⟩ := h
  exact ⟨h1, h2, h3.up hb, base, own_below h4 hb⟩
theorem Both.shape {wd : Int} {W : World} {t : Option Tr} {a : Option Addr} {v : Value} (h : Both wd W t a v) : ∃ A c, v = .slice A (Tr.oitems t).length c := by
  obtain ⟨_, _, _, base, h4⟩ := h
  exact own_shape h4
theorem Both.parts {wd : Int} {W : World} {t : Option Tr} {a A : Option Addr} {c n : Nat} (h : Both wd W t a (.slice A n c)) (hlen : (Tr.oitems t).length ≤ 1000000000) :
    n = (Tr.oitems t).length ∧ n ≤ c ∧ c ≤ maxLen ∧ ItR W W.heap.size A (Tr.oitems t) ∧ GoodO t ∧ (∀ u, t = some u → lowT u) := by
  obtain ⟨h1, h2, h3, base, h4⟩ := h
  obtain ⟨A', c', e⟩ := own_shape h4
  injection e with e1 e2 e3
  subst e1
  subst e2
  subst e3
  have hlow : ∀ u, t = some u → lowT u := fun u e => by
    subst e
    exact low_of h1 fun x hx => (h2 x hx).1
  refine ⟨rfl, own_cap h4, own_capM h4, Rd.of_own h4, fun u e => ?_, hlow⟩
  have hl := hlow u e
  subst e
  exact ⟨h1, hl, hlen, fun x hx => ⟨by have := (h2 x hx).1; omega, by have := (h2 x hx).2.1; unfold maxLen; omega⟩⟩
theorem both_next {wd : Int} {W : World} {t t' : Option Tr} {a' : Option Addr} {u : Value} {k v : Key} {base : Nat} (hok : Tr.ook t) (hkl : ∀ x, x ∈ Tr.oitems t → x.1.length ≤ 32 ∧ x.2.length ≤ 4096 ∧ x.2 ≠ []) (hokS : okS k v = true) (h1 : Tr.ook t') (h2 : Tr.oitems t' = putL k v (Tr.oitems t)) (h3 : OTrR wd W W.heap.size t' a') (h4 : W.ownsRow base 132 2 u (putL k v (Tr.oitems t)).length (itemCells (putL k v (Tr.oitems t)))) :
    Both wd W t' a' u ∧ (Tr.oitems t').length ≤ (Tr.oitems t).length + 1 := by
  refine ⟨⟨h1, ?_, h3, base, by rw [h2]; exact h4⟩, by rw [h2]; exact putL_len _⟩
  rw [h2]
  refine putL_all (P := fun x => x.1.length ≤ 32 ∧ x.2.length ≤ 4096 ∧ x.2 ≠ []) (Tr.osorted t hok) (fun hne => ?_) hkl
  unfold okS at hokS
  simp at hokS
  exact ⟨hokS.1, hokS.2, hne⟩
def prvE (k : Key) : Int := if 32 < k.length then 3 else 0
def PrvP (wd : Int) (k : Key) (t : Option Tr) (W : World) (e : Ending) (w' : World) : Prop := ∃ (ts : List TurnD) (tA : Option Addr) (tc : Nat) (lf : Bool) (pk pv : Key), e = .returned (.tuple #[.agg #[.slice tA ts.length tc, .bool lf, .string (bs pk), .string (bs pv)], .int .i64 (prvE k)]) ∧ PrvX wd k t ⟨ts, tA, tc, lf, pk, pv⟩ ∧ ProofD.held w' w'.heap.size ⟨ts, tA, tc, lf, pk, pv⟩ ∧ Below W.heap.size W w'
def AtP (W : World) (N : Nod) (E : Int) (e : Ending) (w' : World) : Prop := e = .returned (.tuple #[.agg #[.int .i64 N.kind, .string (bs N.key), .string (bs N.value), .int .i64 N.pos, .int .u64 N.left, .int .u64 N.right], .int .i64 E]) ∧ Below W.heap.size W w'
/-- a variable of the program's tree set anew -/
def set2 (W : World) (g : Nat) (D : Int) (a : Option Addr) : World := (W.setCell ⟨g, 0, none⟩ (.int .i64 D)).setCell ⟨g, 1, none⟩ (.pointer a)
section
variable {W : World} {g : Nat} {D : Int} {a : Option Addr}
theorem set2_blk {b : Nat} {t : TypeId} {cs : Array Value} (h : Blk W b t cs) (n1 : b ≠ g) : Blk (set2 W g D a) b t cs :=
  (h.far (p := ⟨g, 0, none⟩) (by simpa using n1) _).far (p := ⟨g, 1, none⟩) (by simpa using n1) _
theorem set2_size : (set2 W g D a).heap.size = W.heap.size := by simp [set2, World.setCell]
theorem set2_below {B : Nat} {w : World} (h : Below B w W) (hB : B ≤ g) : Below B w (set2 W g D a) :=
  (h.setCell (p := ⟨g, 0, none⟩) hB _).setCell (p := ⟨g, 1, none⟩) hB _
theorem set2_tree {x0 x1 : Value} (h9 : Blk W g 53 #[x0, x1]) {wd : Int} {t : Option Tr} {B : Nat} {a0 : Option Addr} (ht : OTrR wd W B t a0) : OTrR wd (set2 W g D a) B t a0 :=
  (ht.far2 h9 (by decide) (p := ⟨g, 0, none⟩) rfl (.int .i64 D)).far2 (h9.set_ 0 (.int .i64 D)) (by decide) (p := ⟨g, 1, none⟩) rfl (.pointer a)
theorem set2_both {x0 x1 : Value} (h9 : Blk W g 53 #[x0, x1]) {wd : Int} {t : Option Tr} {a0 : Option Addr} {v : Value} (h : Both wd W t a0 v) : Both wd (set2 W g D a) t a0 v := by
  obtain ⟨h1, h2, h3, base, h4⟩ := h
  refine ⟨h1, h2, ?_, base, ?_⟩
  · rw [set2_size]
    exact set2_tree h9 h3
  · exact own_farT (own_farT h4 h9 (by decide) (p := ⟨g, 0, none⟩) rfl (.int .i64 D)) (h9.set_ 0 (.int .i64 D)) (by decide) (p := ⟨g, 1, none⟩) rfl (.pointer a)
end
theorem blk_six {W : World} {g : Nat} {t : TypeId} {c0 c1 c2 c3 c4 c5 : Value} (h : Blk W g t #[c0, c1, c2, c3, c4, c5]) (v0 v1 v2 v3 v4 v5 : Value) : Blk ((((((W.setCell ⟨g, 0, none⟩ v0).setCell ⟨g, 1, none⟩ v1).setCell ⟨g, 2, none⟩ v2).setCell ⟨g, 3, none⟩ v3).setCell ⟨g, 4, none⟩ v4).setCell ⟨g, 5, none⟩ v5) g t #[v0, v1, v2, v3, v4, v5] :=
  (((((h.set_ 0 v0).set_ 1 v1).set_ 2 v2).set_ 3 v3).set_ 4 v4).set_ 5 v5
theorem below_six {B : Nat} {w W : World} {g : Nat} (h : Below B w W) (hg : B ≤ g) (v0 v1 v2 v3 v4 v5 : Value) : Below B w ((((((W.setCell ⟨g, 0, none⟩ v0).setCell ⟨g, 1, none⟩ v1).setCell ⟨g, 2, none⟩ v2).setCell ⟨g, 3, none⟩ v3).setCell ⟨g, 4, none⟩ v4).setCell ⟨g, 5, none⟩ v5) :=
  (((((h.setCell (p := ⟨g, 0, none⟩) hg v0).setCell (p := ⟨g, 1, none⟩) hg v1).setCell (p := ⟨g, 2, none⟩) hg v2).setCell (p := ⟨g, 3, none⟩) hg v3).setCell (p := ⟨g, 4, none⟩) hg v4).setCell (p := ⟨g, 5, none⟩) hg v5
/-- both variables set anew -/
def set4 (W : World) (G : Nat) (D : Int) (a : Option Addr) (u : Value) : World := (((W.setCell ⟨G, 0, none⟩ (.int .i64 D)).setCell ⟨G, 1, none⟩ (.pointer a)).setCell ⟨G + 1, 0, none⟩ (.int .i64 D)).setCell ⟨G + 1, 1, none⟩ u
section
variable {W : World} {G : Nat} {D : Int} {a : Option Addr} {u : Value}
theorem set4_blk {b : Nat} {t : TypeId} {cs : Array Value} (h : Blk W b t cs) (n1 : b ≠ G) (n2 : b ≠ G + 1) : Blk (set4 W G D a u) b t cs :=
  (((h.far (p := ⟨G, 0, none⟩) (by simpa using n1) _).far (p := ⟨G, 1, none⟩) (by simpa using n1) _).far (p := ⟨G + 1, 0, none⟩) (by simpa using n2) _).far (p := ⟨G + 1, 1, none⟩) (by simpa using n2) _
variable {x0 x1 y0 y1 : Value} (h5 : Blk W G 53 #[x0, x1]) (h6 : Blk W (G + 1) 57 #[y0, y1])
include h5 h6
theorem set4_one : Blk (set4 W G D a u) G 53 #[.int .i64 D, .pointer a] :=
  ((((h5.set_ 0 (.int .i64 D)).set_ 1 (.pointer a)).far (p := ⟨G + 1, 0, none⟩) (by simp) _).far (p := ⟨G + 1, 1, none⟩) (by simp) _)
theorem set4_two : Blk (set4 W G D a u) (G + 1) 57 #[.int .i64 D, u] :=
  (((h6.far (p := ⟨G, 0, none⟩) (by simp) _).far (p := ⟨G, 1, none⟩) (by simp) _).set_ 0 (.int .i64 D)).set_ 1 u
theorem set4_tree {wd : Int} {t : Option Tr} {B : Nat} {a0 : Option Addr} (ht : OTrR wd W B t a0) : OTrR wd (set4 W G D a u) B t a0 := by
  have h1 := h5.set_ 0 (.int .i64 D)
  have g2 := ((h6.far (p := ⟨G, 0, none⟩) (by simp) (.int .i64 D)).far (p := ⟨G, 1, none⟩) (by simp) (.pointer a))
  exact ((((ht.far2 h5 (by decide) (p := ⟨G, 0, none⟩) rfl (.int .i64 D)).far2 h1 (by decide) (p := ⟨G, 1, none⟩) rfl (.pointer a)).far2 g2 (by decide) (p := ⟨G + 1, 0, none⟩) rfl (.int .i64 D)).far2 (g2.set_ 0 (.int .i64 D)) (by decide) (p := ⟨G + 1, 1, none⟩) rfl u)
theorem set4_own {base n : Nat} {v : Value} {xs : List Value} (ho : W.ownsRow base 132 2 v n xs) : (set4 W G D a u).ownsRow base 132 2 v n xs := by
  have h1 := h5.set_ 0 (.int .i64 D)
  have g2 := ((h6.far (p := ⟨G, 0, none⟩) (by simp) (.int .i64 D)).far (p := ⟨G, 1, none⟩) (by simp) (.pointer a))
  exact own_farT (own_farT (own_farT (own_farT ho h5 (by decide) (p := ⟨G, 0, none⟩) rfl (.int .i64 D)) h1 (by decide) (p := ⟨G, 1, none⟩) rfl (.pointer a)) g2 (by decide) (p := ⟨G + 1, 0, none⟩) rfl (.int .i64 D)) (g2.set_ 0 (.int .i64 D)) (by decide) (p := ⟨G + 1, 1, none⟩) rfl u
omit h5 h6
theorem set4_size : (set4 W G D a u).heap.size = W.heap.size := by simp [set4, World.setCell]
theorem set4_below {B : Nat} {w : World} (h : Below B w W) (hB : B ≤ G) : Below B w (set4 W G D a u) :=
  (((h.setCell (p := ⟨G, 0, none⟩) hB _).setCell (p := ⟨G, 1, none⟩) hB _).setCell (p := ⟨G + 1, 0, none⟩) (Nat.le_succ_of_le hB) _).setCell (p := ⟨G + 1, 1, none⟩) (Nat.le_succ_of_le hB) _
end
section
variable {wd : Int} {W : World} {t : Option Tr} {a A : Option Addr} {c n : Nat}
theorem Both.get (h : Both wd W t a (.slice A n c)) (hlen : (Tr.oitems t).length ≤ 1000000000) (k : Key) (hk : k.length ≤ 1000000000) :
    Calls Try.prog 17 #[.agg #[.int .i64 wd, .pointer a], .string (bs k)] W fun e w' => e = .returned (.string (bs (getL k (Tr.oitems t)))) ∧ Below W.heap.size W w' :=
  get_any wd k t a W hk h.1 (h.parts hlen).2.2.2.2.2 h.2.2.1
theorem Both.rget (h : Both wd W t a (.slice A n c)) (hlen : (Tr.oitems t).length ≤ 1000000000) (k : Key) :
    Calls Try.prog 18 #[.agg #[.int .i64 wd, .slice A n c], .string (bs k)] W fun e w' => e = .returned (.string (bs (getL k (Tr.oitems t)))) ∧ Below W.heap.size W w' := by
  obtain ⟨rfl, h1, h2, h3, _⟩ := h.parts hlen
  exact rget_any wd k A _ c _ W h3 (Nat.le_refl _) hlen
theorem Both.root (h : Both wd W t a (.slice A n c)) :
    Calls Try.prog 19 #[.agg #[.int .i64 wd, .pointer a]] W fun e w' => e = .returned (.int .u64 (rootT wd t)) ∧ Below W.heap.size W w' :=
  rootT_any wd t a W h.2.2.1
theorem Both.rroot (h : Both wd W t a (.slice A n c)) (hlen : (Tr.oitems t).length ≤ 1000000000) :
    Calls Try.prog 20 #[.agg #[.int .i64 wd, .slice A n c]] W fun e w' => e = .returned (.int .u64 (rootT wd t)) ∧ Below W.heap.size W w' := by
  obtain ⟨h0, h1, h2, h3, h4, _⟩ := h.parts hlen
  exact rrootT_any wd t h4 A n c _ W h0.symm h3 (Nat.le_refl _) h1 h2
theorem Both.items (h : Both wd W t a (.slice A n c)) (hlen : (Tr.oitems t).length ≤ 1000000000) (k : Key) (m : Int) (hk : k.length ≤ 1000000000) :
    Calls Try.prog 21 #[.agg #[.int .i64 wd, .pointer a], .string (bs k), .int .i64 m] W fun e w' => ∃ A' c', e = .returned (.slice A' (someL k m (Tr.oitems t)).length c') ∧ ItR w' w'.heap.size A' (someL k m (Tr.oitems t)) ∧ Below W.heap.size W w' := by
  refine (items_any wd k m t a W hk (h.parts hlen).2.2.2.2.2 h.1 hlen h.2.2.1).mono ?_
  rintro e w' ⟨v, rfl, ho, hb⟩
  obtain ⟨A', c', rfl⟩ := own_shape ho
  exact ⟨A', c', rfl, Rd.of_own ho, hb⟩
theorem Both.rsome (h : Both wd W t a (.slice A n c)) (hlen : (Tr.oitems t).length ≤ 1000000000) (k : Key) (m : Int) :
    Calls Try.prog 22 #[.agg #[.int .i64 wd, .slice A n c], .string (bs k), .int .i64 m] W fun e w' => ∃ A' c', e = .returned (.slice A' (someL k m (Tr.oitems t)).length c') ∧ ItR w' w'.heap.size A' (someL k m (Tr.oitems t)) ∧ Below W.heap.size W w' := by
  obtain ⟨rfl, h1, h2, h3, _⟩ := h.parts hlen
  refine (rsome_any wd k m A _ c _ W h3 (Nat.le_refl _) hlen).mono ?_
  rintro e w' ⟨v, rfl, ho, hb⟩
  obtain ⟨A', c', rfl⟩ := own_shape ho
  exact ⟨A', c', rfl, Rd.of_own ho, hb⟩
theorem Both.prv (h : Both wd W t a (.slice A n c)) (k : Key) :
    Calls Try.prog 24 #[.agg #[.int .i64 wd, .pointer a], .string (bs k)] W (PrvP wd k t W) := by
  refine (proveX_any wd k t a W h.1 (fun y hy => (h.2.1 y hy).1) h.2.2.1).mono ?_
  rintro e w' ⟨⟨ts, tA, tc, lf, pk, pv⟩, rfl, h1, h2, h3⟩
  exact ⟨ts, tA, tc, lf, pk, pv, rfl, h1, h2, h3⟩
theorem Both.rprv (h : Both wd W t a (.slice A n c)) (hlen : (Tr.oitems t).length ≤ 1000000000) (k : Key) :
    Calls Try.prog 25 #[.agg #[.int .i64 wd, .slice A n c], .string (bs k)] W (PrvP wd k t W) := by
  obtain ⟨h0, h1, h2, h3, h4, _⟩ := h.parts hlen
  refine (rproveX_any wd k t A n c _ W h4 h.1 (fun y hy => (h.2.1 y hy).1) h0.symm h3 (Nat.le_refl _) h1 h2).mono ?_
  rintro e w' ⟨⟨ts, tA, tc, lf, pk, pv⟩, rfl, h1, h2, h3⟩
  exact ⟨ts, tA, tc, lf, pk, pv, rfl, h1, h2, h3⟩
theorem Both.tat (h : Both wd W t a (.slice A n c)) (s : Key) (hs : s.length ≤ 1000000000) :
    Calls Try.prog 27 #[.agg #[.int .i64 wd, .pointer a], .string (bs s)] W (AtP W (atN wd t s) (atE t s)) :=
  tat_any wd t a s W hs h.2.2.1
theorem Both.rat (h : Both wd W t a (.slice A n c)) (hlen : (Tr.oitems t).length ≤ 1000000000) (s : Key) (hs : s.length ≤ 1000000000) :
    Calls Try.prog 28 #[.agg #[.int .i64 wd, .slice A n c], .string (bs s)] W (AtP W (atN wd t s) (atE t s)) := by
  obtain ⟨h0, h1, h2, h3, h4, _⟩ := h.parts hlen
  exact rat_any wd t A n c _ s W hs h4 h0.symm h3 (Nat.le_refl _) h1 h2
end
theorem sameTwo {wd : Int} {k : Key} {t : Option Tr} {ts ts' : List TurnD} {A A' : Option Addr} {c c' : Nat} {f f' : Bool} {pk pk' pv pv' : Key} {B B' : Nat} {w : World} (h1 : PrvX wd k t ⟨ts, A, c, f, pk, pv⟩) (h2 : PrvX wd k t ⟨ts', A', c', f', pk', pv'⟩) (g1 : ProofD.held w B ⟨ts, A, c, f, pk, pv⟩) (g2 : ProofD.held w B' ⟨ts', A', c', f', pk', pv'⟩) (hB : B ≤ w.heap.size) (hB' : B' ≤ w.heap.size) :
    Calls Try.prog 26 #[.agg #[.slice A ts.length c, .bool f, .string (bs pk), .string (bs pv)], .agg #[.slice A' ts'.length c', .bool f', .string (bs pk'), .string (bs pv')]] w fun e w' => e = .returned (.bool true) ∧ Below w.heap.size w w' := by
  obtain ⟨e1, e2, e3, e4⟩ := h1.same h2
  exact sameProof_any ⟨ts, A, c, f, pk, pv⟩ ⟨ts', A', c', f', pk', pv'⟩ B B' w e1 e2 e3 e4 g1 g2 hB hB'
end Go.Proofs.Ytjjkdmngmopjbaa
