/- Of the texts Tri18. -/
import Derived.Test.YtjjkdmngmopjbaaProg
import Derived.Test.YtjjkdmngmopjbaaG22
import Derived.Deep.RegionHeld3
import Derived.Deep.Cut
import Derived.Deep.CutRange
namespace Go.Proofs.Ytjjkdmngmopjbaa
open Go.RowKit
theorem TrR.far2 {wd : Int} {W : World} {g : Nat} {t0 : TypeId} {cs : Array Value} (hg : Blk W g t0 cs) (hne : 126 ≠ t0) {p : Addr} (hp : p.block = g) (u : Value) : ∀ {t : Tr} {B q : Nat}, TrR wd W B t q → TrR wd (W.setCell p u) B t q
  | .leaf k v, B, q, h => ⟨h.1, h.2.far (fun e => Blk.ne_ h.2 hg hne (e.trans hp)) u⟩
  | .fork _ l r, B, q, h => by
    obtain ⟨h1, a, b, h2, h3, h4⟩ := h
    exact ⟨h1, a, b, h2.far (fun e => Blk.ne_ h2 hg hne (e.trans hp)) u, h3.far2 hg hne hp u, h4.far2 hg hne hp u⟩
theorem OTrR.far2 {wd : Int} {W : World} {g : Nat} {t0 : TypeId} {cs : Array Value} (hg : Blk W g t0 cs) (hne : 126 ≠ t0) {p : Addr} (hp : p.block = g) (u : Value) : ∀ {t : Option Tr} {B : Nat} {a : Option Addr}, OTrR wd W B t a → OTrR wd (W.setCell p u) B t a
  | none, _, _, h => h
  | some _, _, _, ⟨q, e, h⟩ => ⟨q, e, h.far2 hg hne hp u⟩
theorem TrR.drew {wd : Int} {W : World} : ∀ {t : Tr} {B q : Nat}, TrR wd W B t q → TrR wd W.drew B t q
  | .leaf k v, B, q, h => ⟨h.1, h.2.drew⟩
  | .fork _ l r, B, q, h => by
    obtain ⟨h1, a, b, h2, h3, h4⟩ := h
    exact ⟨h1, a, b, h2.drew, h3.drew, h4.drew⟩
theorem OTrR.drew {wd : Int} {W : World} : ∀ {t : Option Tr} {B : Nat} {a : Option Addr}, OTrR wd W B t a → OTrR wd W.drew B t a
  | none, _, _, h => h
  | some _, _, _, ⟨q, e, h⟩ => ⟨q, e, h.drew⟩
theorem own_farT {W : World} {base size n g : Nat} {e t : TypeId} {v : Value} {xs : List Value} {cs : Array Value} (h : W.ownsRow base e size v n xs) (hg : Blk W g t cs) (hne : t ≠ e) {p : Addr} (hp : p.block = g) (u : Value) : (W.setCell p u).ownsRow base e size v n xs :=
  h.kept (grown_set W p u) (.inr fun hh => by
    rcases h.2 with ⟨rfl, _⟩ | ⟨g', cap, cur, rfl, _, hgb, _⟩
    · simp [Value.ownBlock] at hh
    · have e' : g' = p.block := by simpa [Value.ownBlock] using hh
      unfold Blk at hg
      rw [← hp, ← e', hgb] at hg
      injection hg with hg
      injection hg with _ ht
      exact hne ht.symm)
/-- may it be put in? -/
def okS (k v : Key) : Bool := decide (k.length ≤ 32) && decide (v.length ≤ 4096)
def erS (k v : Key) : Int := if okS k v then 0 else 3
/-- what Put hands back -/
def PutF (wd : Int) (k v : Key) (t : Option Tr) (x : Int) (a' : Option Addr) (W : World) : Prop :=
  okS k v = true → x = wd ∧ ∃ t', Tr.ook t' ∧ Tr.oitems t' = putL k v (Tr.oitems t) ∧ OTrR wd W W.heap.size t' a'
theorem putB_any (wd : Int) (k v : Key) (t : Option Tr) (a : Option Addr) (w : World) (hok : Tr.ook t) (hkl : ∀ x, x ∈ Tr.oitems t → x.1.length ≤ 32) (h : OTrR wd w w.heap.size t a) :
    Calls Try.prog 15 #[.agg #[.int .i64 wd, .pointer a], .string (bs k), .string (bs v)] w fun e w' => ∃ a' x, e = .returned (.tuple #[.agg #[.int .i64 x, .pointer a'], .int .i64 (erS k v)]) ∧ PutF wd k v t x a' w' ∧ Below w.heap.size w w' := by
  unfold erS PutF
  cases hb : okS k v
  · refine (putLong_any wd k v a w ?_).mono ?_
    · unfold okS at hb
      simp at hb
      omega
    · rintro e w' ⟨rfl, hb⟩
      exact ⟨_, _, rfl, fun h => (by cases h), hb⟩
  · have h2 : k.length ≤ 32 ∧ v.length ≤ 4096 := by
      unfold okS at hb
      simpa using hb
    refine (put_any wd k v t a w h2.1 h2.2 hok hkl h).mono ?_
    rintro e w' ⟨t', a', rfl, h3, h4, h5, h6⟩
    exact ⟨a', wd, rfl, fun _ => ⟨rfl, t', h3, h4, h5⟩, h6⟩
def RPutF (wd : Int) (k v : Key) (l : List Ent) (x : Int) (u : Value) (W : World) : Prop :=
  okS k v = true → x = wd ∧ ∃ base, W.ownsRow base 132 2 u (putL k v l).length (itemCells (putL k v l))
theorem rputB_any (wd : Int) (k v : Key) (u : Value) (base : Nat) (l : List Ent) (w : World) (hl : w.ownsRow base 132 2 u l.length (itemCells l)) (hlen : l.length ≤ 100000000) :
    Calls Try.prog 16 #[.agg #[.int .i64 wd, u], .string (bs k), .string (bs v)] w fun e w' => ∃ uA un uc x, e = .returned (.tuple #[.agg #[.int .i64 x, .slice uA un uc], .int .i64 (erS k v)]) ∧ RPutF wd k v l x (.slice uA un uc) w' ∧ Below w.heap.size w w' := by
  obtain ⟨A, c, rfl⟩ := own_shape hl
  unfold erS RPutF
  cases hb : okS k v
  · refine (rputLong_any wd k v A l.length c w ?_).mono ?_
    · unfold okS at hb
      simp at hb
      omega
    · rintro e w' ⟨rfl, hb⟩
      exact ⟨_, _, _, _, rfl, fun h => (by cases h), hb⟩
  · have h2 : k.length ≤ 32 ∧ v.length ≤ 4096 := by
      unfold okS at hb
      simpa using hb
    refine (rput_any wd k v A l c w h2.1 h2.2 (Rd.of_own hl) hlen).mono ?_
    rintro e w' ⟨u', rfl, h3, h4⟩
    obtain ⟨uA, uc, rfl⟩ := own_shape h3
    exact ⟨_, _, _, wd, rfl, fun _ => ⟨rfl, _, h3⟩, h4⟩
/-- a tree and the answer's, with the same in both, in two variables -/
def Both (wd : Int) (W : World) (t : Option Tr) (a : Option Addr) (v : Value) : Prop :=
  Tr.ook t ∧ (∀ x, x ∈ Tr.oitems t → x.1.length ≤ 32 ∧ x.2.length ≤ 4096 ∧ x.2 ≠ []) ∧ OTrR wd W W.heap.size t a ∧ ∃ base, W.ownsRow base 132 2 v (Tr.oitems t).length (itemCells (Tr.oitems t))
set_option maxRecDepth 100000 in
set_option maxHeartbeats 8000000 in
theorem grown_any (wd : Int) (l : List Ent) (A : Option Addr) (c : Nat) (w : World) (hl : ItR w w.heap.size A l) (hlen : l.length ≤ 1024) :
    Calls Try.prog 42 #[.int .i64 wd, .slice A l.length c] w fun e w' => ∃ t a v, e = .returned (.tuple #[treeV wd a, rtreeV wd v]) ∧ (Tr.oitems t).length ≤ 1024 ∧ Both wd w' t a v ∧ Below w.heap.size w w' := by
  have hB0 : Below w.heap.size w ((w.alloc (.cells #[.int .i64 0, .pointer none] 53)).alloc (.cells #[.int .i64 0, .slice none 0 0] 57)) := ((Below.refl _ _).alloc (Nat.le_refl _) _).alloc (by simp) _
  have hP : Blk ((w.alloc (.cells #[.int .i64 0, .pointer none] 53)).alloc (.cells #[.int .i64 0, .slice none 0 0] 57)) w.heap.size 53 #[.int .i64 0, .pointer none] := (Blk.new w 53 #[.int .i64 0, .pointer none]).alloc _
  have hQ : Blk ((w.alloc (.cells #[.int .i64 0, .pointer none] 53)).alloc (.cells #[.int .i64 0, .slice none 0 0] 57)) (w.heap.size + 1) 57 #[.int .i64 0, .slice none 0 0] := by
    have := Blk.new (w.alloc (.cells #[.int .i64 0, .pointer none] 53)) 57 #[.int .i64 0, .slice none 0 0]
    simpa using this
  have hnew := fun W => new_any wd W
  unfold treeV rtreeV at *
  generalize hw0 : ((w.alloc (.cells #[.int .i64 0, .pointer none] 53)).alloc (.cells #[.int .i64 0, .slice none 0 0] 57)) = w0 at *
  go_enter Try.func42, Try.ntmps42
  go_wp2_with fail
  refine (hnew _).mono ?_
  rintro e w1 ⟨rfl, hb1⟩
  go_wp2_with fail
  have hzw0 : w.heap.size + 2 ≤ w1.heap.size := by have := hb1.size; have := hQ.lt; omega
  have hb01 : Below (w.heap.size + 2) w0 w1 := hb1.mono (by have := hQ.lt; omega)
  obtain ⟨G, hG⟩ : ∃ G, G = w1.heap.size := ⟨_, rfl⟩
  rw [← hG] at hzw0
  have hs6 : Blk ((w1.alloc (.cells #[.int .i64 wd, .pointer none] 53)).alloc (.cells #[.int .i64 wd, .slice none 0 0] 57)) G 53 #[.int .i64 wd, .pointer none] := by rw [hG]; exact (Blk.new _ _ _).alloc _
  have hs7 : Blk ((w1.alloc (.cells #[.int .i64 wd, .pointer none] 53)).alloc (.cells #[.int .i64 wd, .slice none 0 0] 57)) (G + 1) 57 #[.int .i64 wd, .slice none 0 0] := by
    have := Blk.new (w1.alloc (.cells #[.int .i64 wd, .pointer none] 53)) 57 #[.int .i64 wd, .slice none 0 0]
    rw [World.size_alloc, ← hG] at this
    exact this
  have hsb : Below (w.heap.size + 2) w0 ((w1.alloc (.cells #[.int .i64 wd, .pointer none] 53)).alloc (.cells #[.int .i64 wd, .slice none 0 0] 57)) := (hb01.alloc (by omega) _).alloc (by simp; omega) _
  rw [← hG]
  clear hG hb01 hb1 hnew
  go_loopw [8] (fun z wr => ∃ (i : Nat) (t : Option Tr) (a : Option Addr) (v : Value), z = .int .i64 (i : Int) ∧ i ≤ l.length ∧ Blk wr G 53 #[.int .i64 wd, .pointer a] ∧ Blk wr (G + 1) 57 #[.int .i64 wd, v] ∧ Both wd wr t a v ∧ (Tr.oitems t).length ≤ i ∧ Below (w.heap.size + 2) w0 wr) (fun z _ => l.length - (intOf z).toNat)
  case atStart => exact ⟨0, none, none, _, rfl, by omega, hs6, hs7, ⟨trivial, fun x hx => (by cases hx), rfl, ⟨0, World.ownsRow_nil _ _ _ _⟩⟩, by simp [Tr.oitems], hsb⟩
  case round =>
    clear hs6 hs7 hsb
    obtain ⟨i, t, a, v, rfl, hi, h6, h7, ⟨hok, hkl, ht, base, hv⟩, hil, hb⟩ := hrel
    have hz := hb.size
    by_cases hlt : i < l.length
    · have hii : (i : Int) < (l.length : Int) := by omega
      have hl2 : ItR wr w.heap.size A l := (hl.below hB0).below (hb.mono (by omega))
      obtain ⟨xb, xo, rfl, hxb, x0, x1⟩ := hl2.at_ hlt
      generalize l[i] = x at *
      obtain ⟨xk, xv⟩ := x
      simp only at x0 x1
      have c60 := (h6.cell 0).trans (show _ = some (Value.int .i64 wd) from rfl)
      have c61 := (h6.cell 1).trans (show _ = some (Value.pointer a) from rfl)
      have KS := Lib.hid (fun (W : World) (h : Below wr.heap.size wr W) => (show (W.cell? ⟨G, 0, none⟩ = some (.int .i64 wd) ∧ W.cell? ⟨G, 1, none⟩ = some (.pointer a) ∧ W.cell? ⟨xb, xo + i * 2, none⟩ = some (.string (bs xk)) ∧ W.cell? ⟨xb, xo + i * 2 + 1, none⟩ = some (.string (bs xv))) ∧ Below wr.heap.size wr W from ⟨⟨(h.cell (p := ⟨G, 0, none⟩) h6.lt).trans c60, (h.cell (p := ⟨G, 1, none⟩) h6.lt).trans c61, (h.cell (p := ⟨xb, xo + i * 2, none⟩) (by show xb < _; have := h6.lt; omega)).trans x0, (h.cell (p := ⟨xb, xo + i * 2 + 1, none⟩) (by show xb < _; have := h6.lt; omega)).trans x1⟩, h⟩))
      have HP := Lib.hid (fun (W : World) (h : Below wr.heap.size wr W) => putB_any wd xk xv t a W hok (fun x hx => (hkl x hx).1) (ht.up h))
      obtain ⟨ER, hER⟩ : ∃ ER, ER = erS xk xv := ⟨_, rfl⟩
      rw [← hER] at HP
      have HER := Lib.hid hER
      clear hER
      have hN : Blk (wr.alloc (.cells #[.int .i64 0, .pointer none] 53)) wr.heap.size 53 #[.int .i64 0, .pointer none] := Blk.new _ _ _
      go_upto_region 6 with fail
      go_cut [9, 10] from 17 to 58 (fun p e wx => ∃ (g9 : Nat) (a' : Option Addr) (x : Int), p = .pointer (some ⟨g9, 0, none⟩) ∧ e = .int .i64 ER ∧ wr.heap.size ≤ g9 ∧ Blk wx g9 53 #[.int .i64 x, .pointer a'] ∧ PutF wd xk xv t x a' wx ∧ Below wr.heap.size wr wx)
      case first =>
        go_region_held3 (fun W => (W.cell? ⟨G, 0, none⟩ = some (.int .i64 wd) ∧ W.cell? ⟨G, 1, none⟩ = some (.pointer a) ∧ W.cell? ⟨xb, xo + i * 2, none⟩ = some (.string (bs xk)) ∧ W.cell? ⟨xb, xo + i * 2 + 1, none⟩ = some (.string (bs xv))) ∧ Below wr.heap.size wr W) (refine KS.out _ ?_ <;> first | exact Below.refl _ _ | exact Below.drew (Below.refl _ _) | exact And.right (by assumption) | exact Below.drew (And.right (by assumption)) | exact callBelow (And.right (by assumption)) (by assumption) | exact boxBelow (And.right (by assumption)) _ | exact boxBelow hk2.out _ | exact (hk2.out.setCell (by simp) _).setCell (by simp) _) (first
          | (go_at_call 15
             with_reducible refine (HP.out _ (by first | exact Below.drew (Below.refl _ _) | exact And.right (by assumption))).mono ?_
             rintro e w2 ⟨a', x, rfl, hpf, hb2⟩
             have hk2 : Hid (Below wr.heap.size wr w2) := callBelow (by first | exact Below.drew (Below.refl _ _) | exact And.right (by assumption)) hb2
             try
               have hN2 := Blk.below (Blk.drew hN) hb2 (by simp)
               have n0 := (hN2.cell 0).trans (show _ = some (Value.int .i64 0) from rfl)
               have n1 := (hN2.cell 1).trans (show _ = some (Value.pointer none) from rfl)
               have nf0 := hN2.frozen 0
               have nf1 := hN2.frozen 1))
        all_goals
          go_wp2_with fail
          go_meet
          case rel =>
            first
              | exact ⟨_, a', x, rfl, rfl, hk2.out.size, Blk.new _ _ _, fun h => (by obtain ⟨e1, t', e2, e3, e4⟩ := hpf h; exact ⟨e1, t', e2, e3, e4.up ((Below.refl _ _).alloc (Nat.le_refl _) _)⟩), boxBelow hk2.out _⟩
              | exact ⟨_, a', x, rfl, rfl, Nat.le_refl _, (hN2.set_ 0 _).set_ 1 _, fun h => (by obtain ⟨e1, t', e2, e3, e4⟩ := hpf h; exact ⟨e1, t', e2, e3, OTrR.put hN2 _ _ e4⟩), (hk2.out.setCell (by simp) _).setCell (by simp) _⟩
      case rest =>
        clear KS HP hN
        obtain ⟨g9, a', x, rfl, rfl, hg9, h9, hpf, hbc⟩ := hcut
        have hc6 := h6.below hbc h6.lt
        have hc7 := h7.below hbc h7.lt
        have hct := ht.up hbc
        have hcv := own_below hv hbc
        have hcb := hb.trans (hbc.mono (by have := h6.lt; omega))
        have x00 := (hb.cell (p := ⟨xb, xo + i * 2, none⟩) (by show xb < _; omega)).symm.trans x0
        have x01 := (hb.cell (p := ⟨xb, xo + i * 2 + 1, none⟩) (by show xb < _; omega)).symm.trans x1
        clear c60 c61 h6 h7 ht hv hb hbc hz x0 x1
        cases hokS : okS xk xv
        · have hE3 : ER = 3 := by rw [HER.out]; unfold erS; rw [hokS]; rfl
          subst hE3
          have d6 := hc6
          have d7 := hc7
          have dt := hct
          have dv := hcv
          have db := hcb
          go_upto_region 9 with fail
          clear hc6 hc7 hct hcv hcb h9 hpf
          generalize hWc : wc = W2 at *
          clear hWc
          have d60 := (d7.cell 0).trans (show _ = some (Value.int .i64 wd) from rfl)
          have d61 := (d7.cell 1).trans (show _ = some v from rfl)
          have dx0 := (db.cell (p := ⟨xb, xo + i * 2, none⟩) (by show xb < _; omega)).trans x00
          have dx1 := (db.cell (p := ⟨xb, xo + i * 2 + 1, none⟩) (by show xb < _; omega)).trans x01
          have dlt := d7.lt
          have KS := Lib.hid (fun (W : World) (h : Below W2.heap.size W2 W) => (show (W.cell? ⟨G + 1, 0, none⟩ = some (.int .i64 wd) ∧ W.cell? ⟨G + 1, 1, none⟩ = some v ∧ W.cell? ⟨xb, xo + i * 2, none⟩ = some (.string (bs xk)) ∧ W.cell? ⟨xb, xo + i * 2 + 1, none⟩ = some (.string (bs xv))) ∧ Below W2.heap.size W2 W from ⟨⟨(h.cell (p := ⟨G + 1, 0, none⟩) dlt).trans d60, (h.cell (p := ⟨G + 1, 1, none⟩) dlt).trans d61, (h.cell (p := ⟨xb, xo + i * 2, none⟩) (by show xb < _; omega)).trans dx0, (h.cell (p := ⟨xb, xo + i * 2 + 1, none⟩) (by show xb < _; omega)).trans dx1⟩, h⟩))
          have HP := Lib.hid (fun (W : World) (h : Below W2.heap.size W2 W) => rputB_any wd xk xv v base (Tr.oitems t) W (own_below dv h) (by omega))
          rw [← HER.out] at HP
          have hN : Blk (W2.alloc (.cells #[.int .i64 0, .slice none 0 0] 57)) W2.heap.size 57 #[.int .i64 0, .slice none 0 0] := Blk.new _ _ _
          go_cut [11, 12] from 17 to 58 (fun p e wx => ∃ (g9 : Nat) (u' : Value) (y : Int), p = .pointer (some ⟨g9, 0, none⟩) ∧ e = .int .i64 3 ∧ W2.heap.size ≤ g9 ∧ Blk wx g9 57 #[.int .i64 y, u'] ∧ RPutF wd xk xv (Tr.oitems t) y u' wx ∧ Below W2.heap.size W2 wx)
          case first =>
            go_region_held3 (fun W => (W.cell? ⟨G + 1, 0, none⟩ = some (.int .i64 wd) ∧ W.cell? ⟨G + 1, 1, none⟩ = some v ∧ W.cell? ⟨xb, xo + i * 2, none⟩ = some (.string (bs xk)) ∧ W.cell? ⟨xb, xo + i * 2 + 1, none⟩ = some (.string (bs xv))) ∧ Below W2.heap.size W2 W) (refine KS.out _ ?_ <;> first | exact Below.refl _ _ | exact Below.drew (Below.refl _ _) | exact And.right (by assumption) | exact Below.drew (And.right (by assumption)) | exact callBelow (And.right (by assumption)) (by assumption) | exact boxBelow (And.right (by assumption)) _ | exact boxBelow hk2.out _ | exact (hk2.out.setCell (by simp) _).setCell (by simp) _) (first
              | (go_at_call 16
                 with_reducible refine (HP.out _ (by first | exact Below.drew (Below.refl _ _) | exact And.right (by assumption))).mono ?_
                 rintro e w2 ⟨uA, un, uc, y, rfl, hpf, hb2⟩
                 have hk2 : Hid (Below W2.heap.size W2 w2) := callBelow (by first | exact Below.drew (Below.refl _ _) | exact And.right (by assumption)) hb2
                 try
                   have hN2 := Blk.below (Blk.drew hN) hb2 (by simp)
                   have n0 := (hN2.cell 0).trans (show _ = some (Value.int .i64 0) from rfl)
                   have n1 := (hN2.cell 1).trans (show _ = some (Value.slice none 0 0) from rfl)
                   have nf0 := hN2.frozen 0
                   have nf1 := hN2.frozen 1))
            all_goals
              go_wp2_with fail
              go_meet
              case rel =>
                first
                  | exact ⟨_, _, y, rfl, rfl, hk2.out.size, Blk.new _ _ _, fun h => (by obtain ⟨e1, base', e2⟩ := hpf h; exact ⟨e1, base', own_below e2 ((Below.refl _ _).alloc (Nat.le_refl _) _)⟩), boxBelow hk2.out _⟩
                  | exact ⟨_, _, y, rfl, rfl, Nat.le_refl _, (hN2.set_ 0 _).set_ 1 _, fun h => (by obtain ⟨e1, base', e2⟩ := hpf h; exact ⟨e1, base', own_farT (own_farT e2 hN2 (by decide) (p := ⟨W2.heap.size, 0, none⟩) rfl _) (hN2.set_ 0 _) (by decide) (p := ⟨W2.heap.size, 1, none⟩) rfl _⟩), (hk2.out.setCell (by simp) _).setCell (by simp) _⟩
          case rest =>
            clear KS HP hN d60 d61 dx0 dx1
            obtain ⟨g11, u', y, rfl, rfl, hg11, h11, hrf, hbc2⟩ := hcut
            have e6 := d6.below hbc2 d6.lt
            have e7 := d7.below hbc2 d7.lt
            have et := dt.up hbc2
            have ev := own_below dv hbc2
            have eb := db.trans (hbc2.mono (by omega))
            clear d6 d7 dt dv db hbc2
            go_wp2_with fail
            go_roundw
            case rel => exact ⟨i + 1, t, a, v, by go_num, by omega, e6, e7, ⟨hok, hkl, et, base, ev⟩, by omega, eb⟩
            case measure => simp [intOf]; omega
        · have hE3 : ER = 0 := by rw [HER.out]; unfold erS; rw [hokS]; rfl
          subst hE3
          obtain ⟨rfl, t', hok', hit', ht'⟩ := hpf hokS
          have HIT := Lib.hid hit'
          clear hit'
          have k60 := (hc6.cell 0).trans (show _ = some (Value.int .i64 x) from rfl)
          have k61 := (hc6.cell 1).trans (show _ = some (Value.pointer a) from rfl)
          have kf0 := hc6.frozen 0
          have kf1 := hc6.frozen 1
          have k90 := (h9.cell 0).trans (show _ = some (Value.int .i64 x) from rfl)
          have k91 := (h9.cell 1).trans (show _ = some (Value.pointer a') from rfl)
          go_upto_region 9 with fail
          have d6 := (hc6.set_ 0 (.int .i64 x)).set_ 1 (.pointer a')
          have d7 := (hc7.far (p := ⟨G, 0, none⟩) (by simp) (.int .i64 x)).far (p := ⟨G, 1, none⟩) (by simp) (.pointer a')
          have dt := (ht'.far2 hc6 (by decide) (p := ⟨G, 0, none⟩) rfl (.int .i64 x)).far2 (hc6.set_ 0 (.int .i64 x)) (by decide) (p := ⟨G, 1, none⟩) rfl (.pointer a')
          have dv := own_farT (own_farT hcv hc6 (by decide) (p := ⟨G, 0, none⟩) rfl (.int .i64 x)) (hc6.set_ 0 (.int .i64 x)) (by decide) (p := ⟨G, 1, none⟩) rfl (.pointer a')
          have db := (hcb.setCell (p := ⟨G, 0, none⟩) (by show _ ≤ G; omega) (.int .i64 x)).setCell (p := ⟨G, 1, none⟩) (by show _ ≤ G; omega) (.pointer a')
          have dz : ((wc.setCell ⟨G, 0, none⟩ (.int .i64 x)).setCell ⟨G, 1, none⟩ (.pointer a')).heap.size = wc.heap.size := by simp [World.setCell]
          rw [← dz] at dt
          have hg9' : G + 1 < wc.heap.size := hc7.lt
          clear dz hg9 hg9'
          clear hc6 hc7 ht' hcv hcb h9 k60 k61 kf0 kf1 k90 k91 hpf
          generalize hW2 : (wc.setCell ⟨G, 0, none⟩ (.int .i64 x)).setCell ⟨G, 1, none⟩ (.pointer a') = W2 at *
          clear hW2
          have d60 := (d7.cell 0).trans (show _ = some (Value.int .i64 x) from rfl)
          have d61 := (d7.cell 1).trans (show _ = some v from rfl)
          have dx0 := (db.cell (p := ⟨xb, xo + i * 2, none⟩) (by show xb < _; omega)).trans x00
          have dx1 := (db.cell (p := ⟨xb, xo + i * 2 + 1, none⟩) (by show xb < _; omega)).trans x01
          have dlt := d7.lt
          have KS := Lib.hid (fun (W : World) (h : Below W2.heap.size W2 W) => (show (W.cell? ⟨G + 1, 0, none⟩ = some (.int .i64 x) ∧ W.cell? ⟨G + 1, 1, none⟩ = some v ∧ W.cell? ⟨xb, xo + i * 2, none⟩ = some (.string (bs xk)) ∧ W.cell? ⟨xb, xo + i * 2 + 1, none⟩ = some (.string (bs xv))) ∧ Below W2.heap.size W2 W from ⟨⟨(h.cell (p := ⟨G + 1, 0, none⟩) dlt).trans d60, (h.cell (p := ⟨G + 1, 1, none⟩) dlt).trans d61, (h.cell (p := ⟨xb, xo + i * 2, none⟩) (by show xb < _; omega)).trans dx0, (h.cell (p := ⟨xb, xo + i * 2 + 1, none⟩) (by show xb < _; omega)).trans dx1⟩, h⟩))
          have HP := Lib.hid (fun (W : World) (h : Below W2.heap.size W2 W) => rputB_any x xk xv v base (Tr.oitems t) W (own_below dv h) (by omega))
          rw [← HER.out] at HP
          have hN : Blk (W2.alloc (.cells #[.int .i64 0, .slice none 0 0] 57)) W2.heap.size 57 #[.int .i64 0, .slice none 0 0] := Blk.new _ _ _
          go_cut [11, 12] from 17 to 58 (fun p e wx => ∃ (g9 : Nat) (u' : Value) (y : Int), p = .pointer (some ⟨g9, 0, none⟩) ∧ e = .int .i64 0 ∧ W2.heap.size ≤ g9 ∧ Blk wx g9 57 #[.int .i64 y, u'] ∧ RPutF x xk xv (Tr.oitems t) y u' wx ∧ Below W2.heap.size W2 wx)
          case first =>
            go_region_held3 (fun W => (W.cell? ⟨G + 1, 0, none⟩ = some (.int .i64 x) ∧ W.cell? ⟨G + 1, 1, none⟩ = some v ∧ W.cell? ⟨xb, xo + i * 2, none⟩ = some (.string (bs xk)) ∧ W.cell? ⟨xb, xo + i * 2 + 1, none⟩ = some (.string (bs xv))) ∧ Below W2.heap.size W2 W) (refine KS.out _ ?_ <;> first | exact Below.refl _ _ | exact Below.drew (Below.refl _ _) | exact And.right (by assumption) | exact Below.drew (And.right (by assumption)) | exact callBelow (And.right (by assumption)) (by assumption) | exact boxBelow (And.right (by assumption)) _ | exact boxBelow hk2.out _ | exact (hk2.out.setCell (by simp) _).setCell (by simp) _) (first
              | (go_at_call 16
                 with_reducible refine (HP.out _ (by first | exact Below.drew (Below.refl _ _) | exact And.right (by assumption))).mono ?_
                 rintro e w2 ⟨uA, un, uc, y, rfl, hpf, hb2⟩
                 have hk2 : Hid (Below W2.heap.size W2 w2) := callBelow (by first | exact Below.drew (Below.refl _ _) | exact And.right (by assumption)) hb2
                 try
                   have hN2 := Blk.below (Blk.drew hN) hb2 (by simp)
                   have n0 := (hN2.cell 0).trans (show _ = some (Value.int .i64 0) from rfl)
                   have n1 := (hN2.cell 1).trans (show _ = some (Value.slice none 0 0) from rfl)
                   have nf0 := hN2.frozen 0
                   have nf1 := hN2.frozen 1))
            all_goals
              go_wp2_with fail
              go_meet
              case rel =>
                first
                  | exact ⟨_, _, y, rfl, rfl, hk2.out.size, Blk.new _ _ _, fun h => (by obtain ⟨e1, base', e2⟩ := hpf h; exact ⟨e1, base', own_below e2 ((Below.refl _ _).alloc (Nat.le_refl _) _)⟩), boxBelow hk2.out _⟩
                  | exact ⟨_, _, y, rfl, rfl, Nat.le_refl _, (hN2.set_ 0 _).set_ 1 _, fun h => (by obtain ⟨e1, base', e2⟩ := hpf h; exact ⟨e1, base', own_farT (own_farT e2 hN2 (by decide) (p := ⟨W2.heap.size, 0, none⟩) rfl _) (hN2.set_ 0 _) (by decide) (p := ⟨W2.heap.size, 1, none⟩) rfl _⟩), (hk2.out.setCell (by simp) _).setCell (by simp) _⟩
          case rest =>
            clear KS HP hN d60 d61 dx0 dx1
            obtain ⟨g11, u', y, rfl, rfl, hg11, h11, hrf, hbc2⟩ := hcut
            have e6 := d6.below hbc2 d6.lt
            have e7 := d7.below hbc2 d7.lt
            have et := dt.up hbc2
            have ev := own_below dv hbc2
            have eb := db.trans (hbc2.mono (by omega))
            clear d6 d7 dt dv db hbc2
            obtain ⟨rfl, base', hu⟩ := hrf hokS
            rw [← HIT.out] at hu
            have k70 := (e7.cell 0).trans (show _ = some (Value.int .i64 y) from rfl)
            have k71 := (e7.cell 1).trans (show _ = some v from rfl)
            have kf0 := e7.frozen 0
            have kf1 := e7.frozen 1
            have k90 := (h11.cell 0).trans (show _ = some (Value.int .i64 y) from rfl)
            have k91 := (h11.cell 1).trans (show _ = some u' from rfl)
            obtain ⟨uA, uc, rfl⟩ := own_shape hu
            go_wp2_with fail
            have f6 := (e6.far (p := ⟨G + 1, 0, none⟩) (by simp) (.int .i64 y)).far (p := ⟨G + 1, 1, none⟩) (by simp) (.slice uA (Tr.oitems t').length uc)
            have f7 := (e7.set_ 0 (.int .i64 y)).set_ 1 (.slice uA (Tr.oitems t').length uc)
            have ft := (et.far2 e7 (by decide) (p := ⟨G + 1, 0, none⟩) rfl (.int .i64 y)).far2 (e7.set_ 0 (.int .i64 y)) (by decide) (p := ⟨G + 1, 1, none⟩) rfl (.slice uA (Tr.oitems t').length uc)
            have fu := own_farT (own_farT hu e7 (by decide) (p := ⟨G + 1, 0, none⟩) rfl (.int .i64 y)) (e7.set_ 0 (.int .i64 y)) (by decide) (p := ⟨G + 1, 1, none⟩) rfl (.slice uA (Tr.oitems t').length uc)
            have fb := (eb.setCell (p := ⟨G + 1, 0, none⟩) (by show _ ≤ G + 1; omega) (.int .i64 y)).setCell (p := ⟨G + 1, 1, none⟩) (by show _ ≤ G + 1; omega) (.slice uA (Tr.oitems t').length uc)
            have fz : ((wc.setCell ⟨G + 1, 0, none⟩ (.int .i64 y)).setCell ⟨G + 1, 1, none⟩ (.slice uA (Tr.oitems t').length uc)).heap.size = wc.heap.size := by simp [World.setCell]
            rw [← fz] at ft
            have hlen' : (Tr.oitems t').length ≤ i + 1 := by
              have := putL_len (k := xk) (v := xv) (Tr.oitems t)
              rw [HIT.out]
              omega
            have hkl' : ∀ x, x ∈ Tr.oitems t' → x.1.length ≤ 32 ∧ x.2.length ≤ 4096 ∧ x.2 ≠ [] := by
              rw [HIT.out]
              refine putL_all (P := fun x => x.1.length ≤ 32 ∧ x.2.length ≤ 4096 ∧ x.2 ≠ []) (Tr.osorted t hok) (fun hne => ?_) hkl
              unfold okS at hokS
              simp at hokS
              exact ⟨hokS.1, hokS.2, hne⟩
            go_roundw
            case rel => exact ⟨i + 1, t', a', _, by go_num, by omega, f6, f7, ⟨hok', hkl', ft, base', fu⟩, hlen', fb⟩
            case measure => simp [intOf]; omega
    · have hii : ¬ (i : Int) < (l.length : Int) := by omega
      obtain ⟨uA, uc, rfl⟩ := own_shape hv
      have hP2 := hP.below hb (by omega)
      have hQ2 := hQ.below hb (by omega)
      have c60 := (h6.cell 0).trans (show _ = some (Value.int .i64 wd) from rfl)
      have c61 := (h6.cell 1).trans (show _ = some (Value.pointer a) from rfl)
      have c70 := (h7.cell 0).trans (show _ = some (Value.int .i64 wd) from rfl)
      have c71 := (h7.cell 1).trans (show _ = some (Value.slice uA (Tr.oitems t).length uc) from rfl)
      have p0 := (hP2.cell 0).trans (show _ = some (Value.int .i64 0) from rfl)
      have p1 := (hP2.cell 1).trans (show _ = some (Value.pointer none) from rfl)
      have q0 := (hQ2.cell 0).trans (show _ = some (Value.int .i64 0) from rfl)
      have q1 := (hQ2.cell 1).trans (show _ = some (Value.slice none 0 0) from rfl)
      have pf0 := hP2.frozen 0
      have pf1 := hP2.frozen 1
      have qf0 := hQ2.frozen 0
      have qf1 := hQ2.frozen 1
      have n1 : ¬ w.heap.size = G := by omega
      have n2 : ¬ w.heap.size + 1 = G := by omega
      have n3 : ¬ w.heap.size = G + 1 := by omega
      have n4 : ¬ w.heap.size + 1 = G + 1 := by omega
      have n5 : ¬ G = w.heap.size := by omega
      have n6 : ¬ G = w.heap.size + 1 := by omega
      have n7 : ¬ G + 1 = w.heap.size := by omega
      have n8 : ¬ G + 1 = w.heap.size + 1 := by omega
      have hil2 : (Tr.oitems t).length ≤ 1024 := by omega
      clear hz hzw0 hil
      go_wp2_with fail
      go_region_held3 (fun W => W.cell? ⟨G, 0, none⟩ = some (.int .i64 wd) ∧ W.cell? ⟨G, 1, none⟩ = some (.pointer a) ∧ W.cell? ⟨G + 1, 0, none⟩ = some (.int .i64 wd) ∧ W.cell? ⟨G + 1, 1, none⟩ = some (.slice uA (Tr.oitems t).length uc)) (go_keep) (fail)
      have a1 := (hP2.set_ 0 (.int .i64 wd))
      have a2 := a1.set_ 1 (.pointer a)
      have b1 := hQ2.far (p := ⟨w.heap.size, 0, none⟩) (by simp) (.int .i64 wd)
      have b2 := b1.far (p := ⟨w.heap.size, 1, none⟩) (by simp) (.pointer a)
      have b3 := b2.set_ 0 (.int .i64 wd)
      have b4 := (b3.set_ 1 (.slice uA (Tr.oitems t).length uc)).drew
      have a3 := a2.far (p := ⟨w.heap.size + 1, 0, none⟩) (by simp) (.int .i64 wd)
      have a4 := (a3.far (p := ⟨w.heap.size + 1, 1, none⟩) (by simp) (.slice uA (Tr.oitems t).length uc)).drew
      have t4 := (((ht.far2 hP2 (by decide) (p := ⟨w.heap.size, 0, none⟩) rfl (.int .i64 wd)).far2 a1 (by decide) (p := ⟨w.heap.size, 1, none⟩) rfl (.pointer a)).far2 b2 (by decide) (p := ⟨w.heap.size + 1, 0, none⟩) rfl (.int .i64 wd)).far2 b3 (by decide) (p := ⟨w.heap.size + 1, 1, none⟩) rfl (.slice uA (Tr.oitems t).length uc)
      have o4 := own_farT (own_farT (own_farT (own_farT hv hP2 (by decide) (p := ⟨w.heap.size, 0, none⟩) rfl (.int .i64 wd)) a1 (by decide) (p := ⟨w.heap.size, 1, none⟩) rfl (.pointer a)) b2 (by decide) (p := ⟨w.heap.size + 1, 0, none⟩) rfl (.int .i64 wd)) b3 (by decide) (p := ⟨w.heap.size + 1, 1, none⟩) rfl (.slice uA (Tr.oitems t).length uc)
      have bb : Below w.heap.size w _ := (((((hB0.trans (hb.mono (by omega))).setCell (p := ⟨w.heap.size, 0, none⟩) (Nat.le_refl _) (.int .i64 wd)).setCell (p := ⟨w.heap.size, 1, none⟩) (Nat.le_refl _) (.pointer a)).setCell (p := ⟨w.heap.size + 1, 0, none⟩) (Nat.le_succ _) (.int .i64 wd)).setCell (p := ⟨w.heap.size + 1, 1, none⟩) (Nat.le_succ _) (.slice uA (Tr.oitems t).length uc)).drew
      have sz : ((((wr.setCell ⟨w.heap.size, 0, none⟩ (.int .i64 wd)).setCell ⟨w.heap.size, 1, none⟩ (.pointer a)).setCell ⟨w.heap.size + 1, 0, none⟩ (.int .i64 wd)).setCell ⟨w.heap.size + 1, 1, none⟩ (.slice uA (Tr.oitems t).length uc)).drew.heap.size = wr.heap.size := by simp [World.setCell]
      rw [← sz] at t4
      generalize hWF : ((((wr.setCell ⟨w.heap.size, 0, none⟩ (.int .i64 wd)).setCell ⟨w.heap.size, 1, none⟩ (.pointer a)).setCell ⟨w.heap.size + 1, 0, none⟩ (.int .i64 wd)).setCell ⟨w.heap.size + 1, 1, none⟩ (.slice uA (Tr.oitems t).length uc)).drew = WF at *
      have t5 : OTrR wd WF WF.heap.size t a := by
        rw [← hWF] at t4 ⊢
        exact t4.drew
      have o5 : WF.ownsRow base 132 2 (.slice uA (Tr.oitems t).length uc) (Tr.oitems t).length (itemCells (Tr.oitems t)) := by rw [← hWF]; exact o4
      have z0 := (a4.cell 0).trans (show _ = some (Value.int .i64 wd) from rfl)
      have z1 := (a4.cell 1).trans (show _ = some (Value.pointer a) from rfl)
      have z2 := (b4.cell 0).trans (show _ = some (Value.int .i64 wd) from rfl)
      have z3 := (b4.cell 1).trans (show _ = some (Value.slice uA (Tr.oitems t).length uc) from rfl)
      clear hWF sz t4 o4 a1 a2 a3 b1 b2 b3
      go_wp2_with fail
      exact bodyPost_ret (v := .tuple #[.agg #[.int .i64 wd, .pointer a], .agg #[.int .i64 wd, .slice uA (Tr.oitems t).length uc]]) (by simp [results, Try.results42, go_sem, z0, z1, z2, z3]) rfl ⟨t, a, _, rfl, by omega, ⟨hok, hkl, t5, base, o5⟩, bb⟩
end Go.Proofs.Ytjjkdmngmopjbaa
