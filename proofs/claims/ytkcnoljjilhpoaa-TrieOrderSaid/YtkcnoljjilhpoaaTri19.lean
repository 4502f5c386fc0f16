/- The law TrieOrder: its walk. -/
import Derived.Test.YtkcnoljjilhpoaaProg
import Derived.Test.YtkcnoljjilhpoaaTri18
import Derived.Test.YtkcnoljjilhpoaaBench1
import Derived.Deep.RegionHeld3
import Derived.Deep.Cut
import Derived.Deep.CutRange
namespace Go.Proofs.Ytkcnoljjilhpoaa
open Go.RowKit
theorem OTrR.below {wd : Int} {w w' : World} {B : Nat} {t : Option Tr} {a : Option Addr} (h : OTrR wd w B t a) (hb : Below B w w') : OTrR wd w' B t a := by
  cases t with
  | none => exact h
  | some t => obtain ⟨q, e, h⟩ := h; exact ⟨q, e, h.below hb⟩
theorem OTrR.more {wd : Int} {w : World} {B B' : Nat} {t : Option Tr} {a : Option Addr} (h : OTrR wd w B t a) (hb : B ≤ B') : OTrR wd w B' t a := by
  cases t with
  | none => exact h
  | some t => obtain ⟨q, e, h⟩ := h; exact ⟨q, e, h.more hb⟩
/-- each of its keys is a key of L -/
def Among (L : List Ent) (t : Option Tr) : Prop := ∀ x, x ∈ Tr.oitems t → ∃ y, y ∈ L ∧ y.1 = x.1
theorem among_put {L : List Ent} {t t' : Option Tr} {k v : Key} (hok : Tr.ook t) (h : Among L t) (hk : ∃ y, y ∈ L ∧ y.1 = k) (e : Tr.oitems t' = putL k v (Tr.oitems t)) : Among L t' := by
  unfold Among
  rw [e]
  exact putL_all (P := fun x => ∃ y, y ∈ L ∧ y.1 = x.1) (Tr.osorted t hok) (fun _ => hk) h
theorem among_short {L : List Ent} {t : Option Tr} (h : Among L t) (hL : ∀ x, x ∈ L → x.1.length ≤ 32) : ∀ x, x ∈ Tr.oitems t → x.1.length ≤ 32 := fun x hx => by
  obtain ⟨y, hy, e⟩ := h x hx
  rw [← e]
  exact hL y hy
/-- the items from j on are in it -/
def FromJ (L : List Ent) (t : Option Tr) (j : Nat) : Prop := ∀ m (h : m < L.length), j ≤ m → L[m] ∈ Tr.oitems t
theorem sorted_ne {L : List Ent} (hL : L.Pairwise Lt) {i m : Nat} (hi : i < L.length) (hm : m < L.length) (hne : i < m) : L[m].1 ≠ L[i].1 := fun e => by
  have := (List.pairwise_iff_getElem.mp hL) i m hi hm hne
  unfold Lt at this
  rw [e, less_irr] at this
  cases this
theorem fromJ_put {L : List Ent} (hL : L.Pairwise Lt) {t t' : Option Tr} {j : Nat} (hok : Tr.ook t) (h : FromJ L t (j + 1)) (hj : j < L.length) (hv : L[j].2 ≠ []) (e : Tr.oitems t' = putL L[j].1 L[j].2 (Tr.oitems t)) : FromJ L t' j := fun m hm hjm => by
  rw [e, (putL_spec _ _ _ (Tr.osorted t hok)).2]
  rcases Nat.lt_or_ge j m with hlt | hge
  · exact .inr ⟨h m hm hlt, sorted_ne hL hj hm hlt⟩
  · obtain rfl : j = m := by omega
    exact .inl ⟨hv, rfl⟩
theorem same_of {L : List Ent} (hL : L.Pairwise Lt) {t : Option Tr} (hok : Tr.ook t) (ha : Among L t) (hf : FromJ L t 0) : Tr.oitems t = L := by
  have hs := Tr.osorted t hok
  refine sorted_ext hs hL fun x => ⟨fun hx => ?_, fun hx => ?_⟩
  · obtain ⟨y, hy, e⟩ := ha x hx
    obtain ⟨m, hm, rfl⟩ := List.getElem_of_mem hy
    have h2 := hf m hm (Nat.zero_le _)
    have h3 : x = L[m] := by
      obtain ⟨i, hi, rfl⟩ := List.getElem_of_mem hx
      obtain ⟨i', hi', e'⟩ := List.getElem_of_mem h2
      rcases Nat.lt_trichotomy i i' with h | h | h
      · exact absurd (by rw [e', e]) (sorted_ne hs hi hi' h)
      · subst h; exact e'
      · exact absurd (by rw [e', e]) (sorted_ne hs hi' hi h)
    rw [h3]
    exact hy
  · obtain ⟨m, hm, rfl⟩ := List.getElem_of_mem hx
    exact hf m hm (Nat.zero_le _)
theorem root_one {wd : Int} {t u : Option Tr} (ht : Tr.ook t) (hu : Tr.ook u) (e : Tr.oitems t = Tr.oitems u) : rootS wd t = rootS wd u := by
  cases t with
  | none =>
    cases u with
    | none => rfl
    | some u => exact absurd e.symm u.items_ne
  | some t =>
    cases u with
    | none => exact absurd e t.items_ne
    | some u => rw [Tr.unique t u ht hu e]
theorem someL_all (L : List Ent) : someL [] (-1) L = L := by
  unfold someL preL
  rw [if_pos (by omega)]
  exact List.filter_eq_self.mpr fun _ _ => rfl
set_option maxRecDepth 100000 in
set_option maxHeartbeats 8000000 in
theorem trieOrder_walk (n : Int) (hn : -9223372036854775808 ≤ n) (l : List Ent) (A : Option Addr) (c : Nat) (os : List Int) (A2 : Option Addr) (c2 : Nat) (w : World) (hl : ItR w w.heap.size A l) (hlen : l.length ≤ 9223372036854775807) (ho : Ints w w.heap.size A2 os) (hob : ∀ x ∈ os, -9223372036854775808 ≤ x) :
    Calls Try.prog 4 #[.int .i64 n, .slice A l.length c, .slice A2 os.length c2] w fun e w' => e = .returned (.bool true) ∧ Below w.heap.size w w' := by
  have h1 := lightItems_any l A c w.heap.size w hl hlen
  obtain ⟨P, hP⟩ : ∃ P, P = pickS n 8 := ⟨_, rfl⟩
  have hP0 : 0 ≤ P := by rw [hP]; exact pickS_lo _ _ (by omega)
  have hP8 : P < 8 := by rw [hP]; exact pickS_hi _ _ (by omega)
  have h2 := fun W => pick_any n 8 W hn (by omega)
  rw [← hP] at h2
  clear hP
  obtain ⟨wd, hwd⟩ : ∃ wd, wd = 1 + P := ⟨_, rfl⟩
  have hwr1 : IntKind.i64.wrap (1 + P) = wd := by rw [IntWalk.i64_in _ (by omega), hwd]
  have hwr2 : wrap64 (1 + P) = wd := by rw [← IntWalk.i64_left]; exact hwr1
  clear hwd hP0 hP8
  have h3 := fun W (h : Below w.heap.size w W) (hl4 : l.length ≤ 1024) => grown_any wd l A c W ((hl.below h).more h.size) hl4
  have h4 := fun W => new_any wd W
  have H3 := Lib.hid h3
  clear h3
  unfold treeV rtreeV at *
  go_enter Try.func4, Try.ntmps4
  go_wp2_with fail
  refine h1.mono ?_
  rintro e w1 ⟨b, rfl, hb, hb1⟩
  clear h1
  cases b
  · go_wp2_with fail
    go_ret
    exact ⟨rfl, hb1⟩
  have hl4 := hb rfl
  clear hb
  by_cases ho4 : os.length ≤ 4096
  case neg =>
    have hd : decide ((4096 : Int) < (os.length : Int)) = true := decide_eq_true (by omega)
    go_wp2_with fail
    go_ret
    exact ⟨rfl, hb1⟩
  have hd : decide ((4096 : Int) < (os.length : Int)) = false := decide_eq_false (by omega)
  go_wp2_with fail
  refine (h2 _).mono ?_
  rintro e w2 ⟨rfl, rfl⟩
  clear h2
  go_wp2_with fail
  refine (H3.out _ hb1 hl4).mono ?_
  rintro e w2 ⟨t, a, v, rfl, htl, ⟨hok, hkl, ht, base, hv⟩, hb2⟩
  obtain ⟨uA, uc, rfl⟩ := own_shape hv
  have hb12 := callBelow hb1 hb2
  have hU : ItR w2 w2.heap.size uA (Tr.oitems t) := Rd.of_own hv
  have hsrt := Tr.osorted t hok
  clear hv H3 hb1 hb2 hwr1 hwr2
  go_wp2_with fail
  refine (h4 _).mono ?_
  rintro e w4 ⟨rfl, hb4⟩
  clear h4
  go_wp2_with fail
  have hG9 : w2.heap.size + 2 ≤ w4.heap.size := by have := hb4.size; simp at this; omega
  have h7 : Blk (w4.alloc (.cells #[.int .i64 wd, .pointer none] 37)) w2.heap.size 37 #[.int .i64 wd, .pointer a] := (((Blk.new w2 37 #[.int .i64 wd, .pointer a]).alloc _).below hb4 (by simp; omega)).alloc _
  have h8 : Blk (w4.alloc (.cells #[.int .i64 wd, .pointer none] 37)) (w2.heap.size + 1) 39 #[.int .i64 wd, .slice uA (Tr.oitems t).length uc] := by
    have := Blk.new (w2.alloc (.cells #[.int .i64 wd, .pointer a] 37)) 39 #[.int .i64 wd, .slice uA (Tr.oitems t).length uc]
    rw [World.size_alloc] at this
    exact (this.below hb4 (by simp)).alloc _
  have h9 : Blk (w4.alloc (.cells #[.int .i64 wd, .pointer none] 37)) w4.heap.size 37 #[.int .i64 wd, .pointer none] := Blk.new _ _ _
  have hbi : Below w2.heap.size w2 (w4.alloc (.cells #[.int .i64 wd, .pointer none] 37)) := ((((Below.refl _ w2).alloc (Nat.le_refl _) _).alloc (by simp) _).trans (hb4.mono (by simp; omega))).alloc (by omega) _
  have hU5 := hU.below hbi
  have ht5 := ht.below hbi
  have hb5 := callBelow hb12 hbi
  have ho5 := ho.below hb5
  have hzz := hb12.size
  obtain ⟨G, hG⟩ : ∃ G, G = w4.heap.size := ⟨_, rfl⟩
  obtain ⟨Bi, hBi⟩ : ∃ Bi, Bi = w2.heap.size := ⟨_, rfl⟩
  rw [← hG] at hG9 h9
  rw [← hBi] at hG9 h7 h8 hU5 ht5 hzz
  rw [← hG, ← hBi]
  generalize hL : Tr.oitems t = L at *
  have HL := Lib.hid hL
  generalize w4.alloc (.cells #[.int .i64 wd, .pointer none] 37) = w5 at *
  have h9' : G ≤ w5.heap.size := Nat.le_of_lt h9.lt
  clear hL hU ht hbi hb12 hb4 hG hBi ho
  have c80 := fun W (h : Below G w5 W) => (h.cell (p := ⟨Bi + 1, 1, none⟩) (by show Bi + 1 < G; omega)).trans ((h8.cell 1).trans (show _ = some (Value.slice uA L.length uc) from rfl))
  have C8 := Lib.hid c80
  clear c80
  go_loopw [10] (fun z wr => ∃ (i : Nat) (tv : Option Tr) (av : Option Addr), z = .int .i64 (i : Int) ∧ i ≤ os.length ∧ Blk wr G 37 #[.int .i64 wd, .pointer av] ∧ Tr.ook tv ∧ Among L tv ∧ OTrR wd wr wr.heap.size tv av ∧ Below G w5 wr) (fun z _ => os.length - (intOf z).toNat)
  case atStart => exact ⟨0, none, none, rfl, by omega, h9, trivial, fun x hx => (by cases hx), rfl, Below.refl _ _⟩
  case round =>
    clear h9
    obtain ⟨i, tv, av, rfl, hi, h9, hov, ham, hv, hb⟩ := hrel
    have c8 := C8.out wr hb
    by_cases hmore : i < os.length ∧ 0 < L.length
    · obtain ⟨hlt, hpos⟩ := hmore
      have hii : (i : Int) < (os.length : Int) := by omega
      have hpi : (0 : Int) < (L.length : Int) := by omega
      have ho6 := ho5.below (hb.mono (by omega))
      obtain ⟨ob, oo, rfl, hob2, ox⟩ := Ints.at_ ho6 hlt
      have ox5 := (hb.cell (p := ⟨ob, oo + i, none⟩) (by show ob < G; omega)).symm.trans ox
      have hxb := hob _ (List.getElem_mem hlt)
      generalize os[i] = x at *
      obtain ⟨kk, hkk, hkl2⟩ : ∃ kk : Nat, pickS x (L.length : Int) = (kk : Int) ∧ kk < L.length := by
        have h1 := pickS_lo x (L.length : Int) (by omega)
        have h2 := pickS_hi x (L.length : Int) (by omega)
        exact ⟨(pickS x (L.length : Int)).toNat, by omega, by omega⟩
      have hpk := fun W => (pick_any x (L.length : Int) W hxb (by omega)).mono (R' := fun e w' => e = .returned (.int .i64 (kk : Int)) ∧ w' = W) fun e w' h => ⟨by rw [← hkk]; exact h.1, h.2.symm⟩
      have HPK := Lib.hid hpk
      clear hpk hkk
      go_wp2_with fail
      go_quiet ((go_at_call 18; exact Calls.quiet_of_same (HPK.out _)))
      replace h9 := h9.drewN nq
      replace hv := hv.up ((Below.refl _ wr).drewN nq)
      replace hb := hb.drewN nq
      clear HPK c8
      go_wp2_with fail
      generalize wr.drewN nq = W9 at *
      have hU6 : ItR W9 Bi uA L := Rd.below hU5 (hb.mono (by omega))
      obtain ⟨xb, xo, rfl, hxb3, x0, x1⟩ := hU6.at_ hkl2
      have x05 := (hb.cell (p := ⟨xb, xo + kk * 2, none⟩) (by show xb < G; omega)).symm.trans x0
      have hke : ∃ y, y ∈ L ∧ y.1 = L[kk].1 := ⟨_, List.getElem_mem hkl2, rfl⟩
      have hks := (hkl _ (List.getElem_mem hkl2)).1
      generalize L[kk].1 = key at *
      have hkki : (kk : Int) < (L.length : Int) := by omega
      have c8 := C8.out W9 hb
      have c90 := (h9.cell 0).trans (show _ = some (Value.int .i64 wd) from rfl)
      have c91 := (h9.cell 1).trans (show _ = some (Value.pointer av) from rfl)
      have KS := Lib.hid (fun (W : World) (h : Below G W9 W) => (show W.cell? ⟨Bi + 1, 1, none⟩ = some (.slice (some ⟨xb, xo, none⟩) L.length uc) ∧ W.cell? ⟨xb, xo + kk * 2, none⟩ = some (.string (bs key)) from ⟨(h.cell (p := ⟨Bi + 1, 1, none⟩) (by show Bi + 1 < G; omega)).trans c8, (h.cell (p := ⟨xb, xo + kk * 2, none⟩) (by show xb < G; omega)).trans x0⟩))
      have HP := Lib.hid (fun (W : World) (h : Below W9.heap.size W9 W) => put_any wd key [120] tv av W hks (by simp) hov (among_short ham (fun x hx => (hkl x hx).1)) (hv.up h))
      unfold treeV at HP
      refine wp_region_held_drew (S := fun W' => W'.cell? ⟨Bi + 1, 1, none⟩ = some (.slice (some ⟨xb, xo, none⟩) L.length uc) ∧ W'.cell? ⟨xb, xo + kk * 2, none⟩ = some (.string (bs key))) (by kernel_rfl) (KS.out _ (Below.refl _ _).drew) (fun hHeld => ?_)
      refine wpAnyH_take (i := 1) (v := ?_) rfl (by kernel_rfl) (by kernel_rfl) (by kernel_rfl) (fun _ _ _ h => h) (Or.inl ⟨by rfl, ?_⟩) (by assumption) ?_
      rotate_left
      · intro w' hSw
        (try dsimp only at hSw)
        go_simp
        try with_reducible rfl
      try simp only [Act.put, List.setIfInBounds_toArray, List.set_cons_zero, List.set_cons_succ]
      refine wpAnyH_take (i := 2) (v := ?_) rfl (by kernel_rfl) (by kernel_rfl) (by kernel_rfl) (fun _ _ _ h => h) (Or.inl ⟨by rfl, ?_⟩) (by assumption) ?_
      rotate_left
      · intro w' hSw
        (try dsimp only at hSw)
        go_simp
        try with_reducible rfl
      try simp only [Act.put, List.setIfInBounds_toArray, List.set_cons_zero, List.set_cons_succ]
      refine wpAnyH_take (i := 3) (v := ?_) rfl (by kernel_rfl) (by kernel_rfl) (by kernel_rfl) (fun _ _ _ h => h) (Or.inl ⟨by rfl, ?_⟩) (by assumption) ?_
      rotate_left
      · intro w' hSw
        (try dsimp only at hSw)
        go_simp
        try with_reducible rfl
      try simp only [Act.put, List.setIfInBounds_toArray, List.set_cons_zero, List.set_cons_succ]
      refine wpAnyH_take (i := 4) (v := ?_) rfl (by kernel_rfl) (by kernel_rfl) (by kernel_rfl) (fun _ _ _ h => h) (Or.inl ⟨by rfl, ?_⟩) (by assumption) ?_
      rotate_left
      · intro w' hSw
        (try dsimp only at hSw)
        go_simp
        try with_reducible rfl
      try simp only [Act.put, List.setIfInBounds_toArray, List.set_cons_zero, List.set_cons_succ]
      refine wpAnyH_take (i := 5) (v := ?_) rfl (by kernel_rfl) (by kernel_rfl) (by kernel_rfl) (fun _ _ _ h => h) (Or.inl ⟨by rfl, ?_⟩) (by assumption) ?_
      rotate_left
      · intro w' hSw
        (try dsimp only at hSw)
        go_simp
        try with_reducible rfl
      try simp only [Act.put, List.setIfInBounds_toArray, List.set_cons_zero, List.set_cons_succ]
      refine wpAnyH_take (i := 6) (v := ?_) rfl (by kernel_rfl) (by kernel_rfl) (by kernel_rfl) (fun _ _ _ h => h) (Or.inl ⟨by rfl, ?_⟩) (by assumption) ?_
      rotate_left
      · intro w' hSw
        (try dsimp only at hSw)
        go_simp
        try with_reducible rfl
      try simp only [Act.put, List.setIfInBounds_toArray, List.set_cons_zero, List.set_cons_succ]
      refine wpAnyH_ready (rs := [0]) (by kernel_rfl) (by simp) ?_
      refine AllReadyH.cons rfl (fun K hK => ?_) AllReadyH.nil
      go_simp
      refine hK.out _ _ (KS.out _ (Below.refl _ _).drew) (fun _ => ?_)
      clear hK K
      try simp only [Act.put, List.setIfInBounds_toArray, List.set_cons_zero, List.set_cons_succ]
      refine wpAnyH_ready (rs := [7]) (by kernel_rfl) (by simp) ?_
      refine AllReadyH.cons rfl (fun K hK => ?_) AllReadyH.nil
      go_simp
      refine (HP.out _ (Below.refl _ _).drew).mono ?_
      rintro e wp ⟨tv2, av2, rfl, hov2, hit2, hv2, hbp⟩
      dsimp only [treeV]
      have hbp2 : Below G W9 wp := ((Below.refl _ W9).drew).trans (hbp.mono (by show G ≤ W9.heap.size; exact Nat.le_of_lt h9.lt))
      refine hK.out _ _ (KS.out _ hbp2) (fun _ => ?_)
      clear hK K
      try simp only [Act.put, List.setIfInBounds_toArray, List.set_cons_zero, List.set_cons_succ]
      refine wpAnyH_take (i := 8) (v := ?_) rfl (by kernel_rfl) (by kernel_rfl) (by kernel_rfl) (fun _ _ _ h => h) (Or.inl ⟨by rfl, ?_⟩) (by assumption) ?_
      rotate_left
      · intro w' hSw
        (try dsimp only at hSw)
        go_simp
        try with_reducible rfl
      try simp only [Act.put, List.setIfInBounds_toArray, List.set_cons_zero, List.set_cons_succ]
      refine wpAnyH_take (i := 9) (v := ?_) rfl (by kernel_rfl) (by kernel_rfl) (by kernel_rfl) (fun _ _ _ h => h) (Or.inl ⟨by rfl, ?_⟩) (by assumption) ?_
      rotate_left
      · intro w' hSw
        (try dsimp only at hSw)
        go_simp
        try with_reducible rfl
      try simp only [Act.put, List.setIfInBounds_toArray, List.set_cons_zero, List.set_cons_succ]
      refine wpAnyH_take (i := 10) (v := ?_) rfl (by kernel_rfl) (by kernel_rfl) (by kernel_rfl) (fun _ _ _ h => h) (Or.inl ⟨by rfl, ?_⟩) (by assumption) ?_
      rotate_left
      · intro w' hSw
        (try dsimp only at hSw)
        go_simp
        try with_reducible rfl
      try simp only [Act.put, List.setIfInBounds_toArray, List.set_cons_zero, List.set_cons_succ]
      have h9p := h9.drew.below hbp h9.lt
      have p0 := (h9p.cell 0).trans (show _ = some (Value.int .i64 wd) from rfl)
      have p1 := (h9p.cell 1).trans (show _ = some (Value.pointer av) from rfl)
      have pf0 := h9p.frozen 0
      have pf1 := h9p.frozen 1
      refine wpAnyH_ready (rs := [11]) (by kernel_rfl) (by simp) ?_
      refine AllReadyH.cons rfl (fun K hK => ?_) AllReadyH.nil
      go_simp
      refine hK.out _ _ (KS.out _ ((hbp2.setCell (by simp) _).setCell (by simp) _)) (fun _ => ?_)
      clear hK K
      try simp only [Act.put, List.setIfInBounds_toArray, List.set_cons_zero, List.set_cons_succ]
      refine wpAnyH_done (by kernel_rfl) ?_ _
      have hbq := hb.trans ((hbp2.setCell (p := ⟨G, 0, none⟩) (by simp) (.int .i64 wd)).setCell (p := ⟨G, 1, none⟩) (by simp) (.pointer av2))
      have h9q := (h9p.set_ 0 (.int .i64 wd)).set_ 1 (.pointer av2)
      have hvq := OTrR.put h9p (.int .i64 wd) (.pointer av2) hv2
      have hamq := among_put hov ham hke hit2
      have hovq := hov2
      generalize (wp.setCell ⟨G, 0, none⟩ (.int .i64 wd)).setCell ⟨G, 1, none⟩ (.pointer av2) = WA at *
      clear hv ham hov hbp hbp2 h9p p0 p1 pf0 pf1 hit2 hv2 hov2 h9 KS HP c8 c90 c91 x0 x1 hU6 ox
      have oxA := (hbq.cell (p := ⟨ob, oo + i, none⟩) (by show ob < G; omega)).trans ox5
      cases hr0 : (x.tmod 3 == 0)
      · go_wp2_with fail
        go_roundw
        case rel => exact ⟨i + 1, _, _, by go_num, by omega, h9q, hovq, hamq, hvq, hbq⟩
        case measure => simp [intOf]; omega
      · have h9 := h9q
        have hv := hvq
        have hb := hbq
        have ham := hamq
        have hov := hovq
        clear h9q hvq hbq hamq hovq
        go_wp2_with fail
        clear oxA hr0
        generalize WA = W9 at *
        have hU6 : ItR W9 Bi (some ⟨xb, xo, none⟩) L := Rd.below hU5 (hb.mono (by omega))
        have x0 := (hb.cell (p := ⟨xb, xo + kk * 2, none⟩) (by show xb < G; omega)).trans x05
        have c8 := C8.out W9 hb
        have c90 := (h9.cell 0).trans (show _ = some (Value.int .i64 wd) from rfl)
        have c91 := (h9.cell 1).trans (show _ = some (Value.pointer av2) from rfl)
        have KS := Lib.hid (fun (W : World) (h : Below G W9 W) => (show W.cell? ⟨Bi + 1, 1, none⟩ = some (.slice (some ⟨xb, xo, none⟩) L.length uc) ∧ W.cell? ⟨xb, xo + kk * 2, none⟩ = some (.string (bs key)) from ⟨(h.cell (p := ⟨Bi + 1, 1, none⟩) (by show Bi + 1 < G; omega)).trans c8, (h.cell (p := ⟨xb, xo + kk * 2, none⟩) (by show xb < G; omega)).trans x0⟩))
        have HP := Lib.hid (fun (W : World) (h : Below W9.heap.size W9 W) => put_any wd key [] tv2 av2 W hks (by simp) hov (among_short ham (fun x hx => (hkl x hx).1)) (hv.up h))
        unfold treeV at HP
        refine wp_region_held_drew (S := fun W' => W'.cell? ⟨Bi + 1, 1, none⟩ = some (.slice (some ⟨xb, xo, none⟩) L.length uc) ∧ W'.cell? ⟨xb, xo + kk * 2, none⟩ = some (.string (bs key))) (by kernel_rfl) (KS.out _ (Below.refl _ _).drew) (fun hHeld => ?_)
        refine wpAnyH_take (i := 1) (v := ?_) rfl (by kernel_rfl) (by kernel_rfl) (by kernel_rfl) (fun _ _ _ h => h) (Or.inl ⟨by rfl, ?_⟩) (by assumption) ?_
        rotate_left
        · intro w' hSw
          (try dsimp only at hSw)
          go_simp
          try with_reducible rfl
        try simp only [Act.put, List.setIfInBounds_toArray, List.set_cons_zero, List.set_cons_succ]
        refine wpAnyH_take (i := 2) (v := ?_) rfl (by kernel_rfl) (by kernel_rfl) (by kernel_rfl) (fun _ _ _ h => h) (Or.inl ⟨by rfl, ?_⟩) (by assumption) ?_
        rotate_left
        · intro w' hSw
          (try dsimp only at hSw)
          go_simp
          try with_reducible rfl
        try simp only [Act.put, List.setIfInBounds_toArray, List.set_cons_zero, List.set_cons_succ]
        refine wpAnyH_take (i := 3) (v := ?_) rfl (by kernel_rfl) (by kernel_rfl) (by kernel_rfl) (fun _ _ _ h => h) (Or.inl ⟨by rfl, ?_⟩) (by assumption) ?_
        rotate_left
        · intro w' hSw
          (try dsimp only at hSw)
          go_simp
          try with_reducible rfl
        try simp only [Act.put, List.setIfInBounds_toArray, List.set_cons_zero, List.set_cons_succ]
        refine wpAnyH_take (i := 4) (v := ?_) rfl (by kernel_rfl) (by kernel_rfl) (by kernel_rfl) (fun _ _ _ h => h) (Or.inl ⟨by rfl, ?_⟩) (by assumption) ?_
        rotate_left
        · intro w' hSw
          (try dsimp only at hSw)
          go_simp
          try with_reducible rfl
        try simp only [Act.put, List.setIfInBounds_toArray, List.set_cons_zero, List.set_cons_succ]
        refine wpAnyH_take (i := 5) (v := ?_) rfl (by kernel_rfl) (by kernel_rfl) (by kernel_rfl) (fun _ _ _ h => h) (Or.inl ⟨by rfl, ?_⟩) (by assumption) ?_
        rotate_left
        · intro w' hSw
          (try dsimp only at hSw)
          go_simp
          try with_reducible rfl
        try simp only [Act.put, List.setIfInBounds_toArray, List.set_cons_zero, List.set_cons_succ]
        refine wpAnyH_take (i := 6) (v := ?_) rfl (by kernel_rfl) (by kernel_rfl) (by kernel_rfl) (fun _ _ _ h => h) (Or.inl ⟨by rfl, ?_⟩) (by assumption) ?_
        rotate_left
        · intro w' hSw
          (try dsimp only at hSw)
          go_simp
          try with_reducible rfl
        try simp only [Act.put, List.setIfInBounds_toArray, List.set_cons_zero, List.set_cons_succ]
        refine wpAnyH_ready (rs := [0]) (by kernel_rfl) (by simp) ?_
        refine AllReadyH.cons rfl (fun K hK => ?_) AllReadyH.nil
        go_simp
        refine hK.out _ _ (KS.out _ (Below.refl _ _).drew) (fun _ => ?_)
        clear hK K
        try simp only [Act.put, List.setIfInBounds_toArray, List.set_cons_zero, List.set_cons_succ]
        refine wpAnyH_ready (rs := [7]) (by kernel_rfl) (by simp) ?_
        refine AllReadyH.cons rfl (fun K hK => ?_) AllReadyH.nil
        go_simp
        refine (HP.out _ (Below.refl _ _).drew).mono ?_
        rintro e wp ⟨tv3, av3, rfl, hov2, hit2, hv2, hbp⟩
        dsimp only [treeV]
        have hbp2 : Below G W9 wp := ((Below.refl _ W9).drew).trans (hbp.mono (by show G ≤ W9.heap.size; exact Nat.le_of_lt h9.lt))
        refine hK.out _ _ (KS.out _ hbp2) (fun _ => ?_)
        clear hK K
        try simp only [Act.put, List.setIfInBounds_toArray, List.set_cons_zero, List.set_cons_succ]
        refine wpAnyH_take (i := 8) (v := ?_) rfl (by kernel_rfl) (by kernel_rfl) (by kernel_rfl) (fun _ _ _ h => h) (Or.inl ⟨by rfl, ?_⟩) (by assumption) ?_
        rotate_left
        · intro w' hSw
          (try dsimp only at hSw)
          go_simp
          try with_reducible rfl
        try simp only [Act.put, List.setIfInBounds_toArray, List.set_cons_zero, List.set_cons_succ]
        refine wpAnyH_take (i := 9) (v := ?_) rfl (by kernel_rfl) (by kernel_rfl) (by kernel_rfl) (fun _ _ _ h => h) (Or.inl ⟨by rfl, ?_⟩) (by assumption) ?_
        rotate_left
        · intro w' hSw
          (try dsimp only at hSw)
          go_simp
          try with_reducible rfl
        try simp only [Act.put, List.setIfInBounds_toArray, List.set_cons_zero, List.set_cons_succ]
        refine wpAnyH_take (i := 10) (v := ?_) rfl (by kernel_rfl) (by kernel_rfl) (by kernel_rfl) (fun _ _ _ h => h) (Or.inl ⟨by rfl, ?_⟩) (by assumption) ?_
        rotate_left
        · intro w' hSw
          (try dsimp only at hSw)
          go_simp
          try with_reducible rfl
        try simp only [Act.put, List.setIfInBounds_toArray, List.set_cons_zero, List.set_cons_succ]
        have h9p := h9.drew.below hbp h9.lt
        have p0 := (h9p.cell 0).trans (show _ = some (Value.int .i64 wd) from rfl)
        have p1 := (h9p.cell 1).trans (show _ = some (Value.pointer av2) from rfl)
        have pf0 := h9p.frozen 0
        have pf1 := h9p.frozen 1
        refine wpAnyH_ready (rs := [11]) (by kernel_rfl) (by simp) ?_
        refine AllReadyH.cons rfl (fun K hK => ?_) AllReadyH.nil
        go_simp
        refine hK.out _ _ (KS.out _ ((hbp2.setCell (by simp) _).setCell (by simp) _)) (fun _ => ?_)
        clear hK K
        try simp only [Act.put, List.setIfInBounds_toArray, List.set_cons_zero, List.set_cons_succ]
        refine wpAnyH_done (by kernel_rfl) ?_ _
        have hbq := hb.trans ((hbp2.setCell (p := ⟨G, 0, none⟩) (by simp) (.int .i64 wd)).setCell (p := ⟨G, 1, none⟩) (by simp) (.pointer av3))
        have h9q := (h9p.set_ 0 (.int .i64 wd)).set_ 1 (.pointer av3)
        have hvq := OTrR.put h9p (.int .i64 wd) (.pointer av3) hv2
        have hamq := among_put hov ham hke hit2
        go_wp2_with fail
        go_roundw
        case rel => exact ⟨i + 1, _, _, by go_num, by omega, h9q, hov2, hamq, hvq, hbq⟩
        case measure => simp [intOf]; omega
    · have hfirst : Hid (L.length = 0 ∨ os.length ≤ i) := by show _ ∨ _; omega
      have hwl : IntKind.i64.wrap ((L.length : Int) - 1) = (L.length : Int) - 1 := IntWalk.i64_in _ (by omega)
      have hwl' : wrap64 ((L.length : Int) - 1) = (L.length : Int) - 1 := by rw [← IntWalk.i64_left]; exact hwl
      have hex : (decide (i < os.length) = false) ∨ (decide (i < os.length) = true ∧ decide (0 < L.length) = false) := by
        by_cases h : i < os.length
        · exact .inr ⟨decide_eq_true h, decide_eq_false (by omega)⟩
        · exact .inl (decide_eq_false h)
      clear hmore hfirst
      rcases hex with d1 | ⟨d1, d2⟩
      all_goals
        go_wp2_with fail
        go_loopw [12] (fun z wr => ∃ (j : Nat) (zz : Int) (tv : Option Tr) (av : Option Addr), z = .int .i64 zz ∧ zz + 1 = (j : Int) ∧ j ≤ L.length ∧ Blk wr G 37 #[.int .i64 wd, .pointer av] ∧ Tr.ook tv ∧ Among L tv ∧ FromJ L tv j ∧ OTrR wd wr wr.heap.size tv av ∧ Below G w5 wr) (fun z _ => (intOf z + 1).toNat)
        case atStart => exact ⟨L.length, _, tv, av, rfl, by omega, by omega, h9, hov, ham, fun m hm hle => by omega, hv, hb⟩
        case round =>
          clear h9 hov ham hv hb c8 d1
          try clear d2
          obtain ⟨j, zz, tv, av, rfl, hzz2, hj, h9, hov, ham, hfj, hv, hb⟩ := hrel
          cases j with
          | succ j =>
            obtain rfl : zz = (j : Int) := by omega
            clear hzz2
            have hge : decide ((0 : Int) ≤ (j : Int)) = true := decide_eq_true (by omega)
            have hjl : j < L.length := by omega
            have hjji : (j : Int) < (L.length : Int) := by omega
            have hwm : IntKind.i64.wrap ((j : Int) - 1) = (j : Int) - 1 := IntWalk.i64_in _ (by omega)
            have hwm' : wrap64 ((j : Int) - 1) = (j : Int) - 1 := by rw [← IntWalk.i64_left]; exact hwm
            obtain ⟨xb, xo, rfl, hxb3, x0, x1⟩ := (show ItR wr Bi uA L from Rd.below hU5 (hb.mono (by omega))).at_ hjl
            have hke : ∃ y, y ∈ L ∧ y.1 = L[j].1 := ⟨_, List.getElem_mem hjl, rfl⟩
            obtain ⟨hks, hvs, hvn⟩ := hkl _ (List.getElem_mem hjl)
            have HFJ := Lib.hid (fun (t' : Option Tr) (e : Tr.oitems t' = putL L[j].1 L[j].2 (Tr.oitems tv)) => fromJ_put hsrt hov hfj hjl hvn e)
            clear hfj hvn
            generalize L[j].1 = key at *
            generalize L[j].2 = val at *
            have c8 := C8.out wr hb
            have c90 := (h9.cell 0).trans (show _ = some (Value.int .i64 wd) from rfl)
            have c91 := (h9.cell 1).trans (show _ = some (Value.pointer av) from rfl)
            have KS := Lib.hid (fun (W : World) (h : Below G wr W) => (show W.cell? ⟨Bi + 1, 1, none⟩ = some (.slice (some ⟨xb, xo, none⟩) L.length uc) ∧ W.cell? ⟨xb, xo + j * 2, none⟩ = some (.string (bs key)) ∧ W.cell? ⟨xb, xo + j * 2 + 1, none⟩ = some (.string (bs val)) from ⟨(h.cell (p := ⟨Bi + 1, 1, none⟩) (by show Bi + 1 < G; omega)).trans c8, (h.cell (p := ⟨xb, xo + j * 2, none⟩) (by show xb < G; omega)).trans x0, (h.cell (p := ⟨xb, xo + j * 2 + 1, none⟩) (by show xb < G; omega)).trans x1⟩))
            have HP := Lib.hid (fun (W : World) (h : Below wr.heap.size wr W) => put_any wd key val tv av W hks hvs hov (among_short ham (fun x hx => (hkl x hx).1)) (hv.up h))
            unfold treeV at HP
            go_wp2_with fail
            refine wp_region_held_drew (S := fun W' => W'.cell? ⟨Bi + 1, 1, none⟩ = some (.slice (some ⟨xb, xo, none⟩) L.length uc) ∧ W'.cell? ⟨xb, xo + j * 2, none⟩ = some (.string (bs key)) ∧ W'.cell? ⟨xb, xo + j * 2 + 1, none⟩ = some (.string (bs val))) (by kernel_rfl) (KS.out _ (Below.refl _ _).drew) (fun hHeld => ?_)
            refine wpAnyH_take (i := 1) (v := ?_) rfl (by kernel_rfl) (by kernel_rfl) (by kernel_rfl) (fun _ _ _ h => h) (Or.inl ⟨by rfl, ?_⟩) (by assumption) ?_
            rotate_left
            · intro w' hSw
              (try dsimp only at hSw)
              go_simp
              try with_reducible rfl
            try simp only [Act.put, List.setIfInBounds_toArray, List.set_cons_zero, List.set_cons_succ]
            refine wpAnyH_take (i := 2) (v := ?_) rfl (by kernel_rfl) (by kernel_rfl) (by kernel_rfl) (fun _ _ _ h => h) (Or.inl ⟨by rfl, ?_⟩) (by assumption) ?_
            rotate_left
            · intro w' hSw
              (try dsimp only at hSw)
              go_simp
              try with_reducible rfl
            try simp only [Act.put, List.setIfInBounds_toArray, List.set_cons_zero, List.set_cons_succ]
            refine wpAnyH_take (i := 3) (v := ?_) rfl (by kernel_rfl) (by kernel_rfl) (by kernel_rfl) (fun _ _ _ h => h) (Or.inl ⟨by rfl, ?_⟩) (by assumption) ?_
            rotate_left
            · intro w' hSw
              (try dsimp only at hSw)
              go_simp
              try with_reducible rfl
            try simp only [Act.put, List.setIfInBounds_toArray, List.set_cons_zero, List.set_cons_succ]
            refine wpAnyH_take (i := 4) (v := ?_) rfl (by kernel_rfl) (by kernel_rfl) (by kernel_rfl) (fun _ _ _ h => h) (Or.inl ⟨by rfl, ?_⟩) (by assumption) ?_
            rotate_left
            · intro w' hSw
              (try dsimp only at hSw)
              go_simp
              try with_reducible rfl
            try simp only [Act.put, List.setIfInBounds_toArray, List.set_cons_zero, List.set_cons_succ]
            refine wpAnyH_take (i := 5) (v := ?_) rfl (by kernel_rfl) (by kernel_rfl) (by kernel_rfl) (fun _ _ _ h => h) (Or.inl ⟨by rfl, ?_⟩) (by assumption) ?_
            rotate_left
            · intro w' hSw
              (try dsimp only at hSw)
              go_simp
              try with_reducible rfl
            try simp only [Act.put, List.setIfInBounds_toArray, List.set_cons_zero, List.set_cons_succ]
            refine wpAnyH_take (i := 6) (v := ?_) rfl (by kernel_rfl) (by kernel_rfl) (by kernel_rfl) (fun _ _ _ h => h) (Or.inl ⟨by rfl, ?_⟩) (by assumption) ?_
            rotate_left
            · intro w' hSw
              (try dsimp only at hSw)
              go_simp
              try with_reducible rfl
            try simp only [Act.put, List.setIfInBounds_toArray, List.set_cons_zero, List.set_cons_succ]
            refine wpAnyH_take (i := 7) (v := ?_) rfl (by kernel_rfl) (by kernel_rfl) (by kernel_rfl) (fun _ _ _ h => h) (Or.inl ⟨by rfl, ?_⟩) (by assumption) ?_
            rotate_left
            · intro w' hSw
              (try dsimp only at hSw)
              go_simp
              try with_reducible rfl
            try simp only [Act.put, List.setIfInBounds_toArray, List.set_cons_zero, List.set_cons_succ]
            refine wpAnyH_take (i := 8) (v := ?_) rfl (by kernel_rfl) (by kernel_rfl) (by kernel_rfl) (fun _ _ _ h => h) (Or.inl ⟨by rfl, ?_⟩) (by assumption) ?_
            rotate_left
            · intro w' hSw
              (try dsimp only at hSw)
              go_simp
              try with_reducible rfl
            try simp only [Act.put, List.setIfInBounds_toArray, List.set_cons_zero, List.set_cons_succ]
            refine wpAnyH_take (i := 9) (v := ?_) rfl (by kernel_rfl) (by kernel_rfl) (by kernel_rfl) (fun _ _ _ h => h) (Or.inl ⟨by rfl, ?_⟩) (by assumption) ?_
            rotate_left
            · intro w' hSw
              (try dsimp only at hSw)
              go_simp
              try with_reducible rfl
            try simp only [Act.put, List.setIfInBounds_toArray, List.set_cons_zero, List.set_cons_succ]
            refine wpAnyH_take (i := 10) (v := ?_) rfl (by kernel_rfl) (by kernel_rfl) (by kernel_rfl) (fun _ _ _ h => h) (Or.inl ⟨by rfl, ?_⟩) (by assumption) ?_
            rotate_left
            · intro w' hSw
              (try dsimp only at hSw)
              go_simp
              try with_reducible rfl
            try simp only [Act.put, List.setIfInBounds_toArray, List.set_cons_zero, List.set_cons_succ]
            refine wpAnyH_take (i := 11) (v := ?_) rfl (by kernel_rfl) (by kernel_rfl) (by kernel_rfl) (fun _ _ _ h => h) (Or.inl ⟨by rfl, ?_⟩) (by assumption) ?_
            rotate_left
            · intro w' hSw
              (try dsimp only at hSw)
              go_simp
              try with_reducible rfl
            try simp only [Act.put, List.setIfInBounds_toArray, List.set_cons_zero, List.set_cons_succ]
            refine wpAnyH_take (i := 12) (v := ?_) rfl (by kernel_rfl) (by kernel_rfl) (by kernel_rfl) (fun _ _ _ h => h) (Or.inl ⟨by rfl, ?_⟩) (by assumption) ?_
            rotate_left
            · intro w' hSw
              (try dsimp only at hSw)
              go_simp
              try with_reducible rfl
            try simp only [Act.put, List.setIfInBounds_toArray, List.set_cons_zero, List.set_cons_succ]
            refine wpAnyH_ready (rs := [0]) (by kernel_rfl) (by simp) ?_
            refine AllReadyH.cons rfl (fun K hK => ?_) AllReadyH.nil
            go_simp
            refine hK.out _ _ (KS.out _ (Below.refl _ _).drew) (fun _ => ?_)
            clear hK K
            try simp only [Act.put, List.setIfInBounds_toArray, List.set_cons_zero, List.set_cons_succ]
            refine wpAnyH_ready (rs := [13]) (by kernel_rfl) (by simp) ?_
            refine AllReadyH.cons rfl (fun K hK => ?_) AllReadyH.nil
            go_simp
            refine (HP.out _ (Below.refl _ _).drew).mono ?_
            rintro e wp ⟨tv2, av2, rfl, hov2, hit2, hv2, hbp⟩
            dsimp only [treeV]
            have hbp2 : Below G wr wp := ((Below.refl _ wr).drew).trans (hbp.mono (by show G ≤ wr.heap.size; exact Nat.le_of_lt h9.lt))
            refine hK.out _ _ (KS.out _ hbp2) (fun _ => ?_)
            clear hK K
            try simp only [Act.put, List.setIfInBounds_toArray, List.set_cons_zero, List.set_cons_succ]
            refine wpAnyH_take (i := 14) (v := ?_) rfl (by kernel_rfl) (by kernel_rfl) (by kernel_rfl) (fun _ _ _ h => h) (Or.inl ⟨by rfl, ?_⟩) (by assumption) ?_
            rotate_left
            · intro w' hSw
              (try dsimp only at hSw)
              go_simp
              try with_reducible rfl
            try simp only [Act.put, List.setIfInBounds_toArray, List.set_cons_zero, List.set_cons_succ]
            refine wpAnyH_take (i := 15) (v := ?_) rfl (by kernel_rfl) (by kernel_rfl) (by kernel_rfl) (fun _ _ _ h => h) (Or.inl ⟨by rfl, ?_⟩) (by assumption) ?_
            rotate_left
            · intro w' hSw
              (try dsimp only at hSw)
              go_simp
              try with_reducible rfl
            try simp only [Act.put, List.setIfInBounds_toArray, List.set_cons_zero, List.set_cons_succ]
            refine wpAnyH_take (i := 16) (v := ?_) rfl (by kernel_rfl) (by kernel_rfl) (by kernel_rfl) (fun _ _ _ h => h) (Or.inl ⟨by rfl, ?_⟩) (by assumption) ?_
            rotate_left
            · intro w' hSw
              (try dsimp only at hSw)
              go_simp
              try with_reducible rfl
            try simp only [Act.put, List.setIfInBounds_toArray, List.set_cons_zero, List.set_cons_succ]
            have h9p := h9.drew.below hbp h9.lt
            have p0 := (h9p.cell 0).trans (show _ = some (Value.int .i64 wd) from rfl)
            have p1 := (h9p.cell 1).trans (show _ = some (Value.pointer av) from rfl)
            have pf0 := h9p.frozen 0
            have pf1 := h9p.frozen 1
            refine wpAnyH_ready (rs := [17]) (by kernel_rfl) (by simp) ?_
            refine AllReadyH.cons rfl (fun K hK => ?_) AllReadyH.nil
            go_simp
            refine hK.out _ _ (KS.out _ ((hbp2.setCell (by simp) _).setCell (by simp) _)) (fun _ => ?_)
            clear hK K
            try simp only [Act.put, List.setIfInBounds_toArray, List.set_cons_zero, List.set_cons_succ]
            refine wpAnyH_done (by kernel_rfl) ?_ _
            have hbq := hb.trans ((hbp2.setCell (p := ⟨G, 0, none⟩) (by simp) (.int .i64 wd)).setCell (p := ⟨G, 1, none⟩) (by simp) (.pointer av2))
            have h9q := (h9p.set_ 0 (.int .i64 wd)).set_ 1 (.pointer av2)
            have hvq := OTrR.put h9p (.int .i64 wd) (.pointer av2) hv2
            have hamq := among_put hov ham hke hit2
            have hfjq := HFJ.out _ hit2
            clear hit2
            go_wp2_with fail
            go_roundw
            case rel => exact ⟨j, (j : Int) - 1, _, _, rfl, by omega, by omega, h9q, hov2, hamq, hfjq, hvq, hbq⟩
            case measure => simp [intOf]
          | zero =>
            obtain rfl : zz = -1 := by omega
            have HS := same_of hsrt hov ham hfj
            obtain ⟨D, hD⟩ : ∃ D, D = rootS wd t := ⟨_, rfl⟩
            have hR1 := fun W h => root_any wd t a W h
            have hR2 := fun W h => root_any wd tv av W h
            rw [← root_one hok hov (HL.out.trans HS.symm), ← hD] at hR2
            rw [← hD] at hR1
            have hlt : ∀ u, t = some u → lowT u := fun u e => low_of (t := u) (by subst e; exact hok) (fun x hx => (hkl x (by rw [← HL.out, e]; exact hx)).1)
            have hlv : ∀ u, tv = some u → lowT u := fun u e => low_of (t := u) (by subst e; exact hov) (fun x hx => (hkl x (by rw [← HS, e]; exact hx)).1)
            have hI1 := fun W h => items_any wd [] (-1) t a W (by simp) hlt hok (by rw [HL.out]; omega) h
            have hI2 := fun W h => items_any wd [] (-1) tv av W (by simp) hlv hov (by rw [HS]; omega) h
            rw [HL.out, someL_all] at hI1
            rw [HS, someL_all] at hI2
            have hS1 := fun W A A' c c' h h' => sameItems_any L A A' c c' W.heap.size W.heap.size W h h' (by omega)
            unfold treeV at hR1 hR2 hI1 hI2
            have HR1 := Lib.hid hR1
            have HR2 := Lib.hid hR2
            have HI1 := Lib.hid hI1
            have HI2 := Lib.hid hI2
            have HS1 := Lib.hid hS1
            have HT := Lib.hid (fun W (h : Below G w5 W) => (ht5.below (h.mono (by omega))).more (show Bi ≤ W.heap.size by have := h.size; have := h8.lt; omega))
            have C7 := Lib.hid (fun W (h : Below G w5 W) => And.intro ((h.cell (p := ⟨Bi, 0, none⟩) (by show Bi < G; omega)).trans ((h7.cell 0).trans (show _ = some (Value.int .i64 wd) from rfl))) ((h.cell (p := ⟨Bi, 1, none⟩) (by show Bi < G; omega)).trans ((h7.cell 1).trans (show _ = some (Value.pointer a) from rfl))))
            clear hR1 hR2 hI1 hI2 hS1 hD HS hfj ham hov hok hkl hlt hlv hsrt hzz2
            obtain ⟨k0, k1⟩ := C7.out wr hb
            have v0 := (h9.cell 0).trans (show _ = some (Value.int .i64 wd) from rfl)
            have v1 := (h9.cell 1).trans (show _ = some (Value.pointer av) from rfl)
            go_wp2_with fail
            refine (HR1.out _ (HT.out _ hb)).mono ?_
            rintro e w10 ⟨rfl, hx⟩
            replace hb := callB hb h9' hx
            replace hv := hv.up hx
            replace h9 := h9.below hx h9.lt
            clear k0 k1 v0 v1
            have v0 := (h9.cell 0).trans (show _ = some (Value.int .i64 wd) from rfl)
            have v1 := (h9.cell 1).trans (show _ = some (Value.pointer av) from rfl)
            clear hx
            go_wp2_with fail
            refine (HR2.out _ hv).mono ?_
            rintro e w11 ⟨rfl, hx⟩
            replace hb := callB hb h9' hx
            replace hv := hv.up hx
            replace h9 := h9.below hx h9.lt
            clear v0 v1
            obtain ⟨k0, k1⟩ := C7.out w11 hb
            clear hx
            go_wp2_with fail
            refine (HI1.out _ (HT.out _ hb)).mono ?_
            rintro e w12 ⟨vc, rfl, hoc, hx⟩
            replace hb := callB hb h9' hx
            replace hv := hv.up hx
            replace h9 := h9.below hx h9.lt
            obtain ⟨cA, cc, rfl⟩ := own_shape hoc
            have hC : ItR w12 w12.heap.size cA L := Rd.of_own hoc
            clear k0 k1 hx hoc
            have v0 := (h9.cell 0).trans (show _ = some (Value.int .i64 wd) from rfl)
            have v1 := (h9.cell 1).trans (show _ = some (Value.pointer av) from rfl)
            go_wp2_with fail
            refine (HI2.out _ hv).mono ?_
            rintro e w13 ⟨vd, rfl, hod, hx⟩
            replace hb := callB hb h9' hx
            have hC2 : ItR w13 w13.heap.size cA L := (Rd.below hC hx).more hx.size
            obtain ⟨dA, dc, rfl⟩ := own_shape hod
            have hDd : ItR w13 w13.heap.size dA L := Rd.of_own hod
            clear v0 v1 hx hod hC hv h9
            go_wp2_with fail
            refine (HS1.out _ _ _ _ _ hC2 hDd).mono ?_
            rintro e w14 ⟨rfl, hx⟩
            replace hb := callB hb h9' hx
            have hC3 : ItR w14 w14.heap.size cA L := (Rd.below hC2 hx).more hx.size
            have hU7 : ItR w14 w14.heap.size uA L := (Rd.below hU5 (hb.mono (by omega))).more (by have := hb.size; have := h8.lt; omega)
            have c8 := C8.out w14 hb
            clear hx hC2 hDd
            go_wp2_with fail
            refine (HS1.out _ _ _ _ _ hC3 hU7).mono ?_
            rintro e w15 ⟨rfl, hx⟩
            replace hb := callB hb h9' hx
            go_wp2_with fail
            go_ret
            exact ⟨by simp, hb5.trans (hb.mono (by omega))⟩
end Go.Proofs.Ytkcnoljjilhpoaa
