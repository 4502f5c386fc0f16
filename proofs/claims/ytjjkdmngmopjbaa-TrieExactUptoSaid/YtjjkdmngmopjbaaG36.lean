/- Of the texts Pf1, Pf2, Pf3, Pf4. -/
import Derived.Test.YtjjkdmngmopjbaaProg
import Derived.Test.YtjjkdmngmopjbaaG35
import Derived.Test.YtjjkdmngmopjbaaG22
import Derived.Test.YtjjkdmngmopjbaaG33
import Derived.Test.YtjjkdmngmopjbaaG28
import Derived.RegionTactic
import Derived.BigRegion
namespace Go.Proofs.Ytjjkdmngmopjbaa
open Go.RowKit
theorem halve (n m : Nat) : ((n / 2 ^ m / 2 : Nat)) = n / 2 ^ (m + 1) := by rw [Nat.div_div_eq_div_mul, Nat.pow_succ]
set_option maxRecDepth 100000 in
theorem rbit_any (k : Key) (p : Nat) (w : World) (hk : k.length ≤ 1000000000) (hp : p ≤ 1000000000000) :
    Calls Try.prog 69 #[.string (bs k), .int .i64 (p : Int)] w fun e w' => e = .returned (.int .i64 (bitN k p)) ∧ w = w' := by
  have hq : (p : Int).tdiv 9 = ((p / 9 : Nat) : Int) := by rw [Int.tdiv_eq_ediv_of_nonneg (by omega)]; omega
  have hq2 : IntKind.i64.wrap ((p / 9 : Nat) : Int) = ((p / 9 : Nat) : Int) := IntWalk.i64_in _ (by omega)
  have hr : (p : Int).tmod 9 = ((p % 9 : Nat) : Int) := by rw [Int.tmod_eq_emod_of_nonneg (by omega)]; omega
  have hr2 : IntKind.i64.wrap ((p % 9 : Nat) : Int) = ((p % 9 : Nat) : Int) := IntWalk.i64_in _ (by omega)
  have h9 : p % 9 < 9 := Nat.mod_lt _ (by omega)
  have HO := Lib.hid (fun h => bitB_out k p h)
  have H1 := Lib.hid (fun h g => bitB_one k p h g)
  have HI := Lib.hid (fun h g => bitB_in k p h g)
  unfold bitN
  generalize bitB k p = b at *
  generalize hP : (p : Int) = P at *
  have hPd : P.tdiv 9 = ((p / 9 : Nat) : Int) := hq
  generalize p / 9 = i at *
  generalize p % 9 = j at *
  by_cases hi : k.length ≤ i
  · obtain rfl := HO.out hi
    have hii : decide ((k.length : Int) ≤ (i : Int)) = true := decide_eq_true (by omega)
    go_enter Try.func69, Try.ntmps69
    go_wp2_with fail
    go_ret
    exact ⟨rfl, rfl⟩
  · have hii : decide ((k.length : Int) ≤ (i : Int)) = false := decide_eq_false (by omega)
    have hil : i < k.length := by omega
    by_cases hj : j = 0
    · subst hj
      obtain rfl := H1.out hil rfl
      go_enter Try.func69, Try.ntmps69
      go_wp2_with fail
      go_ret
      exact ⟨rfl, rfl⟩
    · have hb := Lib.hid (HI.out hil hj)
      have hj0 : ((j : Int) == 0) = false := beq_eq_false_iff_ne.2 (by omega)
      have hx : k[i].toNat < 256 := k[i].toNat_lt
      have hj1 : 1 ≤ j := by omega
      clear HO H1 HI hj
      obtain ⟨V, hV⟩ : ∃ V : Int, V = if b then 1 else 0 := ⟨_, rfl⟩
      rw [← hV]
      have hV1 : V = 0 ∨ V = 1 := by rw [hV]; cases b <;> simp
      have HV := Lib.hid hV
      clear hV
      go_enter Try.func69, Try.ntmps69
      go_wp2_with fail
      go_loop [7, 8] (fun n z => ∃ (m : Nat), n = .int .i64 ((k[i].toNat / 2 ^ m : Nat) : Int) ∧ z = .int .i64 ((j + m : Nat) : Int) ∧ j + m ≤ 8) (fun _ z => 8 - (intOf z).toNat)
      case atStart => exact ⟨0, by simp, by simp, by omega⟩
      case round =>
        obtain ⟨m, rfl, rfl, hm⟩ := hrel
        have hle : k[i].toNat / 2 ^ m ≤ k[i].toNat := Nat.div_le_self _ _
        have hhv := halve k[i].toNat m
        have htb := Nat.testBit_eq_decide_div_mod_eq (x := k[i].toNat) (i := m)
        have hle2 : k[i].toNat / 2 ^ (m + 1) ≤ k[i].toNat := Nat.div_le_self _ _
        generalize k[i].toNat / 2 ^ m = Y at *
        generalize hZ : k[i].toNat / 2 ^ (m + 1) = Z at *
        have HZ := Lib.hid hZ
        clear hZ
        by_cases hlt : j + m < 8
        · have hlti : ((j + m : Nat) : Int) < 8 := by omega
          have hd : (Y : Int).tdiv 2 = (Z : Int) := by
            rw [Int.tdiv_eq_ediv_of_nonneg (by omega)]; omega
          have hd2 : IntKind.i64.wrap (Z : Int) = (Z : Int) := IntWalk.i64_in _ (by omega)
          clear hhv htb hb
          go_wp2_with fail
          go_round
          case rel => exact ⟨m + 1, by rw [HZ.out], by go_num, by omega⟩
          case measure => simp [intOf]; omega
        · have hlti : ¬ ((j + m : Nat) : Int) < 8 := by omega
          have hmm : m = 8 - j := by omega
          have hv : Hid ((Y : Int).tmod 2 = V) := by
            show _ = _
            rw [HV.out, Int.tmod_eq_emod_of_nonneg (by omega), hb.out, ← hmm, htb]
            have h2 := Nat.mod_two_eq_zero_or_one Y
            rcases h2 with h | h <;> rw [h] <;> simp <;> omega
          have hv1 := hv.out
          have hv2 : IntKind.i64.wrap V = V := IntWalk.i64_in _ (by omega)
          clear HV hb hmm hv hhv htb
          go_wp2_with fail
          go_ret
          exact ⟨rfl, rfl⟩
theorem getL_cons (k : Key) (x : Ent) (l : List Ent) : getL k (x :: l) = if x.1 = k then x.2 else getL k l := by
  unfold getL
  rw [List.find?_cons]
  by_cases h : x.1 = k
  · simp [h]
  · have hb : (x.1 == k) = false := beq_eq_false_iff_ne.2 h
    simp only [hb, if_neg h]
set_option maxRecDepth 100000 in
theorem rget_any (wd : Int) (k : Key) (A : Option Addr) (l : List Ent) (c B : Nat) (w : World) (hl : ItR w B A l) (hB : B ≤ w.heap.size) (hlen : l.length ≤ 1000000000) :
    Calls Try.prog 18 #[rtreeV wd (.slice A l.length c), .string (bs k)] w fun e w' => e = .returned (.string (bs (getL k l))) ∧ Below w.heap.size w w' := by
  unfold rtreeV
  obtain ⟨o, hO⟩ : ∃ o, o = getL k l := ⟨_, rfl⟩
  rw [← hO]
  have HO := Lib.hid hO
  clear hO
  have hb0 : Below w.heap.size w (w.alloc (.cells #[.int .i64 wd, .slice A l.length c] 57)) := (Below.refl _ _).alloc (Nat.le_refl _) _
  have hP : Blk (w.alloc (.cells #[.int .i64 wd, .slice A l.length c] 57)) w.heap.size 57 #[.int .i64 wd, .slice A l.length c] := Blk.new _ _ _
  generalize hw0 : w.alloc (.cells #[.int .i64 wd, .slice A l.length c] 57) = w0 at *
  go_enter Try.func18, Try.ntmps18
  go_wp2_with fail
  clear hw0
  have hl0 : ItR w0 B A l := hl.below (hb0.mono hB)
  clear hl
  have c1 := (hP.cell 1).trans (show _ = some (Value.slice A l.length c) from rfl)
  go_loopw [5] (fun z wr => ∃ i : Nat, z = .int .i64 (i : Int) ∧ i ≤ l.length ∧ getL k (l.drop i) = o ∧ wr = w0) (fun z _ => l.length - (intOf z).toNat)
  case atStart => exact ⟨0, rfl, by omega, HO.out.symm, rfl⟩
  case round =>
    clear HO
    obtain ⟨i, rfl, hi, hg, rfl⟩ := hrel
    have HG := Lib.hid hg
    clear hg
    by_cases hlt : i < l.length
    · have hii : (i : Int) < (l.length : Int) := by omega
      obtain ⟨xb, xo, rfl, hxb, x0, x1⟩ := hl0.at_ hlt
      have hdr := List.drop_eq_getElem_cons hlt
      rw [hdr, getL_cons] at HG
      clear hdr
      generalize l[i] = x at *
      obtain ⟨xk, xv⟩ := x
      dsimp only at *
      by_cases he : xk = k
      · subst he
        have HG2 := HG.out
        rw [if_pos rfl] at HG2
        subst HG2
        clear HG
        go_wp2_with fail
        go_ret
        exact ⟨rfl, hb0⟩
      · have he' : (xk == k) = false := beq_eq_false_iff_ne.2 he
        have HG2 := Lib.hid (by have := HG.out; rw [if_neg he] at this; exact this)
        clear HG
        go_wp2_with fail
        go_roundw
        case rel => exact ⟨i + 1, by go_num, by omega, HG2.out, by trivial⟩
        case measure => simp [intOf]; omega
    · have hii : ¬ (i : Int) < (l.length : Int) := by omega
      have ho : o = [] := by
        have := HG.out
        rw [List.drop_eq_nil_of_le (by omega)] at this
        rw [← this]; rfl
      subst ho
      clear HG
      go_wp2_with fail
      go_ret
      exact ⟨rfl, hb0⟩
end Go.Proofs.Ytjjkdmngmopjbaa

namespace Go.Proofs.Ytjjkdmngmopjbaa
open Go.RowKit
/-- what both sides' images answer -/
def RowAns (w : World) (e' : Int) (l : List ImgP) (e : Ending) (w' : World) : Prop :=
  Below w.heap.size w w' ∧ ((e' ≠ 0 ∧ e = .returned (.tuple #[.slice none 0 0, .int .i64 e'])) ∨ (e' = 0 ∧ ∃ v xs, e = .returned (.tuple #[v, .int .i64 0]) ∧ w'.ownsRow w.heap.size 106 2 v l.length xs ∧ Imgs w.heap.size w' v.ownBlock xs l))
theorem row_one {W : World} {B B1 B' : Nat} {tag : Int} {A : Option Addr} {c : Nat} {ps : List (List UInt8)} (hB : B ≤ W.heap.size) (hBB : B1 ≤ B') (hs : Strs W W.heap.size A ps) (hf : From B' A) :
    (W.alloc (.cells #[.int .i64 tag, .slice A ps.length c] 106)).ownsRow B 106 2 (.slice (some ⟨W.heap.size, 0, none⟩) 1 1) 1 [.int .i64 tag, .slice A ps.length c] ∧ Imgs B1 (W.alloc (.cells #[.int .i64 tag, .slice A ps.length c] 106)) (some W.heap.size) [.int .i64 tag, .slice A ps.length c] [(tag, ps)] := by
  refine ⟨⟨rfl, .inr ⟨W.heap.size, 1, #[.int .i64 tag, .slice A ps.length c], rfl, hB, heap_alloc_new W _, Nat.le_refl _, by simp [maxLen], rfl, rfl⟩⟩, rfl, ⟨A, c, rfl, Rd.more (Rd.alloc hs (Nat.le_refl _) _) (by simp), fun b off e => by have := hf b off e; omega, fun hp b off e hbe => ?_⟩, trivial⟩
  obtain ⟨b', off', e', hb', _⟩ := hs.2 hp
  rw [e] at e'
  simp only [Option.some.injEq, Addr.mk.injEq, and_true] at e' hbe
  omega
theorem row_more {W : World} {B B' : Nat} {v : Value} {xs : List Value} {l : List ImgP} {tag : Int} {A : Option Addr} {c : Nat} {ps : List (List UInt8)} (him : Imgs B W v.ownBlock xs l) (hBB : B ≤ B') (hs : Strs W W.heap.size A ps) (hf : From B' A) (hg : ∀ g, v.ownBlock = some g → g < B') :
    Imgs B (W.alloc (.cells #[.int .i64 tag, .slice A ps.length c] 106)) v.ownBlock (xs ++ [.int .i64 tag, .slice A ps.length c]) (l ++ [(tag, ps)]) :=
  (him.below ((Below.refl _ _).alloc (Nat.le_refl _) _)).snoc (im := (tag, ps)) (t := .int .i64 tag) (v := .slice A ps.length c) rfl (IsImg.entry (B := B') (ps := ps) (Rd.more (Rd.alloc hs (Nat.le_refl _) _) (by simp)) hf hBB hg)
set_option maxRecDepth 100000 in
theorem rclimb_long (wd : Int) (k : Key) (x : ProofD) (w : World) (h : 32 < k.length) :
    Calls Try.prog 87 #[.int .i64 wd, .string (bs k), x.val] w (RowAns w (climbE k x) (climbL wd k x).reverse) := by
  have hE : Hid (climbE k x = 3) := by show _ = _; unfold climbE; rw [if_pos h]
  generalize climbE k x = E at *
  have hi : decide ((32 : Int) < (k.length : Int)) = true := decide_eq_true (by omega)
  obtain ⟨x1, x1a, x1c, x2, x3, x4⟩ := x
  dsimp only [ProofD.val]
  go_enter Try.func87, Try.ntmps87
  go_wp2_with fail
  exact bodyPost_ret (v := .tuple #[.slice none 0 0, .int .i64 3]) (by simp [results, Try.results87, go_sem]) rfl ⟨(Below.refl _ _).alloc (Nat.le_refl _) _, .inl ⟨by rw [hE.out]; decide, by rw [hE.out]⟩⟩
set_option maxRecDepth 100000 in
theorem rclimb_bad (wd : Int) (k : Key) (x : ProofD) (B : Nat) (w : World) (h : k.length ≤ 32) (hx : x.held w B) (hB : B ≤ w.heap.size) (hl : proofM x ≤ 10000000) (hr : (Out.empty.proof x).re ≠ 0) :
    Calls Try.prog 87 #[.int .i64 wd, .string (bs k), x.val] w (RowAns w (climbE k x) (climbL wd k x).reverse) := by
  have hE : Hid (climbE k x = (Out.empty.proof x).re) := by show _ = _; unfold climbE; rw [if_neg (by omega), if_pos hr]
  generalize climbE k x = E at *
  have hi : decide ((32 : Int) < (k.length : Int)) = false := decide_eq_false (by omega)
  have hp := fun W g1 g2 => rput_proof x B W g1 g2 hl
  generalize (Out.empty.proof x).re = R at *
  have hR : (R != 0) = true := by simpa using hr
  generalize hrow : (climbL wd k x).reverse = L at *
  clear hrow
  have hx' := fun W (g : Below w.heap.size w W) => hx.below (g.mono hB)
  obtain ⟨x1, x1a, x1c, x2, x3, x4⟩ := x
  dsimp only [ProofD.val] at hp ⊢
  go_enter Try.func87, Try.ntmps87
  go_wp2_with fail
  refine (hp _ (hx' _ ((Below.refl _ _).alloc (Nat.le_refl _) _)) (by simp; omega)).mono ?_
  rintro e w1 ⟨rfl, hb1⟩
  go_wp2_with fail
  exact bodyPost_ret (v := .tuple #[.slice none 0 0, .int .i64 R]) (by simp [results, Try.results87, go_sem]) rfl ⟨((Below.refl _ _).alloc (Nat.le_refl _) _).trans (hb1.mono (by simp)), .inl ⟨by rw [hE.out]; exact hr, by rw [hE.out]⟩⟩
set_option maxRecDepth 100000 in
theorem rclimb_none (wd : Int) (k : Key) (x : ProofD) (B : Nat) (w : World) (h : k.length ≤ 32) (hx : x.held w B) (hB : B ≤ w.heap.size) (hl : proofM x ≤ 10000000) (hr : (Out.empty.proof x).re = 0) (hf : x.leaf = false) :
    Calls Try.prog 87 #[.int .i64 wd, .string (bs k), x.val] w (RowAns w (climbE k x) (climbL wd k x).reverse) := by
  have hE : Hid (climbE k x = 0) := by show _ = _; unfold climbE; rw [if_neg (by omega), hr, if_neg (by simp), if_neg (by simp [hf])]
  have hL : Hid ((climbL wd k x).reverse = [((5 : Int), ([] : List (List UInt8)))]) := by show _ = _; unfold climbL; rw [hf]; rfl
  generalize climbE k x = E at *
  generalize (climbL wd k x).reverse = L at *
  have hi : decide ((32 : Int) < (k.length : Int)) = false := decide_eq_false (by omega)
  have hp := fun W g1 g2 => rput_proof x B W g1 g2 hl
  rw [hr] at hp
  have hx' := fun W (g : Below w.heap.size w W) => hx.below (g.mono hB)
  have hwn := fun W => rwholeNo_any 0 W
  obtain ⟨x1, x1a, x1c, x2, x3, x4⟩ := x
  dsimp only [ProofD.val] at *
  subst hf
  have hb0 : Below w.heap.size w (w.alloc (.cells #[.slice x1a x1.length x1c, .bool false, .string (bs x3), .string (bs x4)] 70)) := (Below.refl _ _).alloc (Nat.le_refl _) _
  have hP : Blk (w.alloc (.cells #[.slice x1a x1.length x1c, .bool false, .string (bs x3), .string (bs x4)] 70)) w.heap.size 70 #[.slice x1a x1.length x1c, .bool false, .string (bs x3), .string (bs x4)] := Blk.new _ _ _
  go_enter Try.func87, Try.ntmps87
  go_wp2_with fail
  refine (hp _ (hx' _ hb0) (Nat.le_trans hB hb0.size) |>.mono ?_)
  rintro e w1 ⟨rfl, hb1⟩
  have hP1 := hP.below hb1 hP.lt
  have hb01 := hb0.trans (hb1.mono hb0.size)
  have p1 := (hP1.cell 1).trans (show _ = some (Value.bool false) from rfl)
  clear hP hb0 hb1 hp
  go_wp2_with fail
  refine (hwn _).mono ?_
  rintro e w2 ⟨y, rfl, ⟨A2, c2, rfl, hs2, hf2⟩, hb2⟩
  have hb02 := hb01.trans (hb2.mono hb01.size)
  have hz := hb02.size
  have hz1 := hb01.size
  have hrow := row_one (tag := 5) (c := c2) (ps := []) (W := w2.alloc (.cells #[.int .i64 5, .slice A2 0 c2] 106)) (B := w.heap.size) (B1 := w.heap.size) (B' := w1.heap.size) (by simp; omega) hz1 (Rd.more (Rd.alloc hs2 (Nat.le_refl _) _) (by simp)) hf2
  rw [World.size_alloc] at hrow
  go_wp2_with fail
  exact bodyPost_ret (v := .tuple #[.slice (some ⟨w2.heap.size + 1, 0, none⟩) 1 1, .int .i64 0]) (by simp [results, Try.results87, go_sem]) rfl ⟨(hb02.alloc hz _).alloc (by simp; omega) _, .inr ⟨hE.out, _, _, rfl, by rw [hL.out]; exact hrow.1, by rw [hL.out]; exact hrow.2⟩⟩
end Go.Proofs.Ytjjkdmngmopjbaa

namespace Go.Proofs.Ytjjkdmngmopjbaa
open Go.RowKit
theorem Strs.box {w : World} {B g : Nat} {t : TypeId} {A A' : Option Addr} {n : Int} {m c : Nat} {ps : List (List UInt8)} (h : Strs w B A ps) (hg : Blk w g t #[.int .i64 n, .slice A' m c]) {p : Addr} (hp : p.block = g) (u : Value) : Strs (w.setCell p u) B A ps := by
  by_cases hn : 0 < ps.length
  · obtain ⟨b, off, rfl, hb, hc⟩ := h.2 hn
    refine Rd.setCell' h (fun e => ?_) u
    rw [hp] at e
    subst e
    have h0 := hc 0 (.string (bs ps[0])) (by simp [hn])
    rw [hg.cell] at h0
    rcases Nat.lt_or_ge (off + 0) 2 with h2 | h2
    · have h3 : off + 0 = 0 ∨ off + 0 = 1 := by omega
      rcases h3 with h3 | h3 <;> rw [h3] at h0 <;> simp at h0
    · rw [Array.getElem?_eq_none (by simpa using h2)] at h0; cases h0
  · exact ⟨h.1, fun hh => absurd hh hn⟩
theorem Imgs.box {base g : Nat} {w : World} {t : TypeId} {A' : Option Addr} {n : Int} {m c : Nat} {row : Option Nat} (hg : Blk w g t #[.int .i64 n, .slice A' m c]) {p : Addr} (hp : p.block = g) (u : Value) : ∀ {xs : List Value} {l : List ImgP}, Imgs base w row xs l → Imgs base (w.setCell p u) row xs l
  | [], [], h => h
  | [], _ :: _, h => h
  | [_], [], h => h
  | [_], _ :: _, h => h
  | _ :: _ :: _, [], h => h
  | x :: y :: xs, i :: l, h => by
    obtain ⟨h1, ⟨A, c', h2, h3, h4, h5⟩, h6⟩ := h
    exact ⟨h1, ⟨A, c', h2, Rd.more (Strs.box h3 hg hp u) (by simp [World.setCell]), h4, h5⟩, Imgs.box hg hp u h6⟩
theorem put_box {W : World} {B1 B2 G m : Nat} {v : Value} {xs : List Value} {l : List ImgP} {tag u1 : Int} {uA A : Option Addr} {un uc c : Nat} {ps : List (List UInt8)} (hG : Blk W G 106 #[.int .i64 u1, .slice uA un uc]) (hGB : G < B2) (hown : W.ownsRow B2 106 2 v m xs) (him : Imgs B1 W v.ownBlock xs l) (hs : Strs W W.heap.size A ps) :
    Blk ((W.setCell ⟨G, 0, none⟩ (.int .i64 tag)).setCell ⟨G, 1, none⟩ (.slice A ps.length c)) G 106 #[.int .i64 tag, .slice A ps.length c] ∧ ((W.setCell ⟨G, 0, none⟩ (.int .i64 tag)).setCell ⟨G, 1, none⟩ (.slice A ps.length c)).ownsRow B2 106 2 v m xs ∧ Imgs B1 ((W.setCell ⟨G, 0, none⟩ (.int .i64 tag)).setCell ⟨G, 1, none⟩ (.slice A ps.length c)) v.ownBlock xs l ∧ Strs ((W.setCell ⟨G, 0, none⟩ (.int .i64 tag)).setCell ⟨G, 1, none⟩ (.slice A ps.length c)) ((W.setCell ⟨G, 0, none⟩ (.int .i64 tag)).setCell ⟨G, 1, none⟩ (.slice A ps.length c)).heap.size A ps ∧ ((W.setCell ⟨G, 0, none⟩ (.int .i64 tag)).setCell ⟨G, 1, none⟩ (.slice A ps.length c)).heap.size ≥ W.heap.size ∧ True := by
  have h1 : Blk (W.setCell ⟨G, 0, none⟩ (.int .i64 tag)) G 106 #[.int .i64 tag, .slice uA un uc] := hG.set_ 0 _
  refine ⟨h1.set_ 1 _, own_set (own_set hown hGB _) hGB _, Imgs.box h1 rfl _ (Imgs.box hG rfl _ him), Rd.more (Strs.box (Strs.box hs hG rfl _) h1 rfl _) (by simp [World.setCell]), by simp [World.setCell], trivial⟩
theorem turns_at {w : World} {B : Nat} {A : Option Addr} {l : List TurnD} (h : TurnsL w B A l) {k : Nat} (hk : k < l.length) : ∃ b off, A = some ⟨b, off, none⟩ ∧ b < B ∧ w.cell? ⟨b, off + k * 2, none⟩ = some (.int .i64 l[k].p) ∧ w.cell? ⟨b, off + k * 2 + 1, none⟩ = some (.int .u64 l[k].d) := by
  obtain ⟨b, off, e, hb, hc⟩ := TurnsL.at_ h hk
  refine ⟨b, off, e, hb, ?_, ?_⟩
  · exact hc 0 _ rfl
  · have := hc 1 _ rfl
    rw [Nat.add_assoc]
    exact this
set_option maxRecDepth 100000 in
set_option maxHeartbeats 8000000 in
theorem rclimb_some (wd : Int) (K : Key) (x : ProofD) (B : Nat) (w : World) (h : K.length ≤ 32) (hx : x.held w B) (hB : B ≤ w.heap.size) (hl : proofM x ≤ 10000000) (hr : (Out.empty.proof x).re = 0) (hf : x.leaf = true) :
    Calls Try.prog 87 #[.int .i64 wd, .string (bs K), x.val] w (RowAns w (climbE K x) (climbL wd K x).reverse) := by
  have hgood := proof_re.1 hr
  have hE : Hid (climbE K x = if x.turns.all (fitB K x.key) = false then 2 else 0) := by
    show _ = _
    unfold climbE
    rw [if_neg (by omega), hr, if_neg (by simp)]
    simp [hf]
  have hL : Hid ((climbL wd K x).reverse = (downP wd K (3, [x.key, x.value]) x.turns).reverse ++ [(5, [be (digP wd K (3, [x.key, x.value]) x.turns) 8])]) := by
    show _ = _
    unfold climbL
    rw [if_pos hf, List.reverse_cons]
    rfl
  generalize climbE K x = E at *
  generalize (climbL wd K x).reverse = L at *
  have hi : decide ((32 : Int) < (K.length : Int)) = false := decide_eq_false (by omega)
  have hp := fun W g1 g2 => rput_proof x B W g1 g2 hl
  rw [hr] at hp
  have hx' := fun W (g : Below w.heap.size w W) => hx.below (g.mono hB)
  obtain ⟨i0, hi0, hz0, hz1, hz2⟩ := info_parts imgInfo
  obtain ⟨ts, ta, tc, x2, a, vv⟩ := x
  have hkl : a.length ≤ 32 := hgood.key
  have hvl : vv.length ≤ 4096 := hgood.value
  have htl : ts.length ≤ 288 := hgood.len
  have hlow : ∀ t ∈ ts, 0 ≤ t.p ∧ t.p ≤ 287 := hgood.low
  dsimp only [ProofD.val] at *
  subst hf
  clear hgood
  have hb0 : Below w.heap.size w (w.alloc (.cells #[.slice ta ts.length tc, .bool true, .string (bs a), .string (bs vv)] 70)) := (Below.refl _ _).alloc (Nat.le_refl _) _
  have hP : Blk (w.alloc (.cells #[.slice ta ts.length tc, .bool true, .string (bs a), .string (bs vv)] 70)) w.heap.size 70 #[.slice ta ts.length tc, .bool true, .string (bs a), .string (bs vv)] := Blk.new _ _ _
  go_enter Try.func87, Try.ntmps87
  go_wp2_with fail
  refine (hp _ (hx' _ hb0) (Nat.le_trans hB hb0.size) |>.mono ?_)
  rintro e w1 ⟨rfl, hb1⟩
  have hP1 := hP.below hb1 hP.lt
  have hb01 := hb0.trans (hb1.mono hb0.size)
  have hxr := fun W (g : Below w.heap.size w W) => (hx' W g).read
  have hdg := hx.digs
  dsimp only at hxr hdg
  have p0 := (hP1.cell 0).trans (show _ = some (Value.slice ta ts.length tc) from rfl)
  have p1 := (hP1.cell 1).trans (show _ = some (Value.bool true) from rfl)
  have p2 := (hP1.cell 2).trans (show _ = some (Value.string (bs a)) from rfl)
  have p3 := (hP1.cell 3).trans (show _ = some (Value.string (bs vv)) from rfl)
  clear hP hb0 hb1 hp hx' hx
  generalize (Out.empty.proof { turns := ts, ta := ta, tc := tc, leaf := true, key := a, value := vv }).rs = RS at *
  go_upto_region 10 with fail
  have hG : Blk ((w1.alloc (.cells #[.string (bs a), .string (bs vv)] 9)).alloc (.cells #[.int .i64 3, .slice (some ⟨w1.heap.size, 0, none⟩) 2 2] 106)) (w1.heap.size + 1) 106 #[.int .i64 3, .slice (some ⟨w1.heap.size, 0, none⟩) 2 2] := by
    have := Blk.new (w1.alloc (.cells #[.string (bs a), .string (bs vv)] 9)) 106 #[.int .i64 3, .slice (some ⟨w1.heap.size, 0, none⟩) 2 2]
    simpa using this
  have hS : Strs ((w1.alloc (.cells #[.string (bs a), .string (bs vv)] 9)).alloc (.cells #[.int .i64 3, .slice (some ⟨w1.heap.size, 0, none⟩) 2 2] 106)) ((w1.alloc (.cells #[.string (bs a), .string (bs vv)] 9)).alloc (.cells #[.int .i64 3, .slice (some ⟨w1.heap.size, 0, none⟩) 2 2] 106)).heap.size (some ⟨w1.heap.size, 0, none⟩) [a, vv] :=
    Rd.more (Rd.alloc (strs2 w1 9 a vv) (by simp) _) (by simp)
  have hX : Blk ((w1.alloc (.cells #[.string (bs a), .string (bs vv)] 9)).alloc (.cells #[.int .i64 3, .slice (some ⟨w1.heap.size, 0, none⟩) 2 2] 106)) w.heap.size 70 #[.slice ta ts.length tc, .bool true, .string (bs a), .string (bs vv)] := (hP1.alloc _).alloc _
  have hbel : Below w.heap.size w ((w1.alloc (.cells #[.string (bs a), .string (bs vv)] 9)).alloc (.cells #[.int .i64 3, .slice (some ⟨w1.heap.size, 0, none⟩) 2 2] 106)) := (hb01.alloc hb01.size _).alloc (by have := hb01.size; simp; omega) _
  have hGB : w1.heap.size + 1 < ((w1.alloc (.cells #[.string (bs a), .string (bs vv)] 9)).alloc (.cells #[.int .i64 3, .slice (some ⟨w1.heap.size, 0, none⟩) 2 2] 106)).heap.size := by simp
  have hXS := hP1.lt
  generalize ((w1.alloc (.cells #[.string (bs a), .string (bs vv)] 9)).alloc (.cells #[.int .i64 3, .slice (some ⟨w1.heap.size, 0, none⟩) 2 2] 106)) = w2 at *
  clear p0 p1 p2 p3 hP1 hb01
  generalize w1.heap.size = S at *
  obtain ⟨G, hGe⟩ : ∃ G, G = S + 1 := ⟨_, rfl⟩
  rw [← hGe] at hG hGB ⊢
  have hSG : S < G := by omega
  have hXG : w.heap.size ≠ G := by omega
  have hXG2 : w.heap.size < G := by omega
  clear hGe
  obtain ⟨hrow, himg⟩ := row_one (tag := 3) (c := 2) (B := w2.heap.size) (B1 := S) (B' := S) (Nat.le_refl _) (Nat.le_refl _) hS (from_some (Nat.le_refl _))
  have g0 := (hG.cell 0).trans (show _ = some (Value.int .i64 3) from rfl)
  have g1 := (hG.cell 1).trans (show _ = some (Value.slice (some ⟨S, 0, none⟩) 2 2) from rfl)
  have ga0 := fun o => hG.cell_a 0 (Value.int .i64 3) rfl o
  have ga1 := fun o => hG.cell_a 1 (Value.slice (some ⟨S, 0, none⟩) 2 2) rfl o
  go_wp2_with fail
  refine (rimageDigest_any wd 3 [a, vv] (some ⟨S, 0, none⟩) 2 w2.heap.size _ (Rd.alloc hS (Nat.le_refl _) _) (by simp) (by simp [maxLen]) (short2 (by unfold maxLen; omega) (by unfold maxLen; omega))).mono ?_
  rintro e w3 ⟨rfl, hb3⟩
  have hbA : Below w2.heap.size w2 w3 := ((Below.refl _ _).alloc (Nat.le_refl _) _).trans (hb3.mono (by simp))
  have hrow3 := own_below hrow hb3
  have himg3 := himg.below hb3
  have hX3 := hX.below hbA hX.lt
  have hG3 := hG.below hbA hG.lt
  have hbel3 := hbel.trans (hbA.mono hbel.size)
  have hz3 := hbA.size
  clear hrow himg hX hG hbel g0 g1 ga0 ga1 hb3 hbA hS
  generalize w2.heap.size = B2 at *
  have x0 := (hX3.cell 0).trans (show _ = some (Value.slice ta ts.length tc) from rfl)
  have hn1 : IntKind.i64.wrap ((ts.length : Int) - 1) = (ts.length : Int) - 1 := IntWalk.i64_in _ (by omega)
  go_wp2_with fail
  go_loopw [12, 13, 14, 15, 16, 17, 18, 19, 20, 21] (fun v d i _ _ _ _ _ _ _ wr => ∃ (j m : Nat) (xs : List Value) (q D : Int) (v' : Value) (u1 : Int) (uA : Option Addr) (un uc : Nat), i = .int .i64 q ∧ q = (j : Int) - 1 ∧ j ≤ ts.length ∧ d = .int .u64 D ∧ D = digP wd K (3, [a, vv]) (ts.drop j) ∧ v' = v ∧ m = (downP wd K (3, [a, vv]) (ts.drop j)).reverse.length ∧ (ts.drop j).all (fitB K a) = true ∧ wr.ownsRow B2 106 2 v' m xs ∧ Imgs S wr v'.ownBlock xs (downP wd K (3, [a, vv]) (ts.drop j)).reverse ∧ Blk wr w.heap.size 70 #[.slice ta ts.length tc, .bool true, .string (bs a), .string (bs vv)] ∧ Blk wr G 106 #[.int .i64 u1, .slice uA un uc] ∧ Below w.heap.size w wr ∧ B2 ≤ wr.heap.size) (fun _ _ i _ _ _ _ _ _ _ _ => (intOf i + 1).toNat)
  case atStart =>
    refine ⟨ts.length, 1, _, (ts.length : Int) - 1, ofS wd 3 [a, vv], _, _, _, _, _, by go_num, rfl, Nat.le_refl _, rfl, ?_, rfl, ?_, ?_, hrow3, ?_, hX3, hG3, hbel3, hz3⟩
    · rw [List.drop_length]; rfl
    · rw [List.drop_length]; rfl
    · rw [List.drop_length]; rfl
    · rw [List.drop_length]; exact himg3
  case round =>
    obtain ⟨j, m, xs, q, D, v, u1, uA, un, uc, rfl, hq, hj, rfl, hdg1, rfl, hm, hfk, hown, himg, hX, hG, hbel, hB2⟩ := hrel
    clear hrow3 himg3 hX3 hG3 hbel3 x0 hn1 hz3
    have hB1 : S ≤ wr.heap.size := by omega
    have hml : m ≤ ts.length + 1 := by
      rw [hm, List.length_reverse, downP_len, List.length_drop]; omega
    have hcb := digP_bd wd K (3, [a, vv]) (ts.drop j)
    rw [← hdg1] at hcb
    have x0 := (hX.cell 0).trans (show _ = some (Value.slice ta ts.length tc) from rfl)
    have x2 := (hX.cell 2).trans (show _ = some (Value.string (bs a)) from rfl)
    have hXL := hX.lt
    by_cases hj0 : 0 < j
    · obtain ⟨k, rfl⟩ : ∃ k, j = k + 1 := ⟨j - 1, by omega⟩
      have hq2 : q = (k : Int) := by omega
      clear hq
      subst hq2
      have hk : k < ts.length := by omega
      have hki : (k : Int) < (ts.length : Int) := by omega
      have hk0 : (0 : Int) ≤ (k : Int) := by omega
      have hdr := List.drop_eq_getElem_cons hk
      obtain ⟨bt, ot, rfl, hbt, kt0, kt1⟩ := turns_at (hxr wr hbel) hk
      have hpl := hlow ts[k] (List.getElem_mem hk)
      have hdk := hdg ts[k] (List.getElem_mem hk)
      have hmem : ts[k] ∈ ts := List.getElem_mem hk
      generalize ts[k] = t at *
      obtain ⟨p, dk⟩ := t
      unfold TurnD.ok at hdk
      dsimp only at kt0 kt1 hpl hdk
      obtain ⟨P, rfl⟩ := Int.eq_ofNat_of_zero_le hpl.1
      have hC : downP wd K (3, [a, vv]) (ts.drop k) = (4, forkS K ⟨(P : Int), dk⟩ D) :: downP wd K (3, [a, vv]) (ts.drop (k + 1)) := by rw [hdr, downP, hdg1]
      have hD : digP wd K (3, [a, vv]) (ts.drop k) = ofS wd 4 (forkS K ⟨(P : Int), dk⟩ D) := by rw [hdr, digP, hdg1]
      have HF : Hid ((ts.drop k).all (fitB K a) = fitB K a ⟨(P : Int), dk⟩) := by show _ = _; rw [hdr, List.all_cons, hfk, Bool.and_true]
      have hbit : fitB K a ⟨(P : Int), dk⟩ = (bitB K P == bitB a P) := rfl
      have hfork : forkS K ⟨(P : Int), dk⟩ D = if bitB K P then [be (P : Int) 5, be dk 8, be D 8] else [be (P : Int) 5, be D 8, be dk 8] := rfl
      rw [hfork] at hC hD
      have hc1 := fun W => rbit_any K P W (by omega) (by omega)
      have hc2 := fun W => rbit_any a P W (by omega) (by omega)
      unfold bitN at hc1 hc2
      have hall : Hid (fitB K a ⟨(P : Int), dk⟩ = false → ts.all (fitB K a) = false) := fun hh => by
        rw [List.all_eq_false]
        exact ⟨_, hmem, by rw [hh]; simp⟩
      have hT := Blk.new wr 141 #[.int .i64 (P : Int), .int .u64 dk]
      have hTb : Below wr.heap.size wr (wr.alloc (.cells #[.int .i64 (P : Int), .int .u64 dk] 141)) := (Below.refl _ _).alloc (Nat.le_refl _) _
      have hXt := hX.below hTb hX.lt
      have t0 := (hT.cell 0).trans (show _ = some (Value.int .i64 (P : Int)) from rfl)
      have t1 := (hT.cell 1).trans (show _ = some (Value.int .u64 dk) from rfl)
      have xt2 := (hXt.cell 2).trans (show _ = some (Value.string (bs a)) from rfl)
      clear hdr hlow hdg hxr hmem hdg1 hfork
      generalize bitB K P = b1 at *
      generalize bitB a P = b2 at *
      cases hbb : (b1 == b2)
      · as_aux_lemma =>
        rw [hbb] at hbit
        have hEE : Hid (E = 2) := by show _ = _; rw [hE.out, hall.out hbit]; rfl
        clear hC hD HF hbit hall hE hm himg
        cases b1 <;> cases b2 <;> first | (exfalso; simp at hbb; done) | skip
        all_goals
          simp only [Bool.false_eq_true, if_false, if_true] at hc1 hc2
          go_wp2_with fail
          refine (hc1 _).mono ?_
          rintro e w4 ⟨rfl, rfl⟩
          go_wp2_with fail
          refine (hc2 _).mono ?_
          rintro e w4 ⟨rfl, rfl⟩
          go_wp2_with fail
          exact bodyPost_ret (v := .tuple #[.slice none 0 0, .int .i64 2]) (by simp [results, Try.results87, go_sem]) rfl ⟨hbel.trans (hTb.mono hbel.size), .inl ⟨by rw [hEE.out]; decide, by rw [hEE.out]⟩⟩
      · rw [hbb] at hbit
        have hfk := Lib.hid hbit
        have HMM := Lib.hid hm
        cases b1 <;> cases b2 <;> first | (exfalso; simp at hbb; done) | skip
        · simp only [Bool.false_eq_true, if_false] at hc1 hc2 hC hD
          have HC := Lib.hid hC
          have HD := Lib.hid hD
          clear hC hD hbb hbit hall hE
          go_wp2_with fail
          refine (hc1 _).mono ?_
          rintro e w4 ⟨rfl, rfl⟩
          go_wp2_with fail
          refine (hc2 _).mono ?_
          rintro e w4 ⟨rfl, rfl⟩
          go_wp2_with fail
          refine (rfive_any (P : Int) _).mono ?_
          rintro e w4 ⟨rfl, hb4⟩
          go_wp2_with fail
          refine (reight_any D _ hcb.1 hcb.2).mono ?_
          rintro e w5 ⟨rfl, hb5⟩
          have hb45 := hb4.trans (hb5.mono hb4.size)
          have hT5 := hT.below hb45 hT.lt
          have t51 := (hT5.cell 1).trans (show _ = some (Value.int .u64 dk) from rfl)
          go_wp2_with fail
          refine (reight_any dk _ hdk.1 hdk.2).mono ?_
          rintro e w6 ⟨rfl, hb6⟩
          have hb5 : Below wr.heap.size wr w6 := hTb.trans ((hb45.trans (hb6.mono hb45.size)).mono hTb.size)
          clear hb45 hT5 t51 hb4 hb6 t0 t1 xt2 hTb hXt hT x0 x2 kt0 kt1
          obtain ⟨w5, rfl⟩ : ∃ W, W = w6 := ⟨_, rfl⟩
          have hz5 := hb5.size
          as_aux_lemma =>
          go_upto_region 26 with fail
          have hst : Strs (w5.alloc (.cells #[.string (bs (be (P : Int) 5)), .string (bs (be D 8)), .string (bs (be dk 8))] 9)) (w5.alloc (.cells #[.string (bs (be (P : Int) 5)), .string (bs (be D 8)), .string (bs (be dk 8))] 9)).heap.size (some ⟨w5.heap.size, 0, none⟩) [be (P : Int) 5, be D 8, be dk 8] := by
            have h9 := Strs.laid (w := w5) (t := 9) [be (P : Int) 5, be D 8, be dk 8]
            have h10 := Rd.more h9 (show _ ≤ (w5.alloc (.cells #[.string (bs (be (P : Int) 5)), .string (bs (be D 8)), .string (bs (be dk 8))] 9)).heap.size by simp)
            simpa [Strs] using h10
          have hbw : Below wr.heap.size wr (w5.alloc (.cells #[.string (bs (be (P : Int) 5)), .string (bs (be D 8)), .string (bs (be dk 8))] 9)) := hb5.alloc hz5 _
          have hzw : w5.heap.size < (w5.alloc (.cells #[.string (bs (be (P : Int) 5)), .string (bs (be D 8)), .string (bs (be dk 8))] 9)).heap.size := by first | (simp; done) | (simp; omega)
          generalize hW5 : (w5.alloc (.cells #[.string (bs (be (P : Int) 5)), .string (bs (be D 8)), .string (bs (be dk 8))] 9)) = W5 at *
          have HW5 := Lib.hid hW5
          clear hW5
          have hownw := own_below hown hbw
          have himgw := himg.below hbw
          have hXw := hX.below hbw hX.lt
          have hGw := hG.below hbw hG.lt
          have hbelw := hbel.trans (hbw.mono hbel.size)
          obtain ⟨g1, g2, g3, g4, g5, g6⟩ := put_box (tag := 4) hGw hGB hownw himgw hst
          have hX6 := (hXw.far (p := ⟨G, 0, none⟩) hXG (.int .i64 4)).far (p := ⟨G, 1, none⟩) hXG (.slice (some ⟨w5.heap.size, 0, none⟩) ([be (P : Int) 5, be D 8, be dk 8]).length 3)
          have hbel6 : Below w.heap.size w ((W5.setCell ⟨G, 0, none⟩ (.int .i64 4)).setCell ⟨G, 1, none⟩ (.slice (some ⟨w5.heap.size, 0, none⟩) ([be (P : Int) 5, be D 8, be dk 8]).length 3)) := (hbelw.setCell (by simp; omega) _).setCell (by simp; omega) _
          have f0 := hGw.frozen 0
          have f1 := hGw.frozen 1
          have cg0 := (hGw.cell 0).trans (show _ = some (Value.int .i64 u1) from rfl)
          have cg1 := (hGw.cell 1).trans (show _ = some (Value.slice uA un uc) from rfl)
          have cg2 : (W5.setCell ⟨G, 0, none⟩ (.int .i64 4)).cell? ⟨G, 1, none⟩ = some (.slice uA un uc) := ((hGw.set_ 0 (.int .i64 4)).cell 1).trans rfl
          have f2 : (W5.setCell ⟨G, 0, none⟩ (.int .i64 4)).frozen? ⟨G, 1, none⟩ = false := (hGw.set_ 0 (.int .i64 4)).frozen 1
          go_upto_region 27 with fail
          simp only [List.length_cons, List.length_nil, Nat.zero_add, Nat.reduceAdd] at g1 g2 g3 g4 g5 g6 hX6 hbel6
          generalize hW6 : ((W5.setCell ⟨G, 0, none⟩ (.int .i64 4)).setCell ⟨G, 1, none⟩ (.slice (some ⟨w5.heap.size, 0, none⟩) 3 3)) = W6 at *
          have HW6 := Lib.hid hW6
          clear hW6 f0 f1 cg0 cg1 cg2 f2
          have q0 := (g1.cell 0).trans (show _ = some (Value.int .i64 4) from rfl)
          have q1 := (g1.cell 1).trans (show _ = some (Value.slice (some ⟨w5.heap.size, 0, none⟩) 3 3) from rfl)
          have hrm := row_more (tag := 4) (c := 3) (ps := [be (P : Int) 5, be D 8, be dk 8]) (B' := wr.heap.size) g3 hB1 g4 (from_some (by omega)) (fun g hg => by have := (hown.lt g hg).2; omega)
          simp only [List.length_cons, List.length_nil, Nat.zero_add, Nat.reduceAdd] at hrm
          have hlaid : Rd (W6.alloc (.cells #[.int .i64 4, .slice (some ⟨w5.heap.size, 0, none⟩) 3 3] 106)) (W6.heap.size + 1) 2 (some ⟨W6.heap.size, 0, none⟩) 1 [.int .i64 4, .slice (some ⟨w5.heap.size, 0, none⟩) 3 3] := by
            have := Rd.laid W6 #[.int .i64 4, .slice (some ⟨w5.heap.size, 0, none⟩) 3 3] 106 2 1 rfl
            simpa using this
          have hst6 : Strs (W6.alloc (.cells #[.int .i64 4, .slice (some ⟨w5.heap.size, 0, none⟩) 3 3] 106)) (W6.alloc (.cells #[.int .i64 4, .slice (some ⟨w5.heap.size, 0, none⟩) 3 3] 106)).heap.size (some ⟨w5.heap.size, 0, none⟩) [be (P : Int) 5, be D 8, be dk 8] := Rd.more (Rd.alloc g4 (Nat.le_refl _) _) (by simp)
          have l1 : m + 1 ≤ maxLen := by simp [maxLen]; omega
          have l3 : B2 ≤ (W6.alloc (.cells #[.int .i64 4, .slice (some ⟨w5.heap.size, 0, none⟩) 3 3] 106)).heap.size := by simp; omega
          have l4 := (g2.alloc (.cells #[.int .i64 4, .slice (some ⟨w5.heap.size, 0, none⟩) 3 3] 106))
          go_wp2_with (first
            | (at_builtin; refine wpList_append_any _ rfl (.tmp 95) (.tmp 97) 158 rfl B2 106 i0 _ 2 32 Try.underlying158 hi0 hz0 hz1 hz2 rfl (by omega) v m _ (by rfl) l4 (W6.heap.size + 1) _ 1 1 [.int .i64 4, .slice (some ⟨w5.heap.size, 0, none⟩) 3 3] (by rfl) hlaid (fun u hu => by simp at hu; rcases hu with rfl | rfl <;> rfl) l1 (by omega) l3 ?_
               intro v7 w7 hown7 hg7 hat7
               have himg7 := hrm.step hg7 hat7
               have hgn : ∀ g, some g = v.ownBlock → B2 ≤ g := fun g e => own_ge hown g e.symm
               have hX7 := (hX6.alloc (.cells #[.int .i64 4, .slice (some ⟨w5.heap.size, 0, none⟩) 3 3] 106)).grown hg7 (fun e => by have := hgn _ e; omega)
               have hG7 := (g1.alloc (.cells #[.int .i64 4, .slice (some ⟨w5.heap.size, 0, none⟩) 3 3] 106)).grown hg7 (fun e => by have := hgn _ e; omega)
               have hbel7 : Below w.heap.size w w7 := (hbel6.alloc hbel6.size (.cells #[.int .i64 4, .slice (some ⟨w5.heap.size, 0, none⟩) 3 3] 106)).grown hg7 (by have := hbel6.size; simp; omega) (fun k hk => by have := own_ge hown k hk; omega)
               have hz7 := hg7.size
               have hst7 := Strs.stays hst6 hg7 (fun _ b' off' e hbe => by
                 simp only [Option.some.injEq, Addr.mk.injEq, and_true] at e
                 have := (hown.lt b' hbe.symm).2
                 omega)
               have q70 := (hG7.cell 0).trans (show _ = some (Value.int .i64 4) from rfl)
               have q71 := (hG7.cell 1).trans (show _ = some (Value.slice (some ⟨w5.heap.size, 0, none⟩) 3 3) from rfl)))
          go_wp2_with fail
          refine (rimageDigest_any wd 4 [be (P : Int) 5, be D 8, be dk 8] (some ⟨w5.heap.size, 0, none⟩) 3 w7.heap.size w7 hst7 (Nat.le_refl _) (by simp [maxLen]) (short3 _ _ _)).mono ?_
          rintro e w8 ⟨rfl, hb8⟩
          simp only [World.size_alloc] at hz7
          go_wp2_with fail
          go_roundw
          case rel =>
            refine ⟨k, m + 1, _, (k : Int) - 1, digP wd K (3, [a, vv]) (ts.drop k), v7, 4, _, _, _, by go_num, rfl, by omega, by rw [HD.out], rfl, rfl, ?_, ?_, own_below hown7 hb8, ?_, hX7.below hb8 hX7.lt, hG7.below hb8 hG7.lt, hbel7.trans (hb8.mono hbel7.size), by have := hb8.size; omega⟩
            · rw [HC.out]; simp only [List.length_reverse, List.length_cons] at hm ⊢; omega
            · rw [HF.out]; exact hfk.out
            · rw [HC.out, List.reverse_cons]; exact himg7.below hb8
          case measure => first | (simp [intOf]; done) | (simp [intOf]; omega)
        · simp only [if_true] at hc1 hc2 hC hD
          have HC := Lib.hid hC
          have HD := Lib.hid hD
          clear hC hD hbb hbit hall hE
          go_wp2_with fail
          refine (hc1 _).mono ?_
          rintro e w4 ⟨rfl, rfl⟩
          go_wp2_with fail
          refine (hc2 _).mono ?_
          rintro e w4 ⟨rfl, rfl⟩
          go_wp2_with fail
          refine (rfive_any (P : Int) _).mono ?_
          rintro e w4 ⟨rfl, hb4⟩
          go_wp2_with fail
          refine (reight_any D _ hcb.1 hcb.2).mono ?_
          rintro e w5 ⟨rfl, hb5⟩
          have hb45 := hb4.trans (hb5.mono hb4.size)
          have hT5 := hT.below hb45 hT.lt
          have t51 := (hT5.cell 1).trans (show _ = some (Value.int .u64 dk) from rfl)
          go_wp2_with fail
          refine (reight_any dk _ hdk.1 hdk.2).mono ?_
          rintro e w6 ⟨rfl, hb6⟩
          have hb5 : Below wr.heap.size wr w6 := hTb.trans ((hb45.trans (hb6.mono hb45.size)).mono hTb.size)
          clear hb45 hT5 t51 hb4 hb6 t0 t1 xt2 hTb hXt hT x0 x2 kt0 kt1
          obtain ⟨w5, rfl⟩ : ∃ W, W = w6 := ⟨_, rfl⟩
          have hz5 := hb5.size
          as_aux_lemma =>
          go_upto_region 26 with fail
          have hst : Strs ((w5.alloc (.cells #[.string (bs (be (P : Int) 5)), .string (bs (be D 8)), .string (bs (be dk 8))] 9)).alloc (.cells #[.string (bs (be (P : Int) 5)), .string (bs (be dk 8)), .string (bs (be D 8))] 9)) ((w5.alloc (.cells #[.string (bs (be (P : Int) 5)), .string (bs (be D 8)), .string (bs (be dk 8))] 9)).alloc (.cells #[.string (bs (be (P : Int) 5)), .string (bs (be dk 8)), .string (bs (be D 8))] 9)).heap.size (some ⟨(w5.heap.size + 1), 0, none⟩) [be (P : Int) 5, be dk 8, be D 8] := by
            have h9 := Strs.laid (w := (w5.alloc (.cells #[.string (bs (be (P : Int) 5)), .string (bs (be D 8)), .string (bs (be dk 8))] 9))) (t := 9) [be (P : Int) 5, be dk 8, be D 8]
            have h10 := Rd.more h9 (show _ ≤ ((w5.alloc (.cells #[.string (bs (be (P : Int) 5)), .string (bs (be D 8)), .string (bs (be dk 8))] 9)).alloc (.cells #[.string (bs (be (P : Int) 5)), .string (bs (be dk 8)), .string (bs (be D 8))] 9)).heap.size by simp)
            simpa [Strs] using h10
          have hbw : Below wr.heap.size wr ((w5.alloc (.cells #[.string (bs (be (P : Int) 5)), .string (bs (be D 8)), .string (bs (be dk 8))] 9)).alloc (.cells #[.string (bs (be (P : Int) 5)), .string (bs (be dk 8)), .string (bs (be D 8))] 9)) := (hb5.alloc hz5 _).alloc (by simp; omega) _
          have hzw : w5.heap.size < ((w5.alloc (.cells #[.string (bs (be (P : Int) 5)), .string (bs (be D 8)), .string (bs (be dk 8))] 9)).alloc (.cells #[.string (bs (be (P : Int) 5)), .string (bs (be dk 8)), .string (bs (be D 8))] 9)).heap.size := by first | (simp; done) | (simp; omega)
          generalize hW5 : ((w5.alloc (.cells #[.string (bs (be (P : Int) 5)), .string (bs (be D 8)), .string (bs (be dk 8))] 9)).alloc (.cells #[.string (bs (be (P : Int) 5)), .string (bs (be dk 8)), .string (bs (be D 8))] 9)) = W5 at *
          have HW5 := Lib.hid hW5
          clear hW5
          have hownw := own_below hown hbw
          have himgw := himg.below hbw
          have hXw := hX.below hbw hX.lt
          have hGw := hG.below hbw hG.lt
          have hbelw := hbel.trans (hbw.mono hbel.size)
          obtain ⟨g1, g2, g3, g4, g5, g6⟩ := put_box (tag := 4) hGw hGB hownw himgw hst
          have hX6 := (hXw.far (p := ⟨G, 0, none⟩) hXG (.int .i64 4)).far (p := ⟨G, 1, none⟩) hXG (.slice (some ⟨(w5.heap.size + 1), 0, none⟩) ([be (P : Int) 5, be dk 8, be D 8]).length 3)
          have hbel6 : Below w.heap.size w ((W5.setCell ⟨G, 0, none⟩ (.int .i64 4)).setCell ⟨G, 1, none⟩ (.slice (some ⟨(w5.heap.size + 1), 0, none⟩) ([be (P : Int) 5, be dk 8, be D 8]).length 3)) := (hbelw.setCell (by simp; omega) _).setCell (by simp; omega) _
          have f0 := hGw.frozen 0
          have f1 := hGw.frozen 1
          have cg0 := (hGw.cell 0).trans (show _ = some (Value.int .i64 u1) from rfl)
          have cg1 := (hGw.cell 1).trans (show _ = some (Value.slice uA un uc) from rfl)
          have cg2 : (W5.setCell ⟨G, 0, none⟩ (.int .i64 4)).cell? ⟨G, 1, none⟩ = some (.slice uA un uc) := ((hGw.set_ 0 (.int .i64 4)).cell 1).trans rfl
          have f2 : (W5.setCell ⟨G, 0, none⟩ (.int .i64 4)).frozen? ⟨G, 1, none⟩ = false := (hGw.set_ 0 (.int .i64 4)).frozen 1
          go_upto_region 27 with fail
          simp only [List.length_cons, List.length_nil, Nat.zero_add, Nat.reduceAdd] at g1 g2 g3 g4 g5 g6 hX6 hbel6
          generalize hW6 : ((W5.setCell ⟨G, 0, none⟩ (.int .i64 4)).setCell ⟨G, 1, none⟩ (.slice (some ⟨(w5.heap.size + 1), 0, none⟩) 3 3)) = W6 at *
          have HW6 := Lib.hid hW6
          clear hW6 f0 f1 cg0 cg1 cg2 f2
          have q0 := (g1.cell 0).trans (show _ = some (Value.int .i64 4) from rfl)
          have q1 := (g1.cell 1).trans (show _ = some (Value.slice (some ⟨(w5.heap.size + 1), 0, none⟩) 3 3) from rfl)
          have hrm := row_more (tag := 4) (c := 3) (ps := [be (P : Int) 5, be dk 8, be D 8]) (B' := wr.heap.size) g3 hB1 g4 (from_some (by omega)) (fun g hg => by have := (hown.lt g hg).2; omega)
          simp only [List.length_cons, List.length_nil, Nat.zero_add, Nat.reduceAdd] at hrm
          have hlaid : Rd (W6.alloc (.cells #[.int .i64 4, .slice (some ⟨(w5.heap.size + 1), 0, none⟩) 3 3] 106)) (W6.heap.size + 1) 2 (some ⟨W6.heap.size, 0, none⟩) 1 [.int .i64 4, .slice (some ⟨(w5.heap.size + 1), 0, none⟩) 3 3] := by
            have := Rd.laid W6 #[.int .i64 4, .slice (some ⟨(w5.heap.size + 1), 0, none⟩) 3 3] 106 2 1 rfl
            simpa using this
          have hst6 : Strs (W6.alloc (.cells #[.int .i64 4, .slice (some ⟨(w5.heap.size + 1), 0, none⟩) 3 3] 106)) (W6.alloc (.cells #[.int .i64 4, .slice (some ⟨(w5.heap.size + 1), 0, none⟩) 3 3] 106)).heap.size (some ⟨(w5.heap.size + 1), 0, none⟩) [be (P : Int) 5, be dk 8, be D 8] := Rd.more (Rd.alloc g4 (Nat.le_refl _) _) (by simp)
          have l1 : m + 1 ≤ maxLen := by simp [maxLen]; omega
          have l3 : B2 ≤ (W6.alloc (.cells #[.int .i64 4, .slice (some ⟨(w5.heap.size + 1), 0, none⟩) 3 3] 106)).heap.size := by simp; omega
          have l4 := (g2.alloc (.cells #[.int .i64 4, .slice (some ⟨(w5.heap.size + 1), 0, none⟩) 3 3] 106))
          go_wp2_with (first
            | (at_builtin; refine wpList_append_any _ rfl (.tmp 95) (.tmp 97) 158 rfl B2 106 i0 _ 2 32 Try.underlying158 hi0 hz0 hz1 hz2 rfl (by omega) v m _ (by rfl) l4 (W6.heap.size + 1) _ 1 1 [.int .i64 4, .slice (some ⟨(w5.heap.size + 1), 0, none⟩) 3 3] (by rfl) hlaid (fun u hu => by simp at hu; rcases hu with rfl | rfl <;> rfl) l1 (by omega) l3 ?_
               intro v7 w7 hown7 hg7 hat7
               have himg7 := hrm.step hg7 hat7
               have hgn : ∀ g, some g = v.ownBlock → B2 ≤ g := fun g e => own_ge hown g e.symm
               have hX7 := (hX6.alloc (.cells #[.int .i64 4, .slice (some ⟨(w5.heap.size + 1), 0, none⟩) 3 3] 106)).grown hg7 (fun e => by have := hgn _ e; omega)
               have hG7 := (g1.alloc (.cells #[.int .i64 4, .slice (some ⟨(w5.heap.size + 1), 0, none⟩) 3 3] 106)).grown hg7 (fun e => by have := hgn _ e; omega)
               have hbel7 : Below w.heap.size w w7 := (hbel6.alloc hbel6.size (.cells #[.int .i64 4, .slice (some ⟨(w5.heap.size + 1), 0, none⟩) 3 3] 106)).grown hg7 (by have := hbel6.size; simp; omega) (fun k hk => by have := own_ge hown k hk; omega)
               have hz7 := hg7.size
               have hst7 := Strs.stays hst6 hg7 (fun _ b' off' e hbe => by
                 simp only [Option.some.injEq, Addr.mk.injEq, and_true] at e
                 have := (hown.lt b' hbe.symm).2
                 omega)
               have q70 := (hG7.cell 0).trans (show _ = some (Value.int .i64 4) from rfl)
               have q71 := (hG7.cell 1).trans (show _ = some (Value.slice (some ⟨(w5.heap.size + 1), 0, none⟩) 3 3) from rfl)))
          go_wp2_with fail
          refine (rimageDigest_any wd 4 [be (P : Int) 5, be dk 8, be D 8] (some ⟨(w5.heap.size + 1), 0, none⟩) 3 w7.heap.size w7 hst7 (Nat.le_refl _) (by simp [maxLen]) (short3 _ _ _)).mono ?_
          rintro e w8 ⟨rfl, hb8⟩
          simp only [World.size_alloc] at hz7
          go_wp2_with fail
          go_roundw
          case rel =>
            refine ⟨k, m + 1, _, (k : Int) - 1, digP wd K (3, [a, vv]) (ts.drop k), v7, 4, _, _, _, by go_num, rfl, by omega, by rw [HD.out], rfl, rfl, ?_, ?_, own_below hown7 hb8, ?_, hX7.below hb8 hX7.lt, hG7.below hb8 hG7.lt, hbel7.trans (hb8.mono hbel7.size), by have := hb8.size; omega⟩
            · rw [HC.out]; simp only [List.length_reverse, List.length_cons] at hm ⊢; omega
            · rw [HF.out]; exact hfk.out
            · rw [HC.out, List.reverse_cons]; exact himg7.below hb8
          case measure => first | (simp [intOf]; done) | (simp [intOf]; omega)
    · have hj1 : j = 0 := by omega
      subst hj1
      have hq2 : q = -1 := by omega
      clear hq
      subst hq2
      have hneg : ¬ (0 : Int) ≤ -1 := by decide
      simp only [List.drop_zero] at hm hfk himg hdg1
      rw [← hdg1] at hL
      have hEE : Hid (E = 0) := by show _ = _; rw [hE.out, hfk]; rfl
      have HM := Lib.hid hm
      clear hm hfk hE hdg1
      as_aux_lemma =>
      go_wp2_with fail
      refine (rwholeYes_any D _ hcb.1 hcb.2).mono ?_
      rintro e w4 ⟨y, rfl, ⟨A4, c4, rfl, hs4, hf4⟩, hb4⟩
      have hown4 := own_below hown hb4
      have himg4 := himg.below hb4
      have hG4 := hG.below hb4 hG.lt
      have hbel4 := hbel.trans (hb4.mono hbel.size)
      have hz4 := hb4.size
      have f0 := hG4.frozen 0
      have f1 := hG4.frozen 1
      have cg0 := (hG4.cell 0).trans (show _ = some (Value.int .i64 u1) from rfl)
      have cg1 := (hG4.cell 1).trans (show _ = some (Value.slice uA un uc) from rfl)
      obtain ⟨g1, g2, g3, g4, g5, g6⟩ := put_box (tag := 5) (c := c4) hG4 hGB hown4 himg4 hs4
      have hbel6 : Below w.heap.size w ((w4.setCell ⟨G, 0, none⟩ (.int .i64 5)).setCell ⟨G, 1, none⟩ (.slice A4 [be D 8].length c4)) := (hbel4.setCell (by simp; omega) _).setCell (by simp; omega) _
      simp only [List.length_cons, List.length_nil, Nat.zero_add, Nat.reduceAdd] at g1 g2 g3 g4 g5 g6 hbel6
      go_upto_region 30 with fail
      generalize hW6 : ((w4.setCell ⟨G, 0, none⟩ (.int .i64 5)).setCell ⟨G, 1, none⟩ (.slice A4 1 c4)) = W6 at *
      have HW6 := Lib.hid hW6
      clear hW6 f0 f1 cg0 cg1
      have q0 := (g1.cell 0).trans (show _ = some (Value.int .i64 5) from rfl)
      have q1 := (g1.cell 1).trans (show _ = some (Value.slice A4 1 c4) from rfl)
      have hrm := row_more (tag := 5) (c := c4) (ps := [be D 8]) (B' := wr.heap.size) g3 hB1 g4 hf4 (fun g hg => by have := (hown.lt g hg).2; omega)
      simp only [List.length_cons, List.length_nil, Nat.zero_add, Nat.reduceAdd] at hrm
      have hlaid : Rd (W6.alloc (.cells #[.int .i64 5, .slice A4 1 c4] 106)) (W6.heap.size + 1) 2 (some ⟨W6.heap.size, 0, none⟩) 1 [.int .i64 5, .slice A4 1 c4] := by
        have := Rd.laid W6 #[.int .i64 5, .slice A4 1 c4] 106 2 1 rfl
        simpa using this
      go_wp2_with (first
        | (at_builtin; refine wpList_append_any _ rfl (.tmp 104) (.tmp 106) 158 rfl B2 106 i0 _ 2 32 Try.underlying158 hi0 hz0 hz1 hz2 rfl (by omega) v m _ (by rfl) (g2.alloc _) (W6.heap.size + 1) _ 1 1 [.int .i64 5, .slice A4 1 c4] (by rfl) hlaid (fun u hu => by simp at hu; rcases hu with rfl | rfl <;> rfl) (by simp [maxLen]; omega) (by omega) (by simp; omega) ?_
           intro v7 w7 hown7 hg7 hat7
           have himg7 := hrm.step hg7 hat7
           have hbel7 : Below w.heap.size w w7 := (hbel6.alloc hbel6.size (.cells #[.int .i64 5, .slice A4 1 c4] 106)).grown hg7 (by have := hbel6.size; simp; omega) (fun k hk => by have := own_ge hown k hk; omega)))
      go_wp2_with fail
      exact bodyPost_ret (v := .tuple #[v7, .int .i64 0]) (by simp [results, Try.results87, go_sem]) rfl ⟨hbel7, .inr ⟨hEE.out, v7, _, rfl, by rw [hL.out, List.length_append, ← HM.out]; exact own_mono hown7 (by omega), by rw [hL.out]; exact himg7.weak (by omega)⟩⟩
end Go.Proofs.Ytjjkdmngmopjbaa

namespace Go.Proofs.Ytjjkdmngmopjbaa
open Go.RowKit
theorem rclimb_any (wd : Int) (k : Key) (x : ProofD) (B : Nat) (w : World) (hx : x.held w B) (hB : B ≤ w.heap.size) (hl : proofM x ≤ 10000000) :
    Calls Try.prog 87 #[.int .i64 wd, .string (bs k), x.val] w (RowAns w (climbE k x) (climbL wd k x).reverse) := by
  by_cases h : 32 < k.length
  · exact rclimb_long wd k x w h
  · by_cases hr : (Out.empty.proof x).re = 0
    · cases hf : x.leaf
      · exact rclimb_none wd k x B w (by omega) hx hB hl hr hf
      · exact rclimb_some wd k x B w (by omega) hx hB hl hr hf
    · exact rclimb_bad wd k x B w (by omega) hx hB hl hr
/-- the last image of a row -/
theorem row_last {w : World} {lo base : Nat} {e : TypeId} {A : Option Addr} {n c : Nat} {xs : List Value} {l : List ImgP} {z : ImgP} (ho : w.ownsRow base e 2 (.slice A n c) n xs) (h : Imgs lo w (Value.slice A n c).ownBlock xs (l ++ [z])) :
    ∃ b off A' c', A = some ⟨b, off, none⟩ ∧ n = l.length + 1 ∧ w.cell? ⟨b, off + l.length * 2, none⟩ = some (.int .i64 z.1) ∧ w.cell? ⟨b, off + l.length * 2 + 1, none⟩ = some (.slice A' z.2.length c') ∧ Strs w w.heap.size A' z.2 := by
  have hn : n = l.length + 1 := by
    have h1 := h.len
    have h2 := (Rd.of_own ho).1
    simp at h1
    omega
  obtain ⟨b, off, A', c', e1, _, h1, h2, h3, _⟩ := ImgR.of ho h l.length (by simp)
  refine ⟨b, off, A', c', e1, hn, ?_, ?_, ?_⟩
  · rw [h1]; simp
  · rw [h2]; simp
  · simpa using h3
theorem climbL_top (wd : Int) (k : Key) (x : ProofD) : ∃ r, (climbL wd k x).reverse = r ++ [topI wd k x] ∧ r.length ≤ x.turns.length + 1 := by
  unfold climbL topI
  split
  · exact ⟨_, by rw [List.reverse_cons], by rw [List.length_reverse, downP_len]; omega⟩
  · exact ⟨[], rfl, by simp⟩
theorem topI_parts (wd : Int) (k : Key) (x : ProofD) : (topI wd k x).2.length ≤ maxLen ∧ Short (topI wd k x).2 := by
  unfold topI
  split
  · exact ⟨by simp [wholeI, maxLen], short1 _⟩
  · exact ⟨by simp [noneI], fun p hp => by simp [noneI] at hp⟩
set_option maxRecDepth 100000 in
set_option maxHeartbeats 2000000 in
theorem rcheck_any (wd R : Int) (k : Key) (x : ProofD) (B : Nat) (w : World) (hx : x.held w B) (hB : B ≤ w.heap.size) (hl : proofM x ≤ 10000000) :
    Calls Try.prog 48 #[.int .i64 wd, .int .u64 R, .string (bs k), x.val] w fun e w' => e = .returned (.tuple #[.string (bs (checkV wd R k x)), .int .i64 (checkE wd R k x)]) ∧ Below w.heap.size w w' := by
  have hc := fun W g1 g2 => rclimb_any wd k x B W g1 g2 hl
  obtain ⟨r, hr, hrl⟩ := climbL_top wd k x
  have hp := topI_parts wd k x
  have HE : Hid (checkE wd R k x = if climbE k x ≠ 0 then climbE k x else if topP wd k x ≠ R then 5 else 0) := rfl
  have HV : Hid (checkV wd R k x = if checkE wd R k x = 0 ∧ x.key = k then x.value else []) := rfl
  have HT : Hid (topP wd k x = ofS wd (topI wd k x).1 (topI wd k x).2) := rfl
  rw [hr] at hc
  generalize checkV wd R k x = V at *
  generalize checkE wd R k x = E at *
  generalize climbE k x = C at *
  generalize topP wd k x = T at *
  generalize topI wd k x = z at *
  have hlen : x.turns.length ≤ 10000000 := by
    have := turns_M x.turns
    unfold proofM at hl
    omega
  have hx' := fun W (g : Below w.heap.size w W) => hx.below (g.mono hB)
  clear hr
  obtain ⟨ts, ta, tc, lf, a, vv⟩ := x
  dsimp only [ProofD.val] at *
  have hb0 : Below w.heap.size w (w.alloc (.cells #[.slice ta ts.length tc, .bool lf, .string (bs a), .string (bs vv)] 70)) := (Below.refl _ _).alloc (Nat.le_refl _) _
  have hP : Blk (w.alloc (.cells #[.slice ta ts.length tc, .bool lf, .string (bs a), .string (bs vv)] 70)) w.heap.size 70 #[.slice ta ts.length tc, .bool lf, .string (bs a), .string (bs vv)] := Blk.new _ _ _
  have hxb := hx' _ hb0
  clear hx'
  go_enter Try.func48, Try.ntmps48
  go_wp2_with fail
  refine (hc _ hxb (Nat.le_trans hB hb0.size)).mono ?_
  rintro e w1 ⟨hb1, ⟨hC, rfl⟩ | ⟨rfl, v, xs, rfl, hown, himg⟩⟩
  · have hCC : (C != 0) = true := by simpa using hC
    have HE2 : Hid (E = C) := by show _ = _; rw [HE.out, if_pos hC]
    have HV2 : Hid (V = []) := by show _ = _; rw [HV.out, if_neg]; rw [HE2.out]; exact fun h => hC h.1
    clear hC
    go_wp2_with fail
    exact bodyPost_ret (v := .tuple #[.string (bs []), .int .i64 C]) (by simp [results, Try.results48, go_sem]; rfl) rfl ⟨by rw [HE2.out, HV2.out], hb0.trans (hb1.mono hb0.size)⟩
  · obtain ⟨vA, vc, rfl⟩ := own_shape hown
    rw [List.length_append, List.length_singleton] at hown himg
    obtain ⟨b, off, A', c', rfl, _, k0, k1, hs⟩ := row_last hown himg
    have hP1 := hP.below hb1 hP.lt
    have hb01 := hb0.trans (hb1.mono hb0.size)
    have hw1 : IntKind.i64.wrap (((r.length + 1 : Nat) : Int) - 1) = (r.length : Int) := by rw [IntWalk.i64_in _ (by omega)]; omega
    have hw2 : IntKind.i64.wrap ((r.length : Int) + 1 - 1) = (r.length : Int) := by rw [IntWalk.i64_in _ (by omega)]; omega
    have hw3 : (r.length : Int) < (r.length : Int) + 1 := by omega
    have hw4 : (0 : Int) ≤ (r.length : Int) := by omega
    have hof := rimageDigest_any wd z.1 z.2 A' c' w1.heap.size w1 hs (Nat.le_refl _) hp.1 hp.2
    rw [← HT.out] at hof
    clear hP himg hown hc hp
    go_wp2_with fail
    refine hof.mono ?_
    rintro e w2 ⟨rfl, hb2⟩
    have hP2 := hP1.below hb2 hP1.lt
    have hb02 := hb01.trans (hb2.mono hb01.size)
    have p2 := (hP2.cell 2).trans (show _ = some (Value.string (bs a)) from rfl)
    have p3 := (hP2.cell 3).trans (show _ = some (Value.string (bs vv)) from rfl)
    clear hof hP1 hP2 hb1 hb2 hb01
    by_cases hT : T = R
    · subst hT
      have HE2 : Hid (E = 0) := by show _ = _; rw [HE.out, if_neg (by simp), if_neg (by simp)]
      by_cases ha : a = k
      · subst ha
        have HV2 : Hid (V = vv) := by show _ = _; rw [HV.out, if_pos ⟨HE2.out, rfl⟩]
        go_wp2_with fail
        exact bodyPost_ret (v := .tuple #[.string (bs vv), .int .i64 0]) (by simp [results, Try.results48, go_sem]) rfl ⟨by rw [HE2.out, HV2.out], hb02⟩
      · have hak : (a == k) = false := beq_eq_false_iff_ne.2 ha
        have hak2 : (a != k) = true := by simpa using ha
        have HV2 : Hid (V = []) := by show _ = _; rw [HV.out, if_neg (fun h => ha h.2)]
        go_wp2_with fail
        exact bodyPost_ret (v := .tuple #[.string (bs []), .int .i64 0]) (by simp [results, Try.results48, go_sem]; rfl) rfl ⟨by rw [HE2.out, HV2.out], hb02⟩
    · have hTR : (T == R) = false := beq_eq_false_iff_ne.2 hT
      have hTR2 : (T != R) = true := by simpa using hT
      have HE2 : Hid (E = 5) := by show _ = _; rw [HE.out, if_neg (by simp), if_pos hT]
      have HV2 : Hid (V = []) := by show _ = _; rw [HV.out, if_neg]; rw [HE2.out]; simp
      go_wp2_with fail
      exact bodyPost_ret (v := .tuple #[.string (bs []), .int .i64 5]) (by simp [results, Try.results48, go_sem]; rfl) rfl ⟨by rw [HE2.out, HV2.out], hb02⟩
end Go.Proofs.Ytjjkdmngmopjbaa
