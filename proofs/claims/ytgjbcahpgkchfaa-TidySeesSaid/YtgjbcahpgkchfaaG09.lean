/- Of the texts Code5, Code9. -/
import Derived.Test.YtgjbcahpgkchfaaProg
import Derived.Test.YtgjbcahpgkchfaaG08
import Derived.RegionTactic
import Derived.Deep.OwnRows
import Derived.Test.YtgjbcahpgkchfaaG02
set_option linter.unusedSimpArgs false
set_option linter.unusedVariables false
namespace Go.Proofs.Ytgjbcahpgkchfaa
open Go.RowKit
def cntW (P : Int → Bool) (w : World) (g n : Nat) : Nat := (List.range n).countP fun j => match w.cell? ⟨g, j, none⟩ with | some (.int _ v) => P v | _ => false
theorem cntW_row (P : Int → Bool) {w : World} {g : Nat} {t : TypeId} {hs : List Int} {n : Nat} (hn : hs.length = n) (h : w.rowIs g t n (fun j => .int .i64 (hs.getD j 0))) : cntW P w g n = hs.countP P := by
 subst hn; have e : hs = (List.range hs.length).map (fun j => hs.getD j 0) := List.ext_getElem (by simp) fun i h1 h2 => by simp [List.getD, h1]
 unfold cntW
 conv => rhs; rw [e, List.countP_map]
 refine List.countP_congr fun j hj => ?_
 have hj : j < hs.length := by simpa using hj
 rw [h.cell hj]; simp
def lenOf : Value → Nat
 | .slice _ n _ => n
 | _ => 0
def tdC (l : List (Nat × Int)) : List Value := l.flatMap fun x => [.int .i64 (x.1 : Int), .int .i64 x.2]
theorem tdC_snoc (l : List (Nat × Int)) (x : Nat × Int) : tdC (l ++ [x]) = tdC l ++ [.int .i64 (x.1 : Int), .int .i64 x.2] := by simp [tdC]
theorem tdC_len (l : List (Nat × Int)) : (tdC l).length = l.length * 2 := by
 induction l with
 | nil => rfl
 | cons x l ih => unfold tdC at *; simp [ih]; omega
theorem own_pop {w : World} {base : Nat} {e : TypeId} {size n c : Nat} {A : Option Addr} {xs ys : List Value} (h : w.ownsRow base e size (.slice A (n + 1) c) (n + 1) (xs ++ ys)) (hx : xs.length = n * size) (hA : ∃ b off, A = some ⟨b, off, none⟩) : w.ownsRow base e size (.slice A n c) n xs := by
 obtain ⟨b, off, rfl⟩ := hA; refine ⟨hx, ?_⟩
 rcases h.2 with ⟨h1, _⟩ | ⟨g, cap, cur, h1, h2, h3, h4, h5, h6, h7⟩
 ·cases h1
 ·cases h1; refine .inr ⟨b, c, cur, rfl, h2, h3, by omega, h5, h6, ?_⟩; have := congrArg (List.take (n * size)) h7; rw [List.take_take, List.take_left' hx, Nat.min_eq_left (Nat.mul_le_mul_right _ (by omega))] at this; exact this
theorem insAt {w : World} {B : Nat} {A : Option Addr} {I : List Ins} (h : InsR w B A I) {k : Nat} (hk : k < I.length) {x : Ins} (hx : I[k]? = some x) : ∃ b off, A = some ⟨b, off, none⟩ ∧ b < B ∧ w.cell? ⟨b, off + k * 3, none⟩ = some (.int .i64 x.op) ∧ w.cell? ⟨b, off + k * 3 + 1, none⟩ = some (.int .i64 x.a) ∧ w.cell? ⟨b, off + k * 3 + 2, none⟩ = some (.int .i64 x.b) := by
 rw [List.getElem?_eq_getElem hk] at hx; cases hx; exact h k hk
theorem nil_or_snoc {α : Type} (l : List α) : l = [] ∨ ∃ l' x, l = l' ++ [x] := by
 cases l with
 | nil => exact .inl rfl
 | cons a l => exact .inr ⟨(a :: l).dropLast, (a :: l).getLast (by simp), (List.dropLast_concat_getLast (by simp)).symm⟩
theorem row_grown {w w' : World} {g n : Nat} {t : TypeId} {f : Nat → Value} {row : Option Nat} (h : w.rowIs g t n f) (hg : w.grownBy w' row) (hne : row ≠ some g) : w'.rowIs g t n f := h.of_block (hg.block g h.lt fun e => hne e.symm)
theorem row_below {w w' : World} {g n B : Nat} {t : TypeId} {f : Nat → Value} (h : w.rowIs g t n f) (hb : Below B w w') (hg : g < B) : w'.rowIs g t n f := h.of_block (hb.block g hg)
theorem own_ne_row {w : World} {base : Nat} {e : TypeId} {size n q m : Nat} {v : Value} {xs : List Value} {t : TypeId} {f : Nat → Value} (h : w.ownsRow base e size v n xs) (hq : w.rowIs q t m f) (ht : e ≠ t) : v.ownBlock ≠ some q := by
 obtain ⟨cs, hc, _⟩ := hq
 rcases h.2 with ⟨rfl, _⟩ | ⟨g, cap, cur, rfl, _, hg, _⟩
 ·simp [Value.ownBlock]
 ·simp only [Value.ownBlock, ne_eq, Option.some.injEq]; intro e1; subst e1; rw [hg] at hc; simp only [Option.some.injEq, Obj.cells.injEq] at hc; exact ht hc.2.1
theorem own_put {w : World} {base : Nat} {e : TypeId} {size n : Nat} {v : Value} {xs : List Value} (h : w.ownsRow base e size v n xs) {p : Addr} (hp : v.ownBlock ≠ some p.block) (u : Value) : (w.setCell p u).ownsRow base e size v n xs :=
 h.kept (row := some p.block) ⟨rfl, rfl, rfl, by simp [World.setCell], fun k _ hk => Below.heap_setCell w p u k (fun e => hk (by rw [e]))⟩ (.inr hp)
theorem freshN_le (hs : List Int) : freshN hs ≤ hs.length := List.countP_le_length
theorem own_lit (W : World) (base g : Nat) (t : TypeId) (a b : Value) (hg : W.heap.size = g) (hb : base ≤ g) : (W.alloc (.cells #[a, b] t)).ownsRow base t 2 (.slice (some ⟨g, 0, none⟩) 1 1) 1 [a, b] := by
 subst hg; exact ⟨rfl, .inr ⟨W.heap.size, 1, #[a, b], rfl, hb, heap_alloc_new W _, Nat.le_refl _, by simp [maxLen], rfl, rfl⟩⟩
theorem row_made (W : World) (g : Nat) (t : TypeId) (n : Nat) (hg : W.heap.size = g) : (W.alloc (.cells (madeCells #[.int .i64 0] n) t)).rowIs g t n (fun j => .int .i64 ((List.replicate n (0 : Int)).getD j 0)) := by
 subst hg; exact (World.rowIs_made W (.int .i64 0) n t).congr fun j hj => by simp [List.getD, hj]
theorem row_set {w : World} {g n : Nat} {t : TypeId} {hs : List Int} (h : w.rowIs g t n (fun j => .int .i64 (hs.getD j 0))) (hl : hs.length = n) (k : Nat) (v : Int) : (w.setCell ⟨g, k, none⟩ (.int .i64 v)).rowIs g t n (fun j => .int .i64 ((hs.set k v).getD j 0)) :=
 (h.set k _).congr fun j hj => by
  subst hl
  by_cases e : j = k
  ·subst e; simp [List.getD, hj]
  ·have e' : ¬ k = j := fun h => e h.symm
   simp [List.getD, List.getElem?_set, e, e']
theorem plcInfo : (Try.prog.info? 58).map (fun i => (i.zero, i.size, i.bytes)) = some (some (.agg #[.int .i64 0, .int .i64 0]), 2, 16) := by kernel_rfl
set_option maxRecDepth 100000 in
set_option maxHeartbeats 8000000 in
theorem flows_any (ps : List Pce) (nns : Nat) (p : Pce) (A A' Ab : Option Addr) (c c' cb B : Nat) (w : World) (hP : PcsR w B A ps) (hI : InsR w B Ab p.body) (hB : B ≤ w.heap.size) (hfew : Few ps) (hfit : ∀ x, x ∈ p.body → Fit ps.length p.body.length x) (hbl : p.body.length ≤ 2048) (hps : ps.length ≤ 32) (b : Bool) (hfl : IsFlow ps p.body b) :
    Calls Try.prog 24 #[codV A ps.length c A' nns c', pceV p Ab cb] w fun e w' => e = .returned (.bool b) ∧ Below w.heap.size w w' := by
  obtain ⟨i0, hi0, hz0, hz1, hz2⟩ := info_parts plcInfo
  have hmk := run_make_row' (P := Try.prog) 37 3 (.int .i64 0) 8 Try.underlying37 (by kernel_rfl) rfl .i64 .i64 p.body.length (by omega) (by omega)
  have HFL : ∀ x, IsFlow ps p.body x → Hid (b = x) := fun x hx => hfl.eq hx
  clear hfl
  have heff := fun (x : Ins) W g1 g2 => effect_any ps x A A' nns c c' B W g1 g2
  unfold codV insV at heff
  unfold codV pceV
  generalize hcodC : (#[.slice A ps.length c, .slice A' nns c'] : Array Value) = codC at *
  generalize hnm : p.name = nm at *
  generalize hopn : p.opn = opn at *
  generalize hprm : p.params = prm at *
  generalize hloc : p.locals = loc at *
  clear hnm hopn hprm hloc
  subst hcodC
  go_enter Try.func24, Try.ntmps24
  go_wp2_with fail
  go_loopw [6] (fun td wr => ∃ (hs : List Int) (todo : List (Nat × Int)), Under ps p.body hs todo ∧ wr.ownsRow (w.heap.size + 1 + 1) 58 2 td todo.length (tdC todo) ∧ wr.rowIs (w.heap.size + 1 + 1) 3 p.body.length (fun j => .int .i64 (hs.getD j 0)) ∧ todo.length + 2 * freshN hs ≤ 2 * p.body.length + 1 ∧ Blk wr w.heap.size 25 #[.slice A ps.length c, .slice A' nns c'] ∧ Blk wr (w.heap.size + 1) 34 #[.string (bs nm), .bool opn, .int .i64 prm, .int .i64 loc, .slice Ab p.body.length cb] ∧ Below w.heap.size w wr) (fun td wr => 3 * cntW (· == 0) wr (w.heap.size + 1 + 1) p.body.length + lenOf td)
  case atStart =>
    refine ⟨List.replicate p.body.length 0, [(0, 0)], Under.start_ ps p.body, own_lit _ _ _ _ _ _ (by simp) (by omega), (row_made _ _ _ _ (by simp)).alloc _, by have := freshN_le (List.replicate p.body.length 0); simp at this ⊢; omega, (((Blk.new _ _ _).alloc _).alloc _).alloc _, ?_, ((((Below.refl _ _).alloc (Nat.le_refl _) _).alloc (by simp) _).alloc (by simp; omega) _).alloc (by simp; omega) _⟩
    have hN := Blk.new (w.alloc (.cells #[.slice A ps.length c, .slice A' nns c'] 25)) 34 #[.string (bs nm), .bool opn, .int .i64 prm, .int .i64 loc, .slice Ab p.body.length cb]
    rw [show (w.alloc (.cells #[.slice A ps.length c, .slice A' nns c'] 25)).heap.size = w.heap.size + 1 from by simp] at hN
    exact (hN.alloc _).alloc _
  case round =>
    obtain ⟨hs, todo, hU, hown, hrow, hm, hC, hPc, hb⟩ := hrel
    have hz := hb.size
    have hpl2 := hPc.c 4 rfl
    have hplA := fun o => hPc.cell_a 4 (Value.slice Ab p.body.length cb) rfl o
    rcases nil_or_snoc todo with rfl | ⟨td', ⟨at', g⟩, rfl⟩
    · obtain rfl := (HFL true hU.over).out
      obtain ⟨A0, c0, rfl⟩ := own_shape hown
      clear hU hown hm hrow
      go_wp2_with fail
      go_ret
      exact ⟨rfl, hb⟩
    rw [show (td' ++ [(at', g)]).length = td'.length + 1 from by simp] at hown hm
    obtain ⟨A0, c0, rfl⟩ := own_shape hown
    have hMc := own_cap hown
    obtain ⟨hl1, hl2, hl3⟩ : at' ≤ 1099511627776 ∧ 0 ≤ g ∧ g ≤ 1000 := hU.lim (at', g) (by simp)
    obtain ⟨pb, off, rfl, hpb, hcel⟩ := (Rd.of_own hown).2 (by omega)
    rw [tdC_snoc] at hown hcel
    have k0 : wr.cell? ⟨pb, off + td'.length * 2, none⟩ = some (.int .i64 (at' : Int)) := hcel _ _ (by simp [List.getElem?_append_right, tdC_len])
    have k1 : wr.cell? ⟨pb, off + td'.length * 2 + 1, none⟩ = some (.int .i64 g) := by rw [Nat.add_assoc]; exact hcel _ _ (by simp [List.getElem?_append_right, tdC_len])
    have hpop := own_pop hown (tdC_len td') ⟨_, _, rfl⟩
    have hown' := hown
    clear hcel hown
    have hM1 : td'.length < td'.length + 1 := by omega
    have hM2 : td'.length + 1 < td'.length + 2 := by omega
    have HMS : Hid (lenOf (.slice (some ⟨pb, off, none⟩) (td'.length + 1) c0) = td'.length + 1) := rfl
    generalize hM : td'.length + 1 = M at *
    clear hM hown'
    have hbl1 := freshN_le hs
    have hlenU := hU.len
    have hM3 : M ≤ 4097 := by omega
    have hw1 : IntKind.i64.wrap ((M : Int) - 1) = (td'.length : Int) := by rw [IntWalk.i64_in _ (by omega)]; omega
    have hw1' : wrap64 ((M : Int) - 1) = (td'.length : Int) := by rw [← IntWalk.i64_left]; exact hw1
    have hM0 : (0 : Int) < (M : Int) := by omega
    have hN1 : (td'.length : Int) < (M : Int) := by omega
    have hN0 : (0 : Int) ≤ (td'.length : Int) := by omega
    have hNc : (td'.length : Int) ≤ (c0 : Int) := by omega
    have hMci : (M : Int) ≤ (c0 : Int) := by omega
    have hlenU' := Lib.hid hlenU
    clear hlenU
    by_cases ha : p.body.length ≤ at'
    · obtain rfl := (HFL false (hU.out_ (.inl ha))).out
      have hai : (p.body.length : Int) ≤ (at' : Int) := by omega
      clear hU hpop hrow hm
      go_wp2_with fail
      go_ret
      exact ⟨rfl, hb.alloc hz _⟩
    have hai : ¬ (p.body.length : Int) ≤ (at' : Int) := by omega
    have hai2 : (at' : Int) < (p.body.length : Int) := by omega
    have hai3 : (0 : Int) ≤ (at' : Int) := by omega
    by_cases hg : 64 < g
    · obtain rfl := (HFL false (hU.out_ (.inr hg))).out
      clear hU hpop hrow hm
      go_wp2_with fail
      go_ret
      exact ⟨rfl, hb.alloc hz _⟩
    have hat : at' < hs.length := by rw [hlenU'.out]; omega
    have hv : hs[at']? = some hs[at'] := List.getElem?_eq_getElem hat
    have hrowc : ∀ o, (wr.alloc o).cell? ⟨w.heap.size + 1 + 1, at', none⟩ = some (.int .i64 hs[at']) := fun o => ((hrow.alloc o).cell (by omega)).trans (by simp [List.getD, hat])
    have hrowf : ∀ o, (wr.alloc o).frozen? ⟨w.heap.size + 1 + 1, at', none⟩ = false := fun o => (hrow.alloc o).frozen at'
    obtain ⟨V, hV⟩ : ∃ V, V = hs[at'] := ⟨_, rfl⟩
    rw [← hV] at hv hrowc
    clear hV
    have hpos := hU.pos at' V hv
    have hwg : IntKind.i64.wrap (g + 1) = g + 1 := IntWalk.i64_in _ (by omega)
    have hwg' : wrap64 (g + 1) = g + 1 := by rw [← IntWalk.i64_left]; exact hwg
    by_cases hv0 : V = 0
    case neg =>
      have hv0' : (V != 0) = true := by simpa using hv0
      by_cases hne : V = g + 1
      · have hag := hU.again hv hv0 hne
        have hne' : (V != g + 1) = false := by simp [hne]
        have hCn := Lib.hid (cntW_row (· == 0) hlenU'.out hrow)
        have hx : (wr.alloc (.cells #[.int .i64 (at' : Int), .int .i64 g] 58)).drew.rowIs (w.heap.size + 1 + 1) 3 p.body.length (fun j => .int .i64 (hs.getD j 0)) := (hrow.alloc _).drew
        have hCn2 := Lib.hid (cntW_row (· == 0) hlenU'.out hx)
        have HE := Lib.hid hne
        have HV := Lib.hid hv
        clear hU hne hv
        go_wp2_with fail
        go_region
        all_goals
          go_wp2_with fail
          go_roundw
          case rel => exact ⟨hs, td', hag, (hpop.alloc _).drew, hx, by omega, Blk.drew (hC.alloc _), Blk.drew (hPc.alloc _), (hb.alloc hz _).drew⟩
          case measure => rw [hCn.out, hCn2.out, HMS.out]; simp [lenOf]; omega
      · obtain rfl := (HFL false (hU.other hv hv0 hne)).out
        have hne' : (V != g + 1) = true := by simpa using hne
        have HV := Lib.hid hv
        clear hU hpop hrow hm hv
        go_wp2_with fail
        go_region
        all_goals
          go_wp2_with fail
          go_ret
          exact ⟨rfl, (hb.alloc hz _).drew⟩
    subst hv0
    have hxi : p.body[at']? = some p.body[at'] := List.getElem?_eq_getElem (by omega)
    have hfx := hfit p.body[at'] (List.getElem_mem (by omega))
    obtain ⟨ib, io, rfl, hib, i0c, i1c, i2c⟩ := insAt (hI.below (hb.mono hB)) (by omega) hxi
    obtain ⟨x, hxe⟩ : ∃ x, x = p.body[at'] := ⟨_, rfl⟩
    rw [← hxe] at hxi hfx i0c i1c i2c
    clear hxe
    obtain ⟨f1, f2, f3, f4, f5, f6, f7⟩ := hfx
    have hT := takesS_bd hfew x (fun e => ⟨f3, f7 e⟩)
    have hL := leavesS_bd x
    have HST := Lib.hid (fun hm => hU.step hxi hv hm f4 hL.2 hT.1 hL.1 (by omega))
    have HBAD := Lib.hid (fun hm => HFL false (hU.bad hxi hm))
    have HMAY : Hid (mayS ps x g ↔ (takesS ps x ≤ g ∧ g ≤ 64 ∧ (x.op = 17 → g = 1))) := Iff.rfl
    have HO : Hid (outS ps x g = g - takesS ps x + leavesS x) := rfl
    have HCN := Lib.hid (cntW_row (· == 0) hlenU'.out hrow)
    have HFS := Lib.hid (freshN_set hv (g + 1) (by omega))
    have hlen0 := hlenU'.out
    have HLS : Hid ((hs.set at' (g + 1)).length = p.body.length) := by show _ = _; rw [List.length_set]; exact hlenU'.out
    have hfs := HFS.out
    have hcall := fun W g1 g2 => heff x W g1 g2 ⟨f1, f2⟩ (fun e => ⟨f3, f6 e⟩) (fun e => ⟨f3, f7 e⟩) (by omega)
    clear heff hU hv hxi f4 f5 f6 f7 HFL hlenU' hpos
    obtain ⟨op, xa, ib2⟩ := x
    simp only at f1 f2 f3 i0c i1c i2c hcall HMAY
    obtain ⟨j, rfl⟩ := Int.eq_ofNat_of_zero_le f3
    have hlr := hrow.lt
    have hne3 := own_ne_row hpop hrow (by decide)
    have hX3 : Blk (((wr.setCell ⟨w.heap.size + 1 + 1, at', none⟩ (.int .i64 (g + 1))).alloc (.cells #[.int .i64 (at' : Int), .int .i64 g] 58)).alloc (.cells #[.int .i64 op, .int .i64 (j : Int), .int .i64 ib2] 31)) wr.heap.size 58 #[.int .i64 (at' : Int), .int .i64 g] := Blk.alloc (by have hN := Blk.new (wr.setCell ⟨w.heap.size + 1 + 1, at', none⟩ (.int .i64 (g + 1))) 58 #[.int .i64 (at' : Int), .int .i64 g]; rw [show (wr.setCell ⟨w.heap.size + 1 + 1, at', none⟩ (.int .i64 (g + 1))).heap.size = wr.heap.size from by simp [World.setCell]] at hN; exact hN) _
    have hI3 : Blk (((wr.setCell ⟨w.heap.size + 1 + 1, at', none⟩ (.int .i64 (g + 1))).alloc (.cells #[.int .i64 (at' : Int), .int .i64 g] 58)).alloc (.cells #[.int .i64 op, .int .i64 (j : Int), .int .i64 ib2] 31)) (wr.heap.size + 1) 31 #[.int .i64 op, .int .i64 (j : Int), .int .i64 ib2] := by
      have hN := Blk.new ((wr.setCell ⟨w.heap.size + 1 + 1, at', none⟩ (.int .i64 (g + 1))).alloc (.cells #[.int .i64 (at' : Int), .int .i64 g] 58)) 31 #[.int .i64 op, .int .i64 (j : Int), .int .i64 ib2]
      rw [show ((wr.setCell ⟨w.heap.size + 1 + 1, at', none⟩ (.int .i64 (g + 1))).alloc (.cells #[.int .i64 (at' : Int), .int .i64 g] 58)).heap.size = wr.heap.size + 1 from by simp [World.setCell]] at hN
      exact hN
    have hrow3 : World.rowIs (((wr.setCell ⟨w.heap.size + 1 + 1, at', none⟩ (.int .i64 (g + 1))).alloc (.cells #[.int .i64 (at' : Int), .int .i64 g] 58)).alloc (.cells #[.int .i64 op, .int .i64 (j : Int), .int .i64 ib2] 31)) (w.heap.size + 1 + 1) 3 p.body.length (fun k => .int .i64 ((hs.set at' (g + 1)).getD k 0)) := ((row_set hrow hlen0 at' (g + 1)).alloc _).alloc _
    have hown3 : World.ownsRow (((wr.setCell ⟨w.heap.size + 1 + 1, at', none⟩ (.int .i64 (g + 1))).alloc (.cells #[.int .i64 (at' : Int), .int .i64 g] 58)).alloc (.cells #[.int .i64 op, .int .i64 (j : Int), .int .i64 ib2] 31)) (w.heap.size + 1 + 1) 58 2 (.slice (some ⟨pb, off, none⟩) td'.length c0) td'.length (tdC td') := ((own_put hpop hne3 _).alloc _).alloc _
    have hC3 : Blk (((wr.setCell ⟨w.heap.size + 1 + 1, at', none⟩ (.int .i64 (g + 1))).alloc (.cells #[.int .i64 (at' : Int), .int .i64 g] 58)).alloc (.cells #[.int .i64 op, .int .i64 (j : Int), .int .i64 ib2] 31)) w.heap.size 25 #[.slice A ps.length c, .slice A' nns c'] := ((hC.far (by simp; omega) _).alloc _).alloc _
    have hP3 : Blk (((wr.setCell ⟨w.heap.size + 1 + 1, at', none⟩ (.int .i64 (g + 1))).alloc (.cells #[.int .i64 (at' : Int), .int .i64 g] 58)).alloc (.cells #[.int .i64 op, .int .i64 (j : Int), .int .i64 ib2] 31)) (w.heap.size + 1) 34 #[.string (bs nm), .bool opn, .int .i64 prm, .int .i64 loc, .slice (some ⟨ib, io, none⟩) p.body.length cb] := ((hPc.far (by simp) _).alloc _).alloc _
    have hb3 : Below w.heap.size w (((wr.setCell ⟨w.heap.size + 1 + 1, at', none⟩ (.int .i64 (g + 1))).alloc (.cells #[.int .i64 (at' : Int), .int .i64 g] 58)).alloc (.cells #[.int .i64 op, .int .i64 (j : Int), .int .i64 ib2] 31)) := ((hb.setCell (by simp; omega) _).alloc (by simp [World.setCell]; omega) _).alloc (by simp [World.setCell]; omega) _
    have i0w : ∀ o u, ((wr.setCell ⟨w.heap.size + 1 + 1, at', none⟩ u).alloc o).cell? ⟨ib, io + at' * 3, none⟩ = some (.int .i64 op) := fun o u => (World.cell?_alloc_lt _ o _ (by simp [World.setCell]; omega)).trans ((World.cell?_setCell_other _ _ _ _ (fun e => by simp only [Addr.mk.injEq] at e; omega)).trans i0c)
    have i1w : ∀ o u, ((wr.setCell ⟨w.heap.size + 1 + 1, at', none⟩ u).alloc o).cell? ⟨ib, io + at' * 3 + 1, none⟩ = some (.int .i64 (j : Int)) := fun o u => (World.cell?_alloc_lt _ o _ (by simp [World.setCell]; omega)).trans ((World.cell?_setCell_other _ _ _ _ (fun e => by simp only [Addr.mk.injEq] at e; omega)).trans i1c)
    have i2w : ∀ o u, ((wr.setCell ⟨w.heap.size + 1 + 1, at', none⟩ u).alloc o).cell? ⟨ib, io + at' * 3 + 2, none⟩ = some (.int .i64 ib2) := fun o u => (World.cell?_alloc_lt _ o _ (by simp [World.setCell]; omega)).trans ((World.cell?_setCell_other _ _ _ _ (fun e => by simp only [Addr.mk.injEq] at e; omega)).trans i2c)
    have hplS : ∀ o u, ((wr.setCell ⟨w.heap.size + 1 + 1, at', none⟩ u).alloc o).cell? ⟨w.heap.size + 1, 4, none⟩ = some (.slice (some ⟨ib, io, none⟩) p.body.length cb) := fun o u => (((hPc.far (p := ⟨w.heap.size + 1 + 1, at', none⟩) (by simp) u).alloc o).cell 4)
    have nwr : ¬ wr.heap.size = w.heap.size + 1 + 1 := by omega
    have nwr' : ¬ w.heap.size + 1 + 1 = wr.heap.size := by omega
    go_upto_region 13 with fail
    generalize hw3 : (((wr.setCell ⟨w.heap.size + 1 + 1, at', none⟩ (.int .i64 (g + 1))).alloc (.cells #[.int .i64 (at' : Int), .int .i64 g] 58)).alloc (.cells #[.int .i64 op, .int .i64 (j : Int), .int .i64 ib2] 31)) = w3 at *
    clear hw3 i0w i1w i2w hplS hC hPc hb i0c i1c i2c k0 k1 hrowc hrowf hplA
    have hXne : ¬ wr.heap.size = pb := by omega
    have hXne' : ¬ pb = wr.heap.size := by omega
    have hIne : ¬ wr.heap.size + 1 = pb := by omega
    have hIne' : ¬ pb = wr.heap.size + 1 := by omega
    have c0' := hC3.c 0 rfl
    have c1' := hC3.c 1 rfl
    have d0 := hI3.c 0 rfl
    have d1 := hI3.c 1 rfl
    have d2 := hI3.c 2 rfl
    go_wp2_with fail
    refine (hcall w3 (hP.below (hb3.mono hB)) (by have := hb3.size; omega)).mono ?_
    rintro e w4 ⟨rfl, hb4⟩
    have hrow4 := row_below hrow3 hb4 hrow3.lt
    have hown4 := own_below hown3 hb4
    have hX4 := hX3.below hb4 hX3.lt
    have hI4 := hI3.below hb4 hI3.lt
    have hC4 := hC3.below hb4 hC3.lt
    have hP4 := hP3.below hb4 hP3.lt
    have hz4 : wr.heap.size + 2 ≤ w4.heap.size := by have := hI4.lt; omega
    have hb4 := hb3.trans (hb4.mono hb3.size)
    have x0 := hX4.c 0 rfl
    have x1 := hX4.c 1 rfl
    have m0 := hI4.c 0 rfl
    have m1 := hI4.c 1 rfl
    clear c0' c1' d0 d1 d2 hcall hrow3 hown3 hX3 hI3 hC3 hP3 hb3 hpl2
    generalize takesS ps ⟨op, (j : Int), ib2⟩ = T at *
    generalize leavesS ⟨op, (j : Int), ib2⟩ = L at *
    have hwt : IntKind.i64.wrap (g - T) = g - T := IntWalk.i64_in _ (by omega)
    have hwt' : wrap64 (g - T) = g - T := by rw [← IntWalk.i64_left]; exact hwt
    obtain ⟨HH, hHH⟩ : ∃ HH, g - T + L = HH := ⟨_, rfl⟩
    have hwh : IntKind.i64.wrap (g - T + L) = HH := by rw [IntWalk.i64_in _ (by omega)]; exact hHH
    have hwh' : wrap64 (g - T + L) = HH := by rw [← IntWalk.i64_left]; exact hwh
    have HO : Hid (outS ps ⟨op, (j : Int), ib2⟩ g = HH) := by show _ = _; rw [HO.out]; exact hHH
    clear hHH
    have hwa : IntKind.i64.wrap ((at' : Int) + 1) = (at' : Int) + 1 := IntWalk.i64_in _ (by omega)
    have hwa' : wrap64 ((at' : Int) + 1) = (at' : Int) + 1 := by rw [← IntWalk.i64_left]; exact hwa
    by_cases hTg : g < T
    · obtain rfl := (HBAD.out (fun h => by have := HMAY.out.mp h; omega)).out
      clear HBAD HST HMAY HO HCN HFS HLS
      go_wp2_with fail
      go_ret
      exact ⟨rfl, hb4⟩
    have hTg' : T ≤ g := by omega
    have hdT : decide (g < T) = false := decide_eq_false (by omega)
    by_cases h17 : op = 17
    · subst h17
      by_cases hg1 : g = 1
      · subst hg1
        have hmay := HMAY.out.mpr ⟨hTg', by omega, fun _ => rfl⟩
        have hnx : nextS at' ⟨17, (j : Int), ib2⟩ = [] := by simp [nextS]
        have hnx := Lib.hid hnx
        clear HMAY HBAD
        go_wp2_with fail
        go_roundw
        case rel =>
          refine ⟨hs.set at' (1 + 1), td', ?_, ?_, hrow4, ?_, hC4, hP4, hb4⟩
          · have hst := HST.out hmay
            rw [hnx.out, HO.out] at hst
            simpa using hst
          · exact hown4
          · have hf2 := hfs
            simp at hf2 ⊢
            omega
        case measure =>
          rw [HCN.out, cntW_row (· == 0) HLS.out hrow4, HMS.out]
          simp only [lenOf]
          have hff := HFS.out
          unfold freshN at hff
          omega
      · obtain rfl := (HBAD.out (fun h => hg1 ((HMAY.out.mp h).2.2 rfl))).out
        have hg1' : (g != 1) = true := by simpa using hg1
        clear HBAD HST HMAY HO HCN HFS HLS
        go_wp2_with fail
        go_ret
        exact ⟨rfl, hb4⟩
    have hmay := HMAY.out.mpr ⟨hTg', by omega, fun e => absurd e h17⟩
    have q17 : (op == 17) = false := beq_eq_false_iff_ne.2 h17
    have q17' : (op != 17) = true := by simpa using h17
    clear HMAY HBAD
    by_cases h14 : op = 14
    · subst h14
      have hnx : nextS at' ⟨14, (j : Int), ib2⟩ = [j] := by simp [nextS]
      have hnx := Lib.hid hnx
      clear h17 q17 q17'
      as_aux_lemma =>
      go_wp2_with (first
        | (at_builtin; refine wpList_append_any _ rfl (.tmp 105) (.tmp 110) 59 rfl (w.heap.size + 1 + 1) 58 i0 _ 2 16 Try.underlying59 hi0 hz0 hz1 hz2 rfl (by omega) _ (td'.length) _ (by rfl) (hown4.alloc (.cells #[.int .i64 ((j : Int)), .int .i64 HH] 58)) (w4.heap.size + 1) _ 1 1 [.int .i64 ((j : Int)), .int .i64 HH] (by rfl) (Rd.laid w4 #[.int .i64 ((j : Int)), .int .i64 HH] 58 2 1 rfl) (fun u hu => by simp at hu; rcases hu with rfl | rfl <;> rfl) (by simp [maxLen]; omega) (by omega) (by simp; omega) ?_
           intro v5 w5 hown5 hg5 hat5
           have hrow5 := row_grown (hrow4.alloc (.cells #[.int .i64 ((j : Int)), .int .i64 HH] 58)) hg5 (own_ne_row hown4 hrow4 (by decide))
           have hC5 := (hC4.alloc (.cells #[.int .i64 ((j : Int)), .int .i64 HH] 58)).grown hg5 (fun e => by have := own_ge hown4 _ e.symm; omega)
           have hP5 := (hP4.alloc (.cells #[.int .i64 ((j : Int)), .int .i64 HH] 58)).grown hg5 (fun e => by have := own_ge hown4 _ e.symm; omega)
           have hb5 := (hb4.alloc hb4.size (.cells #[.int .i64 ((j : Int)), .int .i64 HH] 58)).grown hg5 (Nat.le_trans hb4.size (by simp)) (fun k hk => by have := own_ge hown4 k hk; omega)
           have hz5 : w4.heap.size + 1 ≤ w5.heap.size := by have := hg5.size; simpa using this
           obtain ⟨A5, c5, rfl⟩ := own_shape hown5
           have hX5 := (hX4.alloc (.cells #[.int .i64 (j : Int), .int .i64 HH] 58)).grown hg5 (by simp [Value.ownBlock]; omega)
           have x5 := hX5.c 0 rfl
           have hI5 := (hI4.alloc (.cells #[.int .i64 (j : Int), .int .i64 HH] 58)).grown hg5 (by simp [Value.ownBlock]; omega)
           have m5 := hI5.c 0 rfl
           have hc5 := own_cap hown5
           have hMc5 : td'.length + 1 ≤ 4098 := by omega))
      go_roundw
      case rel =>
        refine ⟨hs.set at' (g + 1), td' ++ [(j, HH)], ?_, ?_, hrow5, ?_, hC5, hP5, hb5⟩
        · have hst := HST.out hmay
          rw [hnx.out, HO.out] at hst
          simpa using hst
        · rw [show (td' ++ [(j, HH)]).length = td'.length + 1 from by simp]
          simp only [tdC_snoc, List.append_assoc, List.cons_append, List.nil_append] at hown5 ⊢
          exact hown5
        · have hf2 := hfs
          simp at hf2 ⊢
          omega
      case measure =>
        rw [HCN.out, cntW_row (· == 0) HLS.out hrow5, HMS.out]
        simp only [lenOf]
        have hff := HFS.out
        unfold freshN at hff
        omega
    have q14 : (op == 14) = false := beq_eq_false_iff_ne.2 h14
    have q14' : (op != 14) = true := by simpa using h14
    by_cases h15 : op = 15
    · subst h15
      have hnx : nextS at' ⟨15, (j : Int), ib2⟩ = [j, at' + 1] := by simp [nextS]
      have hnx := Lib.hid hnx
      clear h17 q17 q17' h14 q14 q14'
      as_aux_lemma =>
      go_wp2_with (first
        | (at_builtin; refine wpList_append_any _ rfl (.tmp 105) (.tmp 110) 59 rfl (w.heap.size + 1 + 1) 58 i0 _ 2 16 Try.underlying59 hi0 hz0 hz1 hz2 rfl (by omega) _ (td'.length) _ (by rfl) (hown4.alloc (.cells #[.int .i64 ((j : Int)), .int .i64 HH] 58)) (w4.heap.size + 1) _ 1 1 [.int .i64 ((j : Int)), .int .i64 HH] (by rfl) (Rd.laid w4 #[.int .i64 ((j : Int)), .int .i64 HH] 58 2 1 rfl) (fun u hu => by simp at hu; rcases hu with rfl | rfl <;> rfl) (by simp [maxLen]; omega) (by omega) (by simp; omega) ?_
           intro v5 w5 hown5 hg5 hat5
           have hrow5 := row_grown (hrow4.alloc (.cells #[.int .i64 ((j : Int)), .int .i64 HH] 58)) hg5 (own_ne_row hown4 hrow4 (by decide))
           have hC5 := (hC4.alloc (.cells #[.int .i64 ((j : Int)), .int .i64 HH] 58)).grown hg5 (fun e => by have := own_ge hown4 _ e.symm; omega)
           have hP5 := (hP4.alloc (.cells #[.int .i64 ((j : Int)), .int .i64 HH] 58)).grown hg5 (fun e => by have := own_ge hown4 _ e.symm; omega)
           have hb5 := (hb4.alloc hb4.size (.cells #[.int .i64 ((j : Int)), .int .i64 HH] 58)).grown hg5 (Nat.le_trans hb4.size (by simp)) (fun k hk => by have := own_ge hown4 k hk; omega)
           have hz5 : w4.heap.size + 1 ≤ w5.heap.size := by have := hg5.size; simpa using this
           obtain ⟨A5, c5, rfl⟩ := own_shape hown5
           have hX5 := (hX4.alloc (.cells #[.int .i64 (j : Int), .int .i64 HH] 58)).grown hg5 (by simp [Value.ownBlock]; omega)
           have x5 := hX5.c 0 rfl
           have hI5 := (hI4.alloc (.cells #[.int .i64 (j : Int), .int .i64 HH] 58)).grown hg5 (by simp [Value.ownBlock]; omega)
           have m5 := hI5.c 0 rfl
           have hc5 := own_cap hown5
           have hMc5 : td'.length + 1 ≤ 4098 := by omega)
        | (at_builtin; refine wpList_append_any _ rfl (.tmp 120) (.tmp 126) 59 rfl (w.heap.size + 1 + 1) 58 i0 _ 2 16 Try.underlying59 hi0 hz0 hz1 hz2 rfl (by omega) _ (td'.length + 1) _ (by rfl) (hown5.alloc (.cells #[.int .i64 ((at' : Int) + 1), .int .i64 HH] 58)) (w5.heap.size + 1) _ 1 1 [.int .i64 ((at' : Int) + 1), .int .i64 HH] (by rfl) (Rd.laid w5 #[.int .i64 ((at' : Int) + 1), .int .i64 HH] 58 2 1 rfl) (fun u hu => by simp at hu; rcases hu with rfl | rfl <;> rfl) (by simp [maxLen]; omega) (by omega) (by simp; omega) ?_
           intro v6 w6 hown6 hg6 hat6
           have hrow6 := row_grown (hrow5.alloc (.cells #[.int .i64 ((at' : Int) + 1), .int .i64 HH] 58)) hg6 (own_ne_row hown5 hrow5 (by decide))
           have hC6 := (hC5.alloc (.cells #[.int .i64 ((at' : Int) + 1), .int .i64 HH] 58)).grown hg6 (fun e => by have := own_ge hown5 _ e.symm; omega)
           have hP6 := (hP5.alloc (.cells #[.int .i64 ((at' : Int) + 1), .int .i64 HH] 58)).grown hg6 (fun e => by have := own_ge hown5 _ e.symm; omega)
           have hb6 := (hb5.alloc hb5.size (.cells #[.int .i64 ((at' : Int) + 1), .int .i64 HH] 58)).grown hg6 (Nat.le_trans hb5.size (by simp)) (fun k hk => by have := own_ge hown5 k hk; omega)
           have hz6 : w5.heap.size + 1 ≤ w6.heap.size := by have := hg6.size; simpa using this
           obtain ⟨A6, c6, rfl⟩ := own_shape hown6))
      go_roundw
      case rel =>
        refine ⟨hs.set at' (g + 1), td' ++ [(j, HH), (at' + 1, HH)], ?_, ?_, hrow6, ?_, hC6, hP6, hb6⟩
        · have hst := HST.out hmay
          rw [hnx.out, HO.out] at hst
          simpa using hst
        · rw [show (td' ++ [(j, HH), (at' + 1, HH)]).length = td'.length + 1 + 1 from by simp, show tdC (td' ++ [(j, HH), (at' + 1, HH)]) = tdC td' ++ [Value.int .i64 (j : Int), Value.int .i64 HH, Value.int .i64 ((at' : Int) + 1), Value.int .i64 HH] from by simp [tdC]]
          simp only [List.append_assoc, List.cons_append, List.nil_append] at hown6
          exact hown6
        · have hf2 := hfs
          simp at hf2 ⊢
          omega
      case measure =>
        rw [HCN.out, cntW_row (· == 0) HLS.out hrow6, HMS.out]
        simp only [lenOf]
        have hff := HFS.out
        unfold freshN at hff
        omega
    have q15 : (op == 15) = false := beq_eq_false_iff_ne.2 h15
    have hnx : nextS at' ⟨op, (j : Int), ib2⟩ = [at' + 1] := by simp [nextS, h14, h15, h17]
    have hnx := Lib.hid hnx
    clear h17 h14 h15
    as_aux_lemma =>
    go_wp2_with (first
      | (at_builtin; refine wpList_append_any _ rfl (.tmp 120) (.tmp 126) 59 rfl (w.heap.size + 1 + 1) 58 i0 _ 2 16 Try.underlying59 hi0 hz0 hz1 hz2 rfl (by omega) _ (td'.length) _ (by rfl) (hown4.alloc (.cells #[.int .i64 ((at' : Int) + 1), .int .i64 HH] 58)) (w4.heap.size + 1) _ 1 1 [.int .i64 ((at' : Int) + 1), .int .i64 HH] (by rfl) (Rd.laid w4 #[.int .i64 ((at' : Int) + 1), .int .i64 HH] 58 2 1 rfl) (fun u hu => by simp at hu; rcases hu with rfl | rfl <;> rfl) (by simp [maxLen]; omega) (by omega) (by simp; omega) ?_
         intro v5 w5 hown5 hg5 hat5
         have hrow5 := row_grown (hrow4.alloc (.cells #[.int .i64 ((at' : Int) + 1), .int .i64 HH] 58)) hg5 (own_ne_row hown4 hrow4 (by decide))
         have hC5 := (hC4.alloc (.cells #[.int .i64 ((at' : Int) + 1), .int .i64 HH] 58)).grown hg5 (fun e => by have := own_ge hown4 _ e.symm; omega)
         have hP5 := (hP4.alloc (.cells #[.int .i64 ((at' : Int) + 1), .int .i64 HH] 58)).grown hg5 (fun e => by have := own_ge hown4 _ e.symm; omega)
         have hb5 := (hb4.alloc hb4.size (.cells #[.int .i64 ((at' : Int) + 1), .int .i64 HH] 58)).grown hg5 (Nat.le_trans hb4.size (by simp)) (fun k hk => by have := own_ge hown4 k hk; omega)
         have hz5 : w4.heap.size + 1 ≤ w5.heap.size := by have := hg5.size; simpa using this
         obtain ⟨A5, c5, rfl⟩ := own_shape hown5))
    go_roundw
    case rel =>
      refine ⟨hs.set at' (g + 1), td' ++ [(at' + 1, HH)], ?_, ?_, hrow5, ?_, hC5, hP5, hb5⟩
      · have hst := HST.out hmay
        rw [hnx.out, HO.out] at hst
        simpa using hst
      · rw [show (td' ++ [(at' + 1, HH)]).length = td'.length + 1 from by simp]
        simp only [tdC_snoc, List.append_assoc, List.cons_append, List.nil_append] at hown5 ⊢
        exact hown5
      · have hf2 := hfs
        simp at hf2 ⊢
        omega
    case measure =>
      rw [HCN.out, cntW_row (· == 0) HLS.out hrow5, HMS.out]
      simp only [lenOf]
      have hff := HFS.out
      unfold freshN at hff
      omega
set_option maxRecDepth 100000 in
set_option maxHeartbeats 8000000 in
theorem codeCheck_any (fl : Pce → Bool) (ps : List Pce) (nns : Nat) (A A' : Option Addr) (c c' B : Nat) (w : World) (hP : PcsR w B A ps) (hB : B ≤ w.heap.size) (hfl : ∀ p, IsFlow ps p.body (fl p)) (hps : ps.length ≤ maxLen) (hbl : ∀ p ∈ ps, p.body.length ≤ maxLen) :
  Calls Try.prog 10 #[codV A ps.length c A' nns c'] w fun e w' => e = .returned (.int .i64 (chkS fl ps nns)) ∧ Below w.heap.size w w' := by
 unfold maxLen at *
 by_cases h32 : 32 < ps.length
 ·have HX := Lib.hid (chk_long (fl := fl) (nns := nns) h32); generalize chkS fl ps nns = X at *; obtain rfl := HX.out; have h32i : (32 : Int) < (ps.length : Int) := by omega
  unfold codV; go_enter Try.func10, Try.ntmps10; go_wp2_with fail; go_ret; exact ⟨rfl, (Below.refl _ _).alloc (Nat.le_refl _) _⟩
 have h32i : ¬ (32 : Int) < (ps.length : Int) := by omega
 have HBIG := Lib.hid (chk_big (fl := fl) (ps := ps) (nns := nns)); have HBAD := Lib.hid (chk_bad (fl := fl) (nns := nns) h32); have HNO := Lib.hid (chk_no (fl := fl) (nns := nns) h32); have HOK := Lib.hid (chk_ok (fl := fl) (nns := nns) h32); generalize chkS fl ps nns = X at *; have hF := fun p i Ab cb W hl hb => opfits_any ps.length nns p i A A' Ab c c' cb W hl hb (by omega)
 have hL := fun p Ab cb W hP hI hB2 hfew hfit hb => flows_any ps nns p A A' Ab c c' cb B W hP hI hB2 hfew hfit hb (by omega) (fl p) (hfl p)
 unfold codV pceV insV at hF; unfold codV pceV at hL; unfold codV; clear hfl; go_enter Try.func10, Try.ntmps10; go_wp2_with fail
 go_loopw [18] (fun z wr => ∃ k : Nat, z = .int .i64 (k : Int) ∧ k ≤ ps.length ∧ (ps.drop k).any bigB = ps.any bigB ∧ Blk wr w.heap.size 25 #[.slice A ps.length c, .slice A' nns c'] ∧ Below w.heap.size w wr) (fun z _ => ps.length - (intOf z).toNat)
 case atStart => exact ⟨0, rfl, by omega, rfl, Blk.new _ _ _, (Below.refl _ _).alloc (Nat.le_refl _) _⟩
 case round =>
  obtain ⟨k, rfl, hk, he, hC, hb⟩ := hrel; have hz := hb.size; have hc0 := hC.c 0 rfl; have hc1 := hC.c 1 rfl; have hcA := fun o => hC.cell_a 0 (Value.slice A ps.length c) rfl o
  by_cases hlt : k < ps.length
  ·as_aux_lemma =>
   clear hF hL HBAD HNO HOK; have hki : (k : Int) < (ps.length : Int) := by omega
   have hbp := hbl _ (List.getElem_mem hlt); have HB1 := Lib.hid (fun h => any_head hlt (bigB_true (p := (ps[k]'hlt)) h)); have HS := Lib.hid (fun h => any_step hlt (bigB_false (p := (ps[k]'hlt)) h) he); obtain ⟨pb, off, Ab, cb, rfl, hbB, k0, k1, k2, k3, k4, hI⟩ := (hP.below (hb.mono hB)) k hlt; clear he hP hI hbl; generalize ps[k] = p at *; obtain ⟨nm, opn, prm, loc, body⟩ := p; simp only at k0 k1 k2 k3 k4 hbp HB1 HS; have hnew : Blk (wr.alloc (.cells #[.string (bs nm), .bool opn, .int .i64 prm, .int .i64 loc, .slice Ab body.length cb] 34)) wr.heap.size 34 #[.string (bs nm), .bool opn, .int .i64 prm, .int .i64 loc, .slice Ab body.length cb] := Blk.new _ _ _
   by_cases a1 : body.length ≤ 2048
   ·have d1 : decide ((2048 : Int) < (body.length : Int)) = false := decide_eq_false (by omega)
    by_cases a2 : loc ≤ 32
    ·have d2 : decide ((32 : Int) < loc) = false := decide_eq_false (by omega)
     by_cases a3 : prm ≤ 8
     ·have d3 : decide ((8 : Int) < prm) = false := decide_eq_false (by omega); go_wp2_with fail
      go_roundw
      case rel => exact ⟨k + 1, by go_num, by omega, HS.out ⟨a1, a2, a3⟩, hC.alloc _, hb.alloc hz _⟩
      case measure => simp [intOf]; omega
     ·have d3 : decide ((8 : Int) < prm) = true := decide_eq_true (by omega); obtain rfl := HBIG.out (HB1.out (by omega)); go_wp2_with fail; go_ret; exact ⟨rfl, hb.alloc hz _⟩
    ·have d2 : decide ((32 : Int) < loc) = true := decide_eq_true (by omega); obtain rfl := HBIG.out (HB1.out (by omega)); go_wp2_with fail; go_ret; exact ⟨rfl, hb.alloc hz _⟩
   ·have d1 : decide ((2048 : Int) < (body.length : Int)) = true := decide_eq_true (by omega); obtain rfl := HBIG.out (HB1.out (by omega)); go_wp2_with fail; go_ret; exact ⟨rfl, hb.alloc hz _⟩
  ·as_aux_lemma =>
   have hki : ¬ (k : Int) < (ps.length : Int) := by omega
   have hbig := any_end (by omega) he; have HBAD := Lib.hid (HBAD.out hbig); have HNO := Lib.hid (HNO.out hbig); have HOK := Lib.hid (HOK.out hbig); have HNB := Lib.hid (fun p (hp : p ∈ ps) => not_big hbig hp); have HFW := Lib.hid (fun h2 => few_of (nns := nns) hbig h2 h32); clear hbig he HBIG hlt hk; obtain ⟨w0, rfl⟩ : ∃ w0 : World, w0 = wr := ⟨_, rfl⟩
   go_wp2_with fail
   go_loopw [40] (fun z wr => ∃ k : Nat, z = .int .i64 (k : Int) ∧ k ≤ ps.length ∧ (ps.drop k).any (badB ps.length nns) = ps.any (badB ps.length nns) ∧ Blk wr w.heap.size 25 #[.slice A ps.length c, .slice A' nns c'] ∧ Below w.heap.size w wr) (fun z _ => ps.length - (intOf z).toNat)
   case atStart => exact ⟨0, rfl, by omega, rfl, hC, hb⟩
   case round =>
    clear hc0 hc1 hcA hC hb hz hki; obtain ⟨k, rfl, hk, he, hC, hb⟩ := hrel; have hz := hb.size; have hc0 := hC.c 0 rfl; have hc1 := hC.c 1 rfl; have hcA := fun o => hC.cell_a 0 (Value.slice A ps.length c) rfl o
    by_cases hlt : k < ps.length
    ·as_aux_lemma =>
     clear hL HNO HOK HFW; have hki : (k : Int) < (ps.length : Int) := by omega
     obtain ⟨hbp, hlp, hpp⟩ := HNB.out _ (List.getElem_mem hlt); have HB1 := Lib.hid (fun h => HBAD.out (any_head hlt (badB_par (nns := nns) (nps := ps.length) (p := (ps[k]'hlt)) h))); have HB2 := Lib.hid (fun h => HBAD.out (any_head hlt (badB_body (nns := nns) (nps := ps.length) (p := (ps[k]'hlt)) h))); have HS := Lib.hid (fun h h2 => any_step hlt (badB_ok (nns := nns) (nps := ps.length) (p := (ps[k]'hlt)) h h2) he); have hFk := fun i Ab cb => hF (ps[k]'hlt) i Ab cb
     obtain ⟨pb, off, Ab, cb, rfl, hbB, k0, k1, k2, k3, k4, hI⟩ := (hP.below (hb.mono hB)) k hlt; clear he hbl HBAD HNB hF; generalize ps[k] = p at *; obtain ⟨nm, opn, prm, loc, body⟩ := p; simp only at k0 k1 k2 k3 k4 hbp hlp hpp HB1 HB2 HS hFk hI
     by_cases a1 : prm < 0
     ·have d1 : decide (prm < 0) = true := decide_eq_true a1; obtain rfl := HB1.out (.inl a1); clear HB2 HS hFk; go_wp2_with fail; go_ret; exact ⟨rfl, hb.alloc hz _⟩
     have d1 : decide (prm < 0) = false := decide_eq_false a1
     by_cases a2 : loc < prm
     ·have d2 : decide (loc < prm) = true := decide_eq_true a2; obtain rfl := HB1.out (.inr a2); clear HB2 HS hFk; go_wp2_with fail; go_ret; exact ⟨rfl, hb.alloc hz _⟩
     have d2 : decide (loc < prm) = false := decide_eq_false a2; have HS := Lib.hid (HS.out (by omega)); clear HB1; go_wp2_with fail; generalize hp2 : (⟨nm, opn, prm, loc, body⟩ : Pce) = p2 at HB2 HS hFk; have hN : Blk (wr.alloc (.cells #[.string (bs nm), .bool opn, .int .i64 prm, .int .i64 loc, .slice Ab body.length cb] 34)) wr.heap.size 34 #[.string (bs nm), .bool opn, .int .i64 prm, .int .i64 loc, .slice Ab body.length cb] := Blk.new _ _ _; have hz2 : w.heap.size < wr.heap.size := hC.lt; have hC2 := hC.alloc (.cells #[.string (bs nm), .bool opn, .int .i64 prm, .int .i64 loc, .slice Ab body.length cb] 34); have hb2 := hb.alloc hz (.cells #[.string (bs nm), .bool opn, .int .i64 prm, .int .i64 loc, .slice Ab body.length cb] 34); have hI2 : InsR wr wr.heap.size Ab body := fun j hj => by
      obtain ⟨b', o', e1, e2, e3⟩ := hI j hj; exact ⟨b', o', e1, by omega, e3⟩
     generalize hwg : wr.heap.size = g at *; obtain ⟨w1, rfl⟩ : ∃ w1 : World, w1 = wr := ⟨_, rfl⟩
     go_loopw [57] (fun z wr => ∃ j : Nat, z = .int .i64 (j : Int) ∧ j ≤ body.length ∧ (body.drop j).all (fitS ps.length nns p2) = body.all (fitS ps.length nns p2) ∧ Blk wr w.heap.size 25 #[.slice (some ⟨pb, off, none⟩) ps.length c, .slice A' nns c'] ∧ Blk wr g 34 #[.string (bs nm), .bool opn, .int .i64 prm, .int .i64 loc, .slice Ab body.length cb] ∧ Below w.heap.size w wr ∧ Below g w1 wr) (fun z _ => body.length - (intOf z).toNat)
     case atStart => exact ⟨0, rfl, by omega, rfl, hC2, hN, hb2, (Below.refl _ _).alloc (by omega) _⟩
     case round =>
      clear hc0 hc1 hcA hC hb hz hki k0 k1 k2 k3 k4 d1 d2 hC2 hb2 hN; obtain ⟨j, rfl, hj, hf, hC, hN, hb, hb1⟩ := hrel; have hz := hb.size; have hz1 := hb1.size; have hgl := hN.lt; have hc0 := hC.c 0 rfl; have hc1 := hC.c 1 rfl; have hcA := fun o => hC.cell_a 0 (Value.slice _ ps.length c) rfl o
      have hcB := fun o => hC.cell_a 1 (Value.slice A' nns c') rfl o
      have n0 := hN.c 0 rfl; have n1 := hN.c 1 rfl; have n2 := hN.c 2 rfl; have n3 := hN.c 3 rfl; have n4 := hN.c 4 rfl; have nA0 := fun o => hN.cell_a 0 (Value.string (bs nm)) rfl o
      have nA1 := fun o => hN.cell_a 1 (Value.bool opn) rfl o
      have nA2 := fun o => hN.cell_a 2 (Value.int .i64 prm) rfl o
      have nA3 := fun o => hN.cell_a 3 (Value.int .i64 loc) rfl o
      have nA4 := fun o => hN.cell_a 4 (Value.slice Ab body.length cb) rfl o
      by_cases hlt2 : j < body.length
      ·have hji : (j : Int) < (body.length : Int) := by omega
       have hcall := fun Ab cb W => hFk (body[j]'hlt2) Ab cb W ⟨by omega, hlp⟩ hbp
       have HBd := Lib.hid (fun h => HB2.out (all_head hlt2 h)); have HSt := Lib.hid (fun h => all_step hlt2 h hf); generalize fitS ps.length nns p2 body[j] = q at hcall HBd HSt; obtain ⟨ib, io, rfl, hib, i0, i1, i2⟩ := (hI2.below hb1) j hlt2; clear hI2 hFk hP hf HB2 HS; generalize body[j] = x at *; obtain ⟨iop, ia, ibb⟩ := x; simp only at hcall i0 i1 i2; have hbq := hb.alloc hz (.cells #[.int .i64 iop, .int .i64 ia, .int .i64 ibb] 31); have hbq1 := hb1.alloc (by omega) (.cells #[.int .i64 iop, .int .i64 ia, .int .i64 ibb] 31); have hCq := hC.alloc (.cells #[.int .i64 iop, .int .i64 ia, .int .i64 ibb] 31); have hNq := hN.alloc (.cells #[.int .i64 iop, .int .i64 ia, .int .i64 ibb] 31); go_wp2_with fail
       with_reducible refine (hcall (some ⟨ib, io, none⟩) cb (wr.alloc (.cells #[.int .i64 iop, .int .i64 ia, .int .i64 ibb] 31))).mono ?_
       rintro e w2 ⟨rfl, hb2⟩; cases q
       ·obtain rfl := HBd.out rfl; go_wp2_with fail; go_ret; exact ⟨rfl, hbq.trans (hb2.mono hbq.size)⟩
       ·have hst := Lib.hid (HSt.out rfl); clear HBd HSt hcall; go_wp2_with fail
        go_roundw
        case rel => exact ⟨j + 1, by go_num, by omega, hst.out, hCq.below hb2 hCq.lt, hNq.below hb2 hNq.lt, hbq.trans (hb2.mono hbq.size), hbq1.trans (hb2.mono (by have := hbq1.size; omega))⟩
        case measure => simp [intOf]; omega
      ·have hji : ¬ (j : Int) < (body.length : Int) := by omega
       have hs := HS.out (all_end (by omega) hf); clear HB2 HS hFk hf hI2 hP; go_wp2_with fail
       go_roundw
       case rel => exact ⟨k + 1, by go_num, by omega, hs, hC, hb⟩
       case measure => simp [intOf]; omega
    ·as_aux_lemma =>
     have hki : ¬ (k : Int) < (ps.length : Int) := by omega
     have hbad := any_end (by omega) he; have HOK := Lib.hid (HOK.out hbad); obtain ⟨hfew, hfit⟩ := HFW.out hbad; have HFT := Lib.hid hfit; clear hbad hfit he HBAD HNB HFW hF hlt hk; obtain ⟨w1, rfl⟩ : ∃ w1 : World, w1 = wr := ⟨_, rfl⟩
     go_wp2_with fail
     go_loopw [71] (fun z wr => ∃ k : Nat, z = .int .i64 (k : Int) ∧ k ≤ ps.length ∧ (ps.drop k).all fl = ps.all fl ∧ Blk wr w.heap.size 25 #[.slice A ps.length c, .slice A' nns c'] ∧ Below w.heap.size w wr) (fun z _ => ps.length - (intOf z).toNat)
     case atStart => exact ⟨0, rfl, by omega, rfl, hC, hb⟩
     case round =>
      clear hc0 hc1 hcA hC hb hz hki; obtain ⟨k, rfl, hk, he, hC, hb⟩ := hrel; have hz := hb.size; have hc0 := hC.c 0 rfl; have hc1 := hC.c 1 rfl; have hcA := fun o => hC.cell_a 0 (Value.slice A ps.length c) rfl o
      have hcB := fun o => hC.cell_a 1 (Value.slice A' nns c') rfl o
      by_cases hlt : k < ps.length
      ·have hki : (k : Int) < (ps.length : Int) := by omega
       obtain ⟨hfx, hb48, hlo, hl32⟩ := HFT.out _ (List.getElem_mem hlt); have hcall := fun Ab cb W h1 h2 h3 => hL (ps[k]'hlt) Ab cb W h1 h2 h3 hfew hfx hb48
       have HH := Lib.hid (fun h => HNO.out (all_head hlt h)); have HS := Lib.hid (fun h => all_step hlt h he); have HEND := Lib.hid (Nat.le_refl 0); clear hfx HFT hL he; have hPw := hP.below (hb.mono hB); obtain ⟨pb, off, Ab, cb, rfl, hbB, k0, k1, k2, k3, k4, hI⟩ := hPw k hlt; generalize fl ps[k] = q at *; generalize ps[k] = p at *; obtain ⟨nm, opn, prm, loc, body⟩ := p; simp only at k0 k1 k2 k3 k4 hcall hI hb48 hlo hl32; have hN : Blk (wr.alloc (.cells #[.string (bs nm), .bool opn, .int .i64 prm, .int .i64 loc, .slice Ab body.length cb] 34)) wr.heap.size 34 #[.string (bs nm), .bool opn, .int .i64 prm, .int .i64 loc, .slice Ab body.length cb] := Blk.new _ _ _; have hbq := hb.alloc hz (.cells #[.string (bs nm), .bool opn, .int .i64 prm, .int .i64 loc, .slice Ab body.length cb] 34); have hCq := hC.alloc (.cells #[.string (bs nm), .bool opn, .int .i64 prm, .int .i64 loc, .slice Ab body.length cb] 34); have hcl := hcall Ab cb (wr.alloc (.cells #[.string (bs nm), .bool opn, .int .i64 prm, .int .i64 loc, .slice Ab body.length cb] 34)) (hPw.below ((Below.refl B wr).alloc (by omega) _)) (hI.below ((Below.refl B wr).alloc (by omega) _)) (by simp; omega); clear hcall hPw hI hP; go_wp2_with fail; refine hcl.mono ?_; rintro e w2 ⟨rfl, hb2⟩; cases q
       ·obtain rfl := HH.out rfl; go_wp2_with fail; go_ret; exact ⟨rfl, hbq.trans (hb2.mono hbq.size)⟩
       ·have hst := Lib.hid (HS.out rfl); clear HH HS hcl; go_wp2_with fail
        go_roundw
        case rel => exact ⟨k + 1, by go_num, by omega, hst.out, hCq.below hb2 hCq.lt, hbq.trans (hb2.mono hbq.size)⟩
        case measure => simp [intOf]; omega
      ·have hki : ¬ (k : Int) < (ps.length : Int) := by omega
       obtain rfl := HOK.out (all_end (by omega) he); clear HNO HFT hL he; go_wp2_with fail; go_ret; exact ⟨rfl, hb⟩
end Go.Proofs.Ytgjbcahpgkchfaa
