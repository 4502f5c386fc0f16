/- Of the texts Code7. -/
import Derived.Test.YtgjbcahpgkchfaaProg
import Derived.Test.YtgjbcahpgkchfaaG09
import Derived.Test.YtgjbcahpgkchfaaG02
import Derived.RegionTactic
import Derived.Deep.OwnRows
set_option linter.unusedSimpArgs false
set_option linter.unusedVariables false
namespace Go.Proofs.Ytgjbcahpgkchfaa
open Go.RowKit
def natV (l : List Nat) : List Value := l.map fun j : Nat => Value.int .i64 (j : Int)
def isT : Value → Nat
 | .bool true => 1
 | _ => 0
theorem intInfo7 : (Try.prog.info? 3).map (fun i => (i.zero, i.size, i.bytes)) = some (some (.int .i64 0), 1, 8) := by kernel_rfl
theorem row_neg {w : World} {g n : Nat} {t : TypeId} (h : w.rowIs g t n (fun j => .int .i64 (if j < n then -1 else 0))) : w.rowIs g t n (fun j => .int .i64 ((List.replicate n (-1 : Int)).getD j 0)) :=
 h.congr fun j hj => by simp [List.getD, hj]
def RPost (ps : List Pce) (I : List Ins) (b : Bool) (w : World) (v : Value) : Prop := ∃ (q : Nat) (hs : List Int), v = .slice (some ⟨q, 0, none⟩) I.length I.length ∧ w.rowIs q 3 I.length (fun j => .int .i64 (hs.getD j 0)) ∧ hs.length = I.length ∧ (b = true → Typ ps I (heldH hs))
theorem RIn.typ {ps : List Pce} {I : List Ins} {k c0 : Nat} {hs : List Int} {ok : Bool} (h : RIn ps I k c0 hs ok false) (hk : I.length ≤ k) (hb : ok = true) : Typ ps I (heldH hs) := by
 refine ⟨by unfold heldH; rw [h.pass.start]; rfl, fun i g e => ?_⟩; have hl : i < I.length := by
  rw [← h.pass.len]
  rcases Nat.lt_or_ge i hs.length with hl | hl
  ·exact hl
  ·unfold heldH at e; rw [List.getElem?_eq_none hl] at e; cases e
 obtain ⟨a, b⟩ := h.good rfl hb i (by omega) g I[i] e (List.getElem?_eq_getElem hl); exact ⟨I[i], List.getElem?_eq_getElem hl, a, b⟩
theorem nextS_le (k : Nat) (x : Ins) : (nextS k x).length ≤ 2 := by
 unfold nextS; split <;> split <;> simp
theorem nextS_bd {k nb nps : Nat} {x : Ins} (h : Fit nps nb x) (hk : k < nb) : ∀ j, j ∈ nextS k x → j ≤ nb := fun j hj => by
 obtain ⟨_, _, h3, _, h5, _, _⟩ := h; simp only [nextS, List.mem_append] at hj
 rcases hj with hj | hj
 ·split at hj
  ·rename_i e
   have := h5 e; simp at hj; omega
  ·simp at hj
 ·split at hj
  ·simp at hj; omega
  ·simp at hj
set_option maxRecDepth 100000 in
set_option maxHeartbeats 8000000 in
theorem reached_any (ps : List Pce) (nns : Nat) (p : Pce) (A A' Ab : Option Addr) (c c' cb B : Nat) (w : World) (hP : PcsR w B A ps) (hI : InsR w B Ab p.body) (hB : B ≤ w.heap.size) (hfew : Few ps) (hfit : ∀ x, x ∈ p.body → Fit ps.length p.body.length x) (hl : -9223372036854775807 ≤ p.locals ∧ p.locals ≤ 32) (hbl : p.body.length ≤ 2048) (hps : ps.length ≤ 32) (b : Bool) (hfl : IsFlow ps p.body b) :
    Calls Try.prog 8 #[codV A ps.length c A' nns c', pceV p Ab cb] w fun e w' => (∃ v, e = .returned (.tuple #[v, .bool b]) ∧ RPost ps p.body b w' v) ∧ Below w.heap.size w w' := by
  obtain ⟨i0, hi0, hz0, hz1, hz2⟩ := info_parts intInfo7
  have hmk := run_make_row' (P := Try.prog) 37 3 (.int .i64 0) 8 Try.underlying37 (by kernel_rfl) rfl .i64 .i64 p.body.length (by omega) (by omega)
  have HFL : ∀ x, IsFlow ps p.body x → Hid (b = x) := fun x hx => hfl.eq hx
  clear hfl
  have htab := fun (x : Ins) W g1 g2 g3 => table_any ps nns p x A A' Ab c c' cb B W g1 g2 g3 hl hbl (by omega)
  unfold codV insV pceV at htab
  unfold codV pceV
  have hpn : ∃ nm, nm = p.name := ⟨_, rfl⟩
  obtain ⟨nm, hnm⟩ := hpn
  generalize p.opn = opn at *
  generalize p.params = prm at *
  rw [← hnm] at htab ⊢
  clear hnm
  have hlo : ∃ loc, loc = p.locals := ⟨_, rfl⟩
  obtain ⟨loc, hloc⟩ := hlo
  rw [← hloc] at htab ⊢
  clear hloc hl
  go_enter Try.func8, Try.ntmps8
  go_wp2_with fail
  go_loopw [7] (fun i wr => ∃ k : Nat, i = .int .i64 (k : Int) ∧ k ≤ p.body.length ∧ wr.rowIs (w.heap.size + 1 + 1) 3 p.body.length (fun j => .int .i64 (if j < k then -1 else 0)) ∧ Blk wr w.heap.size 25 #[.slice A ps.length c, .slice A' nns c'] ∧ Blk wr (w.heap.size + 1) 34 #[.string (bs nm), .bool opn, .int .i64 prm, .int .i64 loc, .slice Ab p.body.length cb] ∧ Below w.heap.size w wr) (fun i _ => p.body.length - (intOf i).toNat)
  case atStart =>
    refine ⟨0, rfl, Nat.zero_le _, ?_, ?_, ?_, ?_⟩
    · have hN := World.rowIs_made ((w.alloc (.cells #[.slice A ps.length c, .slice A' nns c'] 25)).alloc (.cells #[.string (bs nm), .bool opn, .int .i64 prm, .int .i64 loc, .slice Ab p.body.length cb] 34)) (.int .i64 0) p.body.length 3
      rw [show ((w.alloc (.cells #[.slice A ps.length c, .slice A' nns c'] 25)).alloc (.cells #[.string (bs nm), .bool opn, .int .i64 prm, .int .i64 loc, .slice Ab p.body.length cb] 34)).heap.size = w.heap.size + 1 + 1 from by simp] at hN
      exact hN.congr fun j _ => by simp
    · exact ((Blk.new _ _ _).alloc _).alloc _
    · have hN := Blk.new (w.alloc (.cells #[.slice A ps.length c, .slice A' nns c'] 25)) 34 #[.string (bs nm), .bool opn, .int .i64 prm, .int .i64 loc, .slice Ab p.body.length cb]
      rw [show (w.alloc (.cells #[.slice A ps.length c, .slice A' nns c'] 25)).heap.size = w.heap.size + 1 from by simp] at hN
      exact hN.alloc _
    · exact (((Below.refl _ _).alloc (Nat.le_refl _) _).alloc (by simp) _).alloc (by simp; omega) _
  case round =>
    obtain ⟨k, rfl, hk, hrow, hC, hPc, hb⟩ := hrel
    have hlr := hrow.lt
    have hz := hb.size
    by_cases hkl : k < p.body.length
    · have hki : (k : Int) < (p.body.length : Int) := by omega
      have hk0 : (0 : Int) ≤ (k : Int) := by omega
      have hrc := hrow.cell hkl
      have hrf := hrow.frozen k
      go_wp2_with fail
      go_roundw
      case rel =>
        refine ⟨k + 1, by go_num, by omega, (hrow.set k _).congr fun j hj => ?_, hC.far (by simp; omega) _, hPc.far (by simp) _, hb.setCell (by simp; omega) _⟩
        by_cases e : j = k
        · subst e; simp
        · by_cases e2 : j < k
          · have e3 : j < k + 1 := by omega
            simp [e, e2, e3]
          · have e3 : ¬ j < k + 1 := by omega
            simp [e, e2, e3]
      case measure => simp [intOf]; omega
    have hkn : k = p.body.length := by omega
    rw [hkn] at hrow
    have hrow := row_neg hrow
    have hki : ¬ (k : Int) < (p.body.length : Int) := by omega
    clear hkn hk
    by_cases h0 : p.body.length = 0
    · have hnil : p.body = [] := List.length_eq_zero_iff.mp h0
      obtain rfl := (HFL false (by rw [hnil]; exact flow_none ps)).out
      have h0i : ((p.body.length : Int) == 0) = true := by simp [h0]
      clear h0 hnil
      go_wp2_with fail
      exact bodyPost_ret (v := .tuple #[_, .bool false]) (by simp [results, Try.results8, go_sem] <;> rfl) rfl ⟨⟨_, rfl, _, List.replicate p.body.length (-1), rfl, hrow, by simp, fun e => absurd e (by simp)⟩, hb⟩
    have hn0 : 0 < p.body.length := by omega
    have hn0i : (0 : Int) < (p.body.length : Int) := by omega
    have h0i : ((p.body.length : Int) == 0) = false := beq_eq_false_iff_ne.2 (by omega)
    obtain ⟨hpass, hroom⟩ := Pass.start_ ps p.body hn0
    have hrc := hrow.cell hn0
    have hrf := hrow.frozen 0
    have hrow2 := row_set hrow (by simp) 0 0
    have hC2 := hC.far (p := ⟨w.heap.size + 1 + 1, 0, none⟩) (by simp; omega) (.int .i64 0)
    have hP2 := hPc.far (p := ⟨w.heap.size + 1 + 1, 0, none⟩) (by simp) (.int .i64 0)
    have hb2 := hb.setCell (p := ⟨w.heap.size + 1 + 1, 0, none⟩) (by simp; omega) (.int .i64 0)
    generalize (List.replicate p.body.length (-1 : Int)).set 0 0 = hs0 at *
    clear hrow hC hPc hb h0
    go_upto_region 9 with fail
    generalize hw2 : wr.setCell ⟨w.heap.size + 1 + 1, 0, none⟩ (.int .i64 0) = w2 at *
    clear hw2 hrc hrf hlr hz
    go_wp2_with fail
    go_loopw [8, 9] (fun o a wr => ∃ (hs : List Int) (ok again : Bool), o = .bool ok ∧ a = .bool again ∧ Pass ps p.body hs ok ∧ Room p.body hs ∧ (again = false → IsFlow ps p.body ok ∧ (ok = true → Typ ps p.body (heldH hs))) ∧ wr.rowIs (w.heap.size + 1 + 1) 3 p.body.length (fun j => .int .i64 (hs.getD j 0)) ∧ Blk wr w.heap.size 25 #[.slice A ps.length c, .slice A' nns c'] ∧ Blk wr (w.heap.size + 1) 34 #[.string (bs nm), .bool opn, .int .i64 prm, .int .i64 loc, .slice Ab p.body.length cb] ∧ Below w.heap.size w wr) (fun _ a wr => 2 * cntW (fun h => decide (h < 0)) wr (w.heap.size + 1 + 1) p.body.length + isT a)
    case atStart => exact ⟨hs0, true, true, rfl, rfl, hpass, hroom, fun e => absurd e (by simp), hrow2, hC2, hP2, hb2⟩
    case round =>
      clear hrow2 hC2 hP2 hb2 hpass hroom
      obtain ⟨hs1, ok1, again1, rfl, rfl, hpass1, hroom1, hov, hrow1, hC1, hP1, hb1⟩ := hrel
      cases again1
      · have hty := Lib.hid (hov rfl).2
        have hl1 := Lib.hid hpass1.len
        obtain rfl := (HFL ok1 (hov rfl).1).out
        clear hov hpass1 hroom1
        go_wp2_with fail
        exact bodyPost_ret (v := .tuple #[_, .bool b]) (by simp [results, Try.results8, go_sem] <;> rfl) rfl ⟨⟨_, rfl, _, hs1, rfl, hrow1, hl1.out, hty.out⟩, hb1⟩
      clear hov
      have HC1 := Lib.hid (cntW_row (fun h => decide (h < 0)) hpass1.len hrow1)
      go_wp2_with fail
      obtain ⟨wo, rfl⟩ : ∃ wo : World, wo = wr := ⟨_, rfl⟩
      go_loopw [8, 9, 10] (fun o a i wr => ∃ (k : Nat) (hs : List Int) (ok again : Bool), i = .int .i64 (k : Int) ∧ k ≤ p.body.length ∧ o = .bool ok ∧ a = .bool again ∧ RIn ps p.body k (lessN hs1) hs ok again ∧ wr.rowIs (w.heap.size + 1 + 1) 3 p.body.length (fun j => .int .i64 (hs.getD j 0)) ∧ Blk wr w.heap.size 25 #[.slice A ps.length c, .slice A' nns c'] ∧ Blk wr (w.heap.size + 1) 34 #[.string (bs nm), .bool opn, .int .i64 prm, .int .i64 loc, .slice Ab p.body.length cb] ∧ Below w.heap.size w wr) (fun _ _ i _ => p.body.length - (intOf i).toNat)
      case atStart => exact ⟨0, hs1, ok1, false, rfl, Nat.zero_le _, rfl, rfl, RIn.start_ hpass1 hroom1, hrow1, hC1, hP1, hb1⟩
      case round =>
        clear hrow1 hC1 hP1 hb1 hpass1 hroom1
        obtain ⟨k, hs, ok, again, rfl, hk, rfl, rfl, hR, hrow, hC, hPc, hb⟩ := hrel
        have hlr := hrow.lt
        have hz := hb.size
        have hlen := hR.pass.len
        by_cases hkl : k < p.body.length
        case neg =>
          have hki : ¬ (k : Int) < (p.body.length : Int) := by omega
          have HC2 := Lib.hid (cntW_row (fun h => decide (h < 0)) hlen hrow)
          have hle := hR.le
          have hlt := hR.lt
          unfold lessN at hle hlt
          have hHL := Lib.hid hlen
          clear hlen
          go_wp2_with fail
          go_roundw
          case rel =>
            refine ⟨hs, ok, again, rfl, rfl, hR.pass, hR.room, fun e => ?_, hrow, hC, hPc, hb⟩
            subst e
            exact ⟨hR.over (by omega), hR.typ (by omega)⟩
          case measure =>
            rw [HC1.out, HC2.out]
            cases again
            · simp only [isT]; omega
            · have := hlt rfl
              simp only [isT]; omega
        have hki : (k : Int) < (p.body.length : Int) := by omega
        have hk0 : (0 : Int) ≤ (k : Int) := by omega
        have hkh : k < hs.length := by omega
        have hvv : hs[k]? = some hs[k] := List.getElem?_eq_getElem hkh
        have hrc : wr.cell? ⟨w.heap.size + 1 + 1, k, none⟩ = some (.int .i64 hs[k]) := (hrow.cell hkl).trans (by simp [List.getD, hkh])
        obtain ⟨v, hv⟩ : ∃ v, v = hs[k] := ⟨_, rfl⟩
        rw [← hv] at hvv hrc
        clear hv
        have HL := Lib.hid hlen
        clear hlen
        by_cases hv0 : v < 0
        · have hR' := hR.skip hvv hv0
          have HV := Lib.hid hvv
          clear hvv
          go_wp2_with fail
          go_roundw
          case rel => exact ⟨k + 1, hs, ok, again, by go_num, by omega, rfl, rfl, hR', hrow, hC, hPc, hb⟩
          case measure => simp [intOf]; omega
        have hvp := hR.pass.pos k v hvv
        have hxi : p.body[k]? = some p.body[k] := List.getElem?_eq_getElem hkl
        have hfx := hfit p.body[k] (List.getElem_mem hkl)
        obtain ⟨ib, io, rfl, hib, i0c, i1c, i2c⟩ := insAt (hI.below (hb.mono hB)) hkl hxi
        obtain ⟨x, hxe⟩ : ∃ x, x = p.body[k] := ⟨_, rfl⟩
        rw [← hxe] at hxi hfx i0c i1c i2c
        clear hxe
        have hR4 := hR.enter hvv (by omega) hxi
        have HX := Lib.hid hxi
        have HV := Lib.hid hvv
        have hnb := nextS_bd hfx hkl
        have hn2 := nextS_le k x
        obtain ⟨f1, f2, f3, f4, f5, f6, f7⟩ := hfx
        have hT := takesS_bd hfew x (fun e => ⟨f3, f7 e⟩)
        have hL := leavesS_bd x
        obtain ⟨hrt, hrl⟩ := rtakes_eq (ps := ps) (i := x) (fun e => ⟨f3, f6 e⟩) (fun e => ⟨f3, f7 e⟩)
        have hcall := fun W g1 g2 => htab x W g1 g2 ⟨f1, f2⟩
        rw [hrt, hrl] at hcall
        have HMB : Hid (mayB ps x v = (decide (takesS ps x ≤ v) && decide (v ≤ 64) && (decide (x.op ≠ 17) || decide (v = 1)))) := rfl
        have HO : Hid (outS ps x v = v - takesS ps x + leavesS x) := rfl
        clear htab hvv hxi f4 f5 f6 f7 hrt hrl hR
        have hbX := ((Below.refl wr.heap.size wr).alloc (Nat.le_refl _) (.cells #[.int .i64 x.op, .int .i64 x.a, .int .i64 x.b] 31))
        have hIX := Blk.new wr 31 #[.int .i64 x.op, .int .i64 x.a, .int .i64 x.b]
        have hrowX := hrow.alloc (.cells #[.int .i64 x.op, .int .i64 x.a, .int .i64 x.b] 31)
        have hCX := hC.alloc (.cells #[.int .i64 x.op, .int .i64 x.a, .int .i64 x.b] 31)
        have hPX := hPc.alloc (.cells #[.int .i64 x.op, .int .i64 x.a, .int .i64 x.b] 31)
        have hbW := hb.alloc hz (.cells #[.int .i64 x.op, .int .i64 x.a, .int .i64 x.b] 31)
        have p4 := hPc.c 4 rfl
        have hlw : wr.heap.size < (wr.alloc (.cells #[.int .i64 x.op, .int .i64 x.a, .int .i64 x.b] 31)).heap.size := by simp
        go_upto_region 18 with fail
        generalize hw3 : wr.alloc (.cells #[.int .i64 x.op, .int .i64 x.a, .int .i64 x.b] 31) = w3 at *
        clear hw3 i0c i1c i2c hrc p4 hrow hC hPc hb
        have c0 := hCX.c 0 rfl
        have c1 := hCX.c 1 rfl
        have e0 := hPX.c 0 rfl
        have e1 := hPX.c 1 rfl
        have e2 := hPX.c 2 rfl
        have e3 := hPX.c 3 rfl
        have e4 := hPX.c 4 rfl
        have d0 := hIX.c 0 rfl
        have d1 := hIX.c 1 rfl
        have d2 := hIX.c 2 rfl
        go_wp2_with fail
        refine (hcall w3 (hP.below (hbW.mono hB)) (Nat.le_trans hB hbW.size)).mono ?_
        rintro e w4 ⟨rfl, hb4⟩
        have hrow4 := row_below hrowX hb4 hrowX.lt
        have hI4 := hIX.below hb4 hIX.lt
        have hC4 := hCX.below hb4 hCX.lt
        have hP4 := hPX.below hb4 hPX.lt
        have hb4w := hbW.trans (hb4.mono hbW.size)
        have hz4 := hb4.size
        clear c0 c1 e0 e1 e2 e3 e4 d0 d1 d2 hcall hrowX hIX hCX hPX hb4 hbX
        generalize rmostS ps.length p x = Mx at *
        obtain ⟨op, xa, xb⟩ := x
        simp only at f1 f2 f3 hnb hn2 HMB HO
        obtain ⟨j, rfl⟩ := Int.eq_ofNat_of_zero_le f3
        have hrc4 : w4.cell? ⟨w.heap.size + 1 + 1, k, none⟩ = some (.int .i64 v) := (hrow4.cell hkl).trans (by have := HV.out; simp [List.getD, this])
        have m0 := hI4.c 0 rfl
        have m1 := hI4.c 1 rfl
        have HTK : Hid (∀ y : Ins, y = ⟨op, (j : Int), xb⟩ → 0 ≤ takesS ps y) := fun y e => by rw [e]; exact hT.1
        generalize takesS ps ⟨op, (j : Int), xb⟩ = T at *
        generalize leavesS ⟨op, (j : Int), xb⟩ = L at *
        have hwt : IntKind.i64.wrap (v - T) = v - T := IntWalk.i64_in _ (by omega)
        have hwt' : wrap64 (v - T) = v - T := by rw [← IntWalk.i64_left]; exact hwt
        obtain ⟨N, hN⟩ : ∃ N, v - T + L = N := ⟨_, rfl⟩
        have hwh : IntKind.i64.wrap (v - T + L) = N := by rw [IntWalk.i64_in _ (by omega)]; exact hN
        have hwh' : wrap64 (v - T + L) = N := by rw [← IntWalk.i64_left]; exact hwh
        have HO : Hid (outS ps ⟨op, (j : Int), xb⟩ v = N) := by show _ = _; rw [HO.out]; exact hN
        clear hN
        have hkw : IntKind.i64.wrap ((k : Int) + 1) = (k : Int) + 1 := IntWalk.i64_in _ (by omega)
        have hkw' : wrap64 ((k : Int) + 1) = (k : Int) + 1 := by rw [← IntWalk.i64_left]; exact hkw
        have hown4 : w4.ownsRow w4.heap.size 3 1 (.slice none 0 0) 0 [] := ⟨rfl, .inl ⟨rfl, rfl⟩⟩
        obtain ⟨t1, ht1⟩ : ∃ t1, decide (op = 14 ∨ op = 15) = t1 := ⟨_, rfl⟩
        obtain ⟨t2, ht2⟩ : ∃ t2, decide (op ≠ 14 ∧ op ≠ 17) = t2 := ⟨_, rfl⟩
        have HNX : Hid (nextS k ⟨op, (j : Int), xb⟩ = (if t1 = true then [j] else []) ++ (if t2 = true then [k + 1] else [])) := by
          show _ = _
          rw [← ht1, ← ht2]
          simp [nextS]
        have HT1 := Lib.hid ht1
        have HT2 := Lib.hid ht2
        clear ht1 ht2
        go_upto_region 21 with fail
        go_cut [77] (fun z wc => z = .bool t1 ∧ w4 = wc)
        case first =>
          as_aux_lemma =>
          by_cases h14 : op = 14
          · subst h14
            obtain rfl : t1 = true := by rw [← HT1.out]; simp
            go_wp2_with fail
            go_meet
            exact ⟨rfl, rfl⟩
          have q14 : (op == 14) = false := beq_eq_false_iff_ne.2 h14
          by_cases h15 : op = 15
          · subst h15
            obtain rfl : t1 = true := by rw [← HT1.out]; simp
            go_wp2_with fail
            go_meet
            exact ⟨rfl, rfl⟩
          have q15 : (op == 15) = false := beq_eq_false_iff_ne.2 h15
          obtain rfl : t1 = false := by rw [← HT1.out]; simp [h14, h15]
          clear h14 h15
          go_wp2_with fail
          go_meet
          exact ⟨rfl, rfl⟩
        case rest =>
        obtain ⟨rfl, rfl⟩ := hcut
        go_upto_if 77 with fail
        go_cut [16] (fun tv wc => ∃ (l1 : List Nat) (A1 : Option Addr) (c1 : Nat), l1 = (if t1 = true then [j] else []) ∧ tv = .slice A1 l1.length c1 ∧ wc.ownsRow w4.heap.size 3 1 (.slice A1 l1.length c1) l1.length (natV l1) ∧ Below w4.heap.size w4 wc)
        case first =>
          as_aux_lemma =>
          cases t1
          · go_wp2_with fail
            go_meet
            exact ⟨[], none, 0, by simp, rfl, hown4, Below.refl _ _⟩
          · go_wp2_with (first
              | (at_builtin; refine wpList_append_any _ rfl (.tmp 78) (.tmp 81) 37 rfl w4.heap.size 3 i0 _ 1 8 Try.underlying37 hi0 hz0 hz1 hz2 rfl (by omega) _ (0) _ (by rfl) (hown4.alloc (.cells #[.int .i64 ((j : Int))] 3)) (w4.heap.size + 1) _ 1 1 [.int .i64 ((j : Int))] (by rfl) (Rd.laid w4 #[.int .i64 ((j : Int))] 3 1 1 rfl) (fun u hu => by simp at hu; subst hu; rfl) (by simp [maxLen]; try omega) (by omega) (by simp; try omega) ?_
                 intro v5 w5 hown5 hg5 hat5
                 have hb5 := (Below.alloc (Below.refl w4.heap.size w4) (Nat.le_refl _) (.cells #[.int .i64 ((j : Int))] 3)).grown hg5 (by simp; try omega) (fun k hk => by have := own_ge hown4 k hk; omega)
                 obtain ⟨A5, c5, rfl⟩ := own_shape hown5))
            go_meet
            exact ⟨[j], A5, c5, by simp, rfl, hown5, hb5⟩
        case rest =>
        as_aux_lemma =>
        obtain ⟨l1, A1, c1, hl1, rfl, hown5, hb5⟩ := hcut
        obtain ⟨w5, rfl⟩ : ∃ w5 : World, w5 = wc := ⟨_, rfl⟩
        have HNX : Hid (nextS k ⟨op, (j : Int), xb⟩ = l1 ++ (if t2 = true then [k + 1] else [])) := by show _ = _; rw [hl1]; exact HNX.out
        have hl1n : l1.length ≤ 1 := by rw [hl1]; split <;> simp
        clear hl1
        have hz5 := hb5.size
        have hI5 := hI4.below hb5 hI4.lt
        have hrow5 := row_below hrow4 hb5 hrow4.lt
        have hC5 := hC4.below hb5 hC4.lt
        have hP5 := hP4.below hb5 hP4.lt
        have hb5w := hb4w.trans (hb5.mono hb4w.size)
        have m0 := hI5.c 0 rfl
        clear m1 hrc4 hown4 hrow5 hC5 hP5 hb5w
        go_upto_region 23 with fail
        go_cut [90] (fun z wc => z = .bool t2 ∧ w5 = wc)
        case first =>
          as_aux_lemma =>
          by_cases h14 : op = 14
          · subst h14
            obtain rfl : t2 = false := by rw [← HT2.out]; simp
            go_wp2_with fail
            go_meet
            exact ⟨rfl, rfl⟩
          have q14 : (op != 14) = true := by simpa using h14
          by_cases h17 : op = 17
          · subst h17
            obtain rfl : t2 = false := by rw [← HT2.out]; simp
            go_wp2_with fail
            go_meet
            exact ⟨rfl, rfl⟩
          have q17 : (op != 17) = true := by simpa using h17
          obtain rfl : t2 = true := by rw [← HT2.out]; simp [h14, h17]
          clear h14 h17
          go_wp2_with fail
          go_meet
          exact ⟨rfl, rfl⟩
        case rest =>
        obtain ⟨rfl, rfl⟩ := hcut
        go_upto_if 90 with fail
        go_cut [16] (fun tv wc => ∃ (l2 : List Nat) (A2 : Option Addr) (c2 : Nat), l2 = l1 ++ (if t2 = true then [k + 1] else []) ∧ tv = .slice A2 l2.length c2 ∧ wc.ownsRow w4.heap.size 3 1 (.slice A2 l2.length c2) l2.length (natV l2) ∧ Below w4.heap.size w4 wc)
        case first =>
          as_aux_lemma =>
          cases t2
          · go_wp2_with fail
            go_meet
            exact ⟨l1, A1, c1, by simp, rfl, hown5, hb5⟩
          · go_wp2_with (first
              | (at_builtin; refine wpList_append_any _ rfl (.tmp 91) (.tmp 94) 37 rfl w4.heap.size 3 i0 _ 1 8 Try.underlying37 hi0 hz0 hz1 hz2 rfl (by omega) _ (l1.length) _ (by rfl) (hown5.alloc (.cells #[.int .i64 ((k : Int) + 1)] 3)) (w5.heap.size + 1) _ 1 1 [.int .i64 ((k : Int) + 1)] (by rfl) (Rd.laid w5 #[.int .i64 ((k : Int) + 1)] 3 1 1 rfl) (fun u hu => by simp at hu; subst hu; rfl) (by simp [maxLen]; try omega) (by omega) (by simp; try omega) ?_
                 intro v6 w6 hown6 hg6 hat6
                 have hb6 := (Below.alloc hb5 hz5 (.cells #[.int .i64 ((k : Int) + 1)] 3)).grown hg6 (by simp; try omega) (fun k hk => by have := own_ge hown5 k hk; omega)
                 obtain ⟨A6, c6, rfl⟩ := own_shape hown6))
            go_meet
            refine ⟨l1 ++ [k + 1], A6, c6, by simp, ?_, ?_, hb6⟩
            · simp
            · rw [show (l1 ++ [k + 1]).length = l1.length + 1 from by simp, show natV (l1 ++ [k + 1]) = natV l1 ++ [Value.int .i64 ((k : Int) + 1)] from by simp [natV]]
              exact hown6
        case rest =>
        as_aux_lemma =>
        obtain ⟨l2, A2, c2, hl2, rfl, hown6, hb6⟩ := hcut
        obtain ⟨w6, rfl⟩ : ∃ w6 : World, w6 = wc := ⟨_, rfl⟩
        have HNX : Hid (nextS k ⟨op, (j : Int), xb⟩ = l2) := by show _ = _; rw [hl2]; exact HNX.out
        have hl2n : l2.length ≤ 2 := by rw [← HNX.out]; exact hn2
        clear hl2 hown5 hb5 hz5 hI5 HT1 HT2 hl1n hn2
        have hrow6 := row_below hrow4 hb6 hrow4.lt
        have hI6 := hI4.below hb6 hI4.lt
        have hC6 := hC4.below hb6 hC4.lt
        have hP6 := hP4.below hb6 hP4.lt
        have hb6w := hb4w.trans (hb6.mono hb4w.size)
        have hlt4 : w.heap.size + 1 + 1 < w4.heap.size := hrow4.lt
        have m0 := hI6.c 0 rfl
        have hrc6 : w6.cell? ⟨w.heap.size + 1 + 1, k, none⟩ = some (.int .i64 v) := (hrow6.cell hkl).trans (by have := HV.out; simp [List.getD, this])
        obtain ⟨okn, hokn⟩ : ∃ z, (ok && mayB ps ⟨op, (j : Int), xb⟩ v) = z := ⟨_, rfl⟩
        rw [hokn] at hR4
        have HK : Hid ((ok && (decide (T ≤ v) && decide (v ≤ 64) && (decide (op ≠ 17) || decide (v = 1)))) = okn) := by show _ = _; rw [← HMB.out]; exact hokn
        clear hokn HMB hI4 hrow4 hC4 hP4 hb4w hb6
        go_upto_region 25 with fail
        go_cut [8] (fun z wc => z = .bool okn ∧ w6 = wc)
        case first =>
          as_aux_lemma =>
          cases ok
          · obtain rfl : okn = false := by rw [← HK.out]; rfl
            go_wp2_with fail
            go_meet
            exact ⟨rfl, rfl⟩
          by_cases g1 : T ≤ v
          case neg =>
            obtain rfl : okn = false := by rw [← HK.out]; simp [g1]
            have d1 : decide (T ≤ v) = false := decide_eq_false g1
            go_wp2_with fail
            go_meet
            exact ⟨rfl, rfl⟩
          have d1 : decide (T ≤ v) = true := decide_eq_true g1
          by_cases g2 : v ≤ 64
          case neg =>
            obtain rfl : okn = false := by rw [← HK.out]; simp [g2]
            have d2 : decide (v ≤ 64) = false := decide_eq_false g2
            go_wp2_with fail
            go_meet
            exact ⟨rfl, rfl⟩
          have d2 : decide (v ≤ 64) = true := decide_eq_true g2
          by_cases g3 : op = 17
          case neg =>
            obtain rfl : okn = true := by rw [← HK.out]; simp [g1, g2, g3]
            have d3 : (op != 17) = true := by simpa using g3
            go_wp2_with fail
            go_meet
            exact ⟨rfl, rfl⟩
          subst g3
          by_cases g4 : v = 1
          · obtain rfl : okn = true := by rw [← HK.out]; simp [g1, g2, g4]; omega
            subst g4
            go_wp2_with fail
            go_meet
            exact ⟨rfl, rfl⟩
          · obtain rfl : okn = false := by rw [← HK.out]; simp [g4]
            have d4 : (v == 1) = false := beq_eq_false_iff_ne.2 g4
            go_wp2_with fail
            go_meet
            exact ⟨rfl, rfl⟩
        case rest =>
        as_aux_lemma =>
        obtain ⟨rfl, rfl⟩ := hcut
        clear m0 hrc6 hI6 HK hwt hwt' hwh hwh' hT hL f1 f2 f3 hvp hib hkh hz4 hlw hmk hi0 hz0 hz1 hz2 HC1 HL HV hP hI hfew hfit HFL hz hlr hv0
        go_wp2_with fail
        obtain ⟨wm, rfl⟩ : ∃ wm : World, wm = wr := ⟨_, rfl⟩
        go_loopw [8, 9, 17] (fun o a i wr => ∃ (q : Nat) (hs : List Int) (ok again : Bool), i = .int .i64 (q : Int) ∧ q ≤ l2.length ∧ o = .bool ok ∧ a = .bool again ∧ RIn4 ps p.body k (lessN hs1) ⟨op, (j : Int), xb⟩ v q hs ok again ∧ wr.rowIs (w.heap.size + 1 + 1) 3 p.body.length (fun j => .int .i64 (hs.getD j 0)) ∧ wr.ownsRow w4.heap.size 3 1 (.slice A2 l2.length c2) l2.length (natV l2) ∧ Blk wr w.heap.size 25 #[.slice A ps.length c, .slice A' nns c'] ∧ Blk wr (w.heap.size + 1) 34 #[.string (bs nm), .bool opn, .int .i64 prm, .int .i64 loc, .slice (some ⟨ib, io, none⟩) p.body.length cb] ∧ Below w.heap.size w wr) (fun _ _ i _ => l2.length - (intOf i).toNat)
        case atStart => exact ⟨0, hs, okn, again, rfl, Nat.zero_le _, rfl, rfl, hR4, hrow6, hown6, hC6, hP6, hb6w⟩
        case round =>
          clear hR4 hrow6 hown6 hC6 hP6 hb6w
          obtain ⟨q, hs2, ok2, again2, rfl, hq, rfl, rfl, hQ, hrow7, hown7, hC7, hP7, hb7⟩ := hrel
          have hlen7 := hQ.pass.len
          have HL7 := Lib.hid hlen7
          by_cases hql : q < l2.length
          case neg =>
            as_aux_lemma =>
            have hqi : ¬ (q : Int) < (l2.length : Int) := by omega
            have hlv := hQ.leave HX.out (by rw [HNX.out]; omega)
            clear hlen7 hQ
            go_wp2_with fail
            go_roundw
            case rel => exact ⟨k + 1, hs2, ok2, again2, by go_num, by omega, rfl, rfl, hlv, hrow7, hC7, hP7, hb7⟩
            case measure => simp [intOf]; omega
          have hqi : (q : Int) < (l2.length : Int) := by omega
          have hq0 : (0 : Int) ≤ (q : Int) := by omega
          have hq' : q < (nextS k ⟨op, (j : Int), xb⟩).length := by rw [HNX.out]; exact hql
          have hgq : (nextS k ⟨op, (j : Int), xb⟩)[q] = l2[q] := List.getElem_of_eq HNX.out hq'
          have hub := hnb _ (List.getElem_mem hq')
          obtain ⟨tb, toff, rfl, htb, hcc⟩ := (Rd.of_own hown7).2 (by omega)
          have ku : wr.cell? ⟨tb, toff + q, none⟩ = some (.int .i64 (l2[q] : Int)) := hcc q _ (by simp [natV, List.getElem?_eq_getElem hql])
          obtain ⟨u, hu⟩ : ∃ u, u = l2[q] := ⟨_, rfl⟩
          rw [← hu] at hgq ku
          rw [hgq] at hub
          have HGQ := Lib.hid hgq
          clear hu hcc hgq
          have htg := own_ge hown7 tb rfl
          have hu0 : (0 : Int) ≤ (u : Int) := by omega
          by_cases hun : p.body.length ≤ u
          · as_aux_lemma =>
            have huni : (p.body.length : Int) ≤ (u : Int) := by omega
            have hfar := hQ.far HX.out hq' (by rw [HGQ.out]; exact hun)
            clear hlen7 hQ
            go_wp2_with fail
            go_roundw
            case rel => exact ⟨q + 1, hs2, false, again2, by go_num, by omega, rfl, rfl, hfar, hrow7, hown7, hC7, hP7, hb7⟩
            case measure => simp [intOf]; omega
          have huni : ¬ (p.body.length : Int) ≤ (u : Int) := by omega
          have hunl : u < p.body.length := by omega
          have huni2 : (u : Int) < (p.body.length : Int) := by omega
          have huh : u < hs2.length := by omega
          have hcv : hs2[u]? = some hs2[u] := List.getElem?_eq_getElem huh
          have rc : wr.cell? ⟨w.heap.size + 1 + 1, u, none⟩ = some (.int .i64 hs2[u]) := (hrow7.cell hunl).trans (by simp [List.getD, huh])
          have rf := hrow7.frozen u
          obtain ⟨z, hz⟩ : ∃ z, z = hs2[u] := ⟨_, rfl⟩
          rw [← hz] at hcv rc
          clear hz hlen7
          have HCV := Lib.hid hcv
          clear hcv
          by_cases hzN : z < 0 ∧ 0 ≤ N
          · as_aux_lemma =>
            obtain ⟨hz0, hN0⟩ := hzN
            have hput := hQ.put HX.out hq' (by rw [HGQ.out]; exact HCV.out) hz0 (by rw [HO.out]; exact hN0) (HTK.out _ rfl) hbl
            rw [HGQ.out, HO.out] at hput
            have row8 := row_set hrow7 HL7.out u N
            have own8 := own_put hown7 (p := ⟨w.heap.size + 1 + 1, u, none⟩) (fun e => by have := own_ge hown7 _ e; simp at this; omega) (.int .i64 N)
            have hC8 := hC7.far (p := ⟨w.heap.size + 1 + 1, u, none⟩) (by simp; omega) (.int .i64 N)
            have hP8 := hP7.far (p := ⟨w.heap.size + 1 + 1, u, none⟩) (by simp) (.int .i64 N)
            have hb8 := hb7.setCell (p := ⟨w.heap.size + 1 + 1, u, none⟩) (by simp; omega) (.int .i64 N)
            have ku8 : (wr.setCell ⟨w.heap.size + 1 + 1, u, none⟩ (.int .i64 N)).cell? ⟨tb, toff + q, none⟩ = some (.int .i64 (u : Int)) := (World.cell?_setCell_other _ _ _ _ (fun e => by simp only [Addr.mk.injEq] at e; omega)).trans ku
            have rc8 : (wr.setCell ⟨w.heap.size + 1 + 1, u, none⟩ (.int .i64 N)).cell? ⟨w.heap.size + 1 + 1, u, none⟩ = some (.int .i64 N) := (row8.cell hunl).trans (by simp [List.getD, huh])
            have hNN : (N == N) = true := by simp
            clear hQ hrow7 hown7 hC7 hP7 hb7
            have dz : decide (z < 0) = true := decide_eq_true hz0
            have dN : decide (0 ≤ N) = true := decide_eq_true hN0
            go_upto_region 33 with fail
            generalize hw8 : wr.setCell ⟨w.heap.size + 1 + 1, u, none⟩ (.int .i64 N) = w8 at *
            clear hw8 rc rf ku
            cases ok2
            · go_wp2_with fail
              go_roundw
              case rel => exact ⟨q + 1, _, false, true, by go_num, by omega, rfl, rfl, hput, row8, own8, hC8, hP8, hb8⟩
              case measure => simp [intOf]; omega
            · go_wp2_with fail
              go_roundw
              case rel => exact ⟨q + 1, _, true, true, by go_num, by omega, by simp, rfl, hput, row8, own8, hC8, hP8, hb8⟩
              case measure => simp [intOf]; omega
          have hcmp : RIn4 ps p.body k (lessN hs1) ⟨op, (j : Int), xb⟩ v (q + 1) hs2 (ok2 && (z == N)) again2 := by
            have h := hQ.cmp HX.out hq' (u := z) (by rw [HGQ.out]; exact HCV.out) (by rw [HO.out]; intro h; omega)
            rw [HO.out] at h
            exact h
          clear hQ
          by_cases hz0 : z < 0
          · as_aux_lemma =>
            have dz : decide (z < 0) = true := decide_eq_true hz0
            have dN : decide (0 ≤ N) = false := decide_eq_false (by omega)
            have hN1 : ¬ 0 ≤ N := by omega
            clear hzN
            cases ok2
            · rw [Bool.false_and] at hcmp
              go_wp2_with fail
              go_roundw
              case rel => exact ⟨q + 1, hs2, false, again2, by go_num, by omega, rfl, rfl, hcmp, hrow7, hown7, hC7, hP7, hb7⟩
              case measure => simp [intOf]; omega
            · rw [Bool.true_and] at hcmp
              cases hzn : (z == N)
              · rw [hzn] at hcmp
                go_wp2_with fail
                go_roundw
                case rel => exact ⟨q + 1, hs2, false, again2, by go_num, by omega, by first | rfl | simp [hzn], rfl, hcmp, hrow7, hown7, hC7, hP7, hb7⟩
                case measure => simp [intOf]; omega
              · rw [hzn] at hcmp
                go_wp2_with fail
                go_roundw
                case rel => exact ⟨q + 1, hs2, true, again2, by go_num, by omega, by first | rfl | simp [hzn], rfl, hcmp, hrow7, hown7, hC7, hP7, hb7⟩
                case measure => simp [intOf]; omega
          · as_aux_lemma =>
            have dz : decide (z < 0) = false := decide_eq_false hz0
            clear hzN
            cases ok2
            · rw [Bool.false_and] at hcmp
              go_wp2_with fail
              go_roundw
              case rel => exact ⟨q + 1, hs2, false, again2, by go_num, by omega, rfl, rfl, hcmp, hrow7, hown7, hC7, hP7, hb7⟩
              case measure => simp [intOf]; omega
            · rw [Bool.true_and] at hcmp
              cases hzn : (z == N)
              · rw [hzn] at hcmp
                go_wp2_with fail
                go_roundw
                case rel => exact ⟨q + 1, hs2, false, again2, by go_num, by omega, by first | rfl | simp [hzn], rfl, hcmp, hrow7, hown7, hC7, hP7, hb7⟩
                case measure => simp [intOf]; omega
              · rw [hzn] at hcmp
                go_wp2_with fail
                go_roundw
                case rel => exact ⟨q + 1, hs2, true, again2, by go_num, by omega, by first | rfl | simp [hzn], rfl, hcmp, hrow7, hown7, hC7, hP7, hb7⟩
                case measure => simp [intOf]; omega
end Go.Proofs.Ytgjbcahpgkchfaa
