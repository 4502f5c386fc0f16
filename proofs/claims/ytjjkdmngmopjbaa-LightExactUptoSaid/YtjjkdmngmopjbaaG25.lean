/- Of the texts Wr17, Wr19a, Vote2, Vote3. -/
import Derived.Test.YtjjkdmngmopjbaaProg
import Derived.Test.YtjjkdmngmopjbaaG24
import Derived.Test.YtjjkdmngmopjbaaG04
set_option linter.unusedSimpArgs false
set_option linter.unusedVariables false
namespace Go.Proofs.Ytjjkdmngmopjbaa
open Go.RowKit
theorem Ref.setFar {w : World} {g : Nat} {S : Out} (h : Ref w g S) (n m : Int) (hm : m < n) : Ref (w.setCell ⟨g, 1, none⟩ (.bool true)) g (S.lim n m) := by
  obtain ⟨l, o, hb, hln, ho⟩ := h
  refine ⟨l, o, by simpa [Out.lim, hm] using hb.set_ 1 (.bool true), hln, fun hf => ?_⟩
  simp [Out.lim, hm] at hf
theorem Out.need_dig (S : Out) (a : Bool) (n : Int) : (S.need a).dig n = (S.dig n).need a := rfl
theorem Out.need_lim (S : Out) (a : Bool) (n m : Int) : (S.need a).lim n m = (S.lim n m).need a := rfl
theorem Out.need_flag (S : Out) (a b : Bool) : (S.need a).flag b = (S.flag b).need a := rfl
theorem Out.need_text (S : Out) (a : Bool) (s : List UInt8) (m : Int) : (S.need a).text s m = (S.text s m).need a := rfl
def rturnOkAt (l : List TurnD) (k : Nat) : Bool := !(decide (0 < k) && decide ((l.getD k ⟨0, 0⟩).p ≤ (l.getD (k - 1) ⟨0, 0⟩).p))
theorem Out.turns_far (l : List TurnD) (S : Out) (h : (l.foldl Out.turn S).far = false) : S.far = false ∧ ∀ n ∈ l, 0 ≤ n.p := by
  induction l generalizing S with
  | nil => exact ⟨h, by simp⟩
  | cons x l ih =>
    rw [List.foldl_cons] at h
    obtain ⟨h1, h2⟩ := ih _ h
    have h3 : ((S.far || farN x.p) || decide (287 < x.p)) = false := h1
    simp only [Bool.or_eq_false_iff] at h3
    have h4 := h3.1.2
    simp [farN] at h4
    exact ⟨h3.1.1, fun s hs => by
      rcases List.mem_cons.1 hs with rfl | hs
      · exact h4.1
      · exact h2 s hs⟩
theorem turn_oks (l : List TurnD) (h : ∀ s ∈ l, 0 ≤ s.p) : allTo (rturnOkAt l) l.length = allTo (turnOkAt l) l.length := by
  refine allTo_congr _ _ _ fun k hk => ?_
  have h1 := h l[k] (List.getElem_mem hk)
  unfold rturnOkAt turnOkAt prevT
  rcases Nat.eq_zero_or_pos k with h0 | h0
  · subst h0
    simp [List.getElem?_eq_getElem hk]
    grind
  · have h2 := h l[k - 1] (List.getElem_mem (by omega))
    simp [List.getElem?_eq_getElem hk, List.getElem?_eq_getElem (show k - 1 < l.length by omega), show ¬ k = 0 by omega, h0]
    grind
theorem Out.proof_eq {w : World} {g : Nat} {S : Out} (x : ProofD) (h : Ref w g (((((((x.turns.foldl Out.turn ((S.lim x.turns.length 288).num x.turns.length)).flag x.leaf).text x.key 32).text x.value 4096)).need (proofOk x)).need (allTo (rturnOkAt x.turns) x.turns.length))) : Ref w g (S.proof x) :=
  h.ifNear rfl (Nat.le_refl _) fun hf => ⟨rfl, by
    have h1 : ((((x.turns.foldl Out.turn ((S.lim x.turns.length 288).num x.turns.length)).far || decide (32 < (x.key.length : Int))) || farN x.key.length) || decide (4096 < (x.value.length : Int)) || farN x.value.length) = false := hf
    simp only [Bool.or_eq_false_iff] at h1
    have := (Out.turns_far x.turns _ h1.1.1.1.1).2
    show ((_ || !proofOk x) || !allTo (rturnOkAt x.turns) x.turns.length) = ((_ || !allTo (turnOkAt x.turns) x.turns.length) || !proofOk x)
    rw [turn_oks x.turns this, Bool.or_assoc, Bool.or_assoc, Bool.or_comm (!proofOk x)]
    rfl⟩
set_option maxRecDepth 100000 in
set_option maxHeartbeats 4000000 in
theorem rproof_any (x : ProofD) (B : Nat) (w : World) (g : Nat) (S : Out) (h : Ref w g S) (hl : S.b.length + 40 * proofM x ≤ 59000000000000) (hx : x.held w B) (hB : B ≤ g) :
    Calls Try.prog 164 #[.pointer (some ⟨g, 0, none⟩), x.val] w fun e w' => e = .returned (.tuple #[]) ∧ Ref w' g (S.proof x) ∧ Turned w w' g := by
  have hgt := h.lt
  simp only [proofM, turns_M] at hl
  have hK : Hid (proofOk x = ((x.leaf && !emp x.value) || (!x.leaf && decide (x.turns.length = 0) && emp x.key && emp x.value))) := rfl
  obtain ⟨ts, tA, tc, x2, x3, x4⟩ := x
  dsimp only at hl
  have hEQ := fun w' => @Out.proof_eq w' g S ⟨ts, tA, tc, x2, x3, x4⟩
  dsimp only at hEQ
  have HEQ := Lib.hid hEQ
  clear hEQ
  dsimp only [ProofD.val]
  obtain ⟨hxr, hxs, hxd⟩ := hx
  dsimp only at hxr hxs hxd
  have hmm := hxs
  unfold maxLen at hmm
  have hsw := turns_W ts
  have hbl : (S.lim ts.length 288).b.length = S.b.length := rfl
  go_enter Try.func164, Try.ntmps164
  go_wp2_with fail
  refine (rcount_any _ _ _ g _ (h.alloc _) (by omega)).mono ?_
  rintro e w1 ⟨rfl, hW1, hC1⟩
  have hB1 := hC1.blk (Blk.new _ _ _) (by omega) (by decide)
  have hT1 := ((Turned.refl w g).alloc (by omega) _).trans hC1
  have hlt1 := hB1.lt
  have hgl1 := hW1.lt
  have ll1 := (S.lim ts.length 288).num_len ts.length
  generalize (S.lim ts.length 288).num ts.length = S1 at *
  have c1_0 := (hB1.cell 0).trans (show _ = some (.slice tA ts.length tc) from rfl)
  have c1_1 := (hB1.cell 1).trans (show _ = some (.bool x2) from rfl)
  have c1_2 := (hB1.cell 2).trans (show _ = some (.string (bs x3)) from rfl)
  have c1_3 := (hB1.cell 3).trans (show _ = some (.string (bs x4)) from rfl)
  go_wp2_with fail
  go_loopw [4] (fun i wr => ∃ j : Nat, i = .int .i64 (j : Int) ∧ j ≤ ts.length ∧ Ref wr g (((ts.take j).foldl Out.turn S1).need (allTo (rturnOkAt ts) j)) ∧ Blk wr w.heap.size 70 #[.slice tA ts.length tc, .bool x2, .string (bs x3), .string (bs x4)] ∧ Turned w wr g) (fun i _ => ts.length - (intOf i).toNat)
  case atStart => exact ⟨0, rfl, by omega, by rw [show allTo (rturnOkAt ts) 0 = true from rfl, Out.need_true]; exact hW1, hB1, hT1⟩
  case round =>
    obtain ⟨j, rfl, hj, hW, hBx, hT⟩ := hrel
    have hgw := hW.lt
    have k0_0 : wr.cell? ⟨w.heap.size, 0, none⟩ = some (Value.slice tA ts.length tc) := (hBx.cell 0).trans (show _ = some (Value.slice tA ts.length tc) from rfl)
    have k0_1 : wr.cell? ⟨w.heap.size, 1, none⟩ = some (Value.bool x2) := (hBx.cell 1).trans (show _ = some (Value.bool x2) from rfl)
    have k0_2 : wr.cell? ⟨w.heap.size, 2, none⟩ = some (Value.string (bs x3)) := (hBx.cell 2).trans (show _ = some (Value.string (bs x3)) from rfl)
    have k0_3 : wr.cell? ⟨w.heap.size, 3, none⟩ = some (Value.string (bs x4)) := (hBx.cell 3).trans (show _ = some (Value.string (bs x4)) from rfl)
    by_cases hlt : j < ts.length
    · have hji : (j : Int) < (ts.length : Int) := by omega
      obtain ⟨b, off, rfl, hbB, hc⟩ := TurnsL.at_ (hT.rd hxr hB) hlt
      have hlow := hT.rd hxr hB
      have HSn := Lib.hid (fold_take Out.turn S1 ts j hlt)
      have hle := fold_len Out.turn turnW Out.turn_lenW (ts.take j) S1
      have hle2 := sumL_take turnW ts j hlt
      have htw : turnW ts[j] = 14 := rfl
      have hdk := hxd ts[j] (List.getElem_mem hlt)
      have hs : Hid (rturnOkAt ts j = !(decide (0 < j) && decide (ts[j].p ≤ (ts.getD (j - 1) ⟨0, 0⟩).p))) := by show _ = _; simp [rturnOkAt, List.getElem?_eq_getElem hlt]
      have hs2 : Hid (allTo (rturnOkAt ts) (j + 1) = (allTo (rturnOkAt ts) j && rturnOkAt ts j)) := rfl
      have d0 : wr.cell? ⟨b, off + j * 2, none⟩ = some (.int .i64 ts[j].p) := hc 0 _ rfl
      have d1 : wr.cell? ⟨b, off + j * 2 + 1, none⟩ = some (.int .u64 ts[j].d) := hc 1 _ rfl
      generalize hy : ts[j] = y at *
      clear hy hc
      obtain ⟨hd0, hd1⟩ := hdk
      generalize (ts.take j).foldl Out.turn S1 = SF at *
      generalize allTo (rturnOkAt ts) j = ok at *
      have hbn : (SF.need ok).b.length = SF.b.length := rfl
      have hfin : ∀ (bad : Bool) (w5 : World), bad = (decide (0 < j) && decide (y.p ≤ (ts.getD (j - 1) ⟨0, 0⟩).p)) → Ref w5 g ((((((SF.num y.p).dig y.d).lim y.p 287).need ok)).need (!bad)) → Ref w5 g (((ts.take (j + 1)).foldl Out.turn S1).need (allTo (rturnOkAt ts) (j + 1))) := by
        intro bad w5 hbad hW5
        refine hW5.eq ?_
        rw [Out.need_need, hs2.out, hs.out, HSn.out, hbad]
        rfl
      have HF := Lib.hid hfin
      clear hfin hs hs2
      go_wp2_with fail
      refine (rnumber_any _ _ g _ hW (by omega)).mono ?_
      rintro e w9 ⟨rfl, hW9, hC9⟩
      have hB9 := hC9.blk hBx (by omega) (by decide)
      rw [Out.need_num] at hW9
      have l9 := SF.num_len y.p
      generalize SF.num y.p = SG at *
      have hbn2 : (SG.need ok).b.length = SG.b.length := rfl
      have k9 : w9.cell? ⟨w.heap.size, 0, none⟩ = some (Value.slice (some ⟨b, off, none⟩) ts.length tc) := (hB9.cell 0).trans (show _ = some (Value.slice (some ⟨b, off, none⟩) ts.length tc) from rfl)
      have d9 : w9.cell? ⟨b, off + j * 2 + 1, none⟩ = some (.int .u64 y.d) := (hC9.low.cell (by simp; omega)).trans d1
      go_wp2_with fail
      refine (rdigest_any _ _ g _ hW9 (by omega) (by omega) (by omega)).mono ?_
      rintro e w11 ⟨rfl, hW11, hC11⟩
      have hB11 := hC11.blk hB9 (by omega) (by decide)
      rw [Out.need_dig] at hW11
      have hT11 := (hT.trans hC9).trans hC11
      have hL11 := (hC9.trans hC11).low
      have k11 : w11.cell? ⟨w.heap.size, 0, none⟩ = some (Value.slice (some ⟨b, off, none⟩) ts.length tc) := (hB11.cell 0).trans (show _ = some (Value.slice (some ⟨b, off, none⟩) ts.length tc) from rfl)
      have d11 : w11.cell? ⟨b, off + j * 2, none⟩ = some (.int .i64 y.p) := (hL11.cell (by simp; omega)).trans d0
      by_cases h2 : 287 < y.p
      · have hW12 := hW11.setFar y.p 287 h2
        rw [Out.need_lim] at hW12
        have f11 : w11.frozen? ⟨g, 1, none⟩ = false := by obtain ⟨l, o, hb, _⟩ := hW11; exact hb.frozen 1
        have e11 : ∃ v, w11.cell? ⟨g, 1, none⟩ = some v := by obtain ⟨l, o, hb, _⟩ := hW11; exact ⟨_, hb.cell 1⟩
        obtain ⟨v11, e11⟩ := e11
        have hB12 := hB11.far (p := ⟨g, 1, none⟩) (by simp; omega) (Value.bool true)
        have hT12 := hT11.setCell 1 (Value.bool true)
        have hL12 := (hC9.trans (hC11.setCell 1 (Value.bool true))).low
        go_wp2_with fail
        generalize hww : w11.setCell ⟨g, 1, none⟩ (Value.bool true) = w12 at *
        clear hww
        have k12 : w12.drew.cell? ⟨w.heap.size, 0, none⟩ = some (Value.slice (some ⟨b, off, none⟩) ts.length tc) := (hB12.cell 0).trans (show _ = some (Value.slice (some ⟨b, off, none⟩) ts.length tc) from rfl)
        have d12 : w12.drew.cell? ⟨b, off + j * 2, none⟩ = some (.int .i64 y.p) := (hL12.cell (by simp; omega)).trans d0
        by_cases h3 : 0 < j
        · have h3i : (0 : Int) < (j : Int) := by omega
          have hj1 : j - 1 < ts.length := by omega
          obtain ⟨b', off', e', _, hc'⟩ := TurnsL.at_ hlow hj1
          simp only [Option.some.injEq, Addr.mk.injEq, and_true] at e'
          obtain ⟨rfl, rfl⟩ := e'
          have hp : (ts.getD (j - 1) ⟨0, 0⟩).p = ts[j - 1].p := by simp [List.getElem?_eq_getElem hj1]
          have dp9 : w12.drew.cell? ⟨b, off + (j - 1) * 2, none⟩ = some (.int .i64 ts[j - 1].p) := (hL12.cell (by simp; omega)).trans (hc' 0 _ rfl)
          clear hc'
          rw [hp] at HF
          generalize ts[j - 1].p = z at *
          have hw1 : IntKind.i64.wrap ((j : Int) - 1) = ((j - 1 : Nat) : Int) := by rw [IntWalk.i64_in _ (by omega)]; omega
          have hj1i : ((j - 1 : Nat) : Int) < (ts.length : Int) := by omega
          go_wp2_with fail
          refine wp_region_tail 19 (by kernel_rfl) (by kernel_rfl) ?_
          simp only [List.take_succ_cons, List.take_zero, List.drop_succ_cons, List.drop_zero]
          repeat (go_big_quiet_step (fail))
          refine wpQuiet_nil ?_
          go_wp2_with fail
          refine (rneed_any _ _ g _ hW12.drew).mono ?_
          rintro e w13 ⟨rfl, hW13, hC13⟩
          have hB13 := hC13.blk hB12.drew (by omega) (by decide)
          go_wp2_with fail
          go_roundw
          case rel => exact ⟨j + 1, by go_num, by omega, HF.out _ _ (by grind) hW13, hB13, hT12.drew.trans hC13⟩
          case measure => simp [intOf]; omega
        · have h3d : decide ((0 : Int) < (j : Int)) = false := decide_eq_false (by omega)
          go_wp2_with fail
          refine wp_region_tail 19 (by kernel_rfl) (by kernel_rfl) ?_
          simp only [List.take_succ_cons, List.take_zero, List.drop_succ_cons, List.drop_zero]
          repeat (go_big_quiet_step (fail))
          refine wpQuiet_nil ?_
          go_wp2_with fail
          refine (rneed_any _ _ g _ hW12.drew).mono ?_
          rintro e w13 ⟨rfl, hW13, hC13⟩
          have hB13 := hC13.blk hB12.drew (by omega) (by decide)
          go_wp2_with fail
          go_roundw
          case rel => exact ⟨j + 1, by go_num, by omega, HF.out _ _ (by grind) hW13, hB13, hT12.drew.trans hC13⟩
          case measure => simp [intOf]; omega
      · have hW12 := hW11
        rw [show ((SG.dig y.d).need ok) = (((SG.dig y.d).lim y.p 287).need ok) by simp [Out.lim, h2]] at hW12
        have hB12 := hB11
        have hT12 := hT11
        have hL12 := hL11
        have h2i : ¬ (288 : Int) ≤ y.p := by omega
        go_wp2_with fail
        obtain ⟨w12, hw12⟩ : ∃ x : World, x = w11 := ⟨_, rfl⟩
        subst hw12
        have k12 : w12.drew.cell? ⟨w.heap.size, 0, none⟩ = some (Value.slice (some ⟨b, off, none⟩) ts.length tc) := (hB12.cell 0).trans (show _ = some (Value.slice (some ⟨b, off, none⟩) ts.length tc) from rfl)
        have d12 : w12.drew.cell? ⟨b, off + j * 2, none⟩ = some (.int .i64 y.p) := (hL12.cell (by simp; omega)).trans d0
        by_cases h3 : 0 < j
        · have h3i : (0 : Int) < (j : Int) := by omega
          have hj1 : j - 1 < ts.length := by omega
          obtain ⟨b', off', e', _, hc'⟩ := TurnsL.at_ hlow hj1
          simp only [Option.some.injEq, Addr.mk.injEq, and_true] at e'
          obtain ⟨rfl, rfl⟩ := e'
          have hp : (ts.getD (j - 1) ⟨0, 0⟩).p = ts[j - 1].p := by simp [List.getElem?_eq_getElem hj1]
          have dp9 : w12.drew.cell? ⟨b, off + (j - 1) * 2, none⟩ = some (.int .i64 ts[j - 1].p) := (hL12.cell (by simp; omega)).trans (hc' 0 _ rfl)
          clear hc'
          rw [hp] at HF
          generalize ts[j - 1].p = z at *
          have hw1 : IntKind.i64.wrap ((j : Int) - 1) = ((j - 1 : Nat) : Int) := by rw [IntWalk.i64_in _ (by omega)]; omega
          have hj1i : ((j - 1 : Nat) : Int) < (ts.length : Int) := by omega
          go_wp2_with fail
          refine wp_region_tail 19 (by kernel_rfl) (by kernel_rfl) ?_
          simp only [List.take_succ_cons, List.take_zero, List.drop_succ_cons, List.drop_zero]
          repeat (go_big_quiet_step (fail))
          refine wpQuiet_nil ?_
          go_wp2_with fail
          refine (rneed_any _ _ g _ hW12.drew).mono ?_
          rintro e w13 ⟨rfl, hW13, hC13⟩
          have hB13 := hC13.blk hB12.drew (by omega) (by decide)
          go_wp2_with fail
          go_roundw
          case rel => exact ⟨j + 1, by go_num, by omega, HF.out _ _ (by grind) hW13, hB13, hT12.drew.trans hC13⟩
          case measure => simp [intOf]; omega
        · have h3d : decide ((0 : Int) < (j : Int)) = false := decide_eq_false (by omega)
          go_wp2_with fail
          refine wp_region_tail 19 (by kernel_rfl) (by kernel_rfl) ?_
          simp only [List.take_succ_cons, List.take_zero, List.drop_succ_cons, List.drop_zero]
          repeat (go_big_quiet_step (fail))
          refine wpQuiet_nil ?_
          go_wp2_with fail
          refine (rneed_any _ _ g _ hW12.drew).mono ?_
          rintro e w13 ⟨rfl, hW13, hC13⟩
          have hB13 := hC13.blk hB12.drew (by omega) (by decide)
          go_wp2_with fail
          go_roundw
          case rel => exact ⟨j + 1, by go_num, by omega, HF.out _ _ (by grind) hW13, hB13, hT12.drew.trans hC13⟩
          case measure => simp [intOf]; omega
    · have hji : ¬ (j : Int) < (ts.length : Int) := by omega
      have hjl : j = ts.length := by omega
      subst hjl
      rw [List.take_of_length_le (Nat.le_refl _)] at hW
      have hle := fold_len Out.turn turnW Out.turn_lenW ts S1
      generalize ts.foldl Out.turn S1 = SF at *
      generalize allTo (rturnOkAt ts) ts.length = ok at *
      have hbn : (SF.need ok).b.length = SF.b.length := rfl
      go_wp2_with fail
      refine (rflag_any _ _ g _ hW (by omega)).mono ?_
      rintro e w21 ⟨rfl, hW21, hC21⟩
      have hB21 := hC21.blk hBx (by omega) (by decide)
      rw [Out.need_flag] at hW21
      have l21 : (SF.flag x2).b.length ≤ SF.b.length + 1 := by simp [Out.flag]
      generalize SF.flag x2 = SF1 at *
      have hbn1 : (SF1.need ok).b.length = SF1.b.length := rfl
      have k21_0 : w21.cell? ⟨w.heap.size, 0, none⟩ = some (Value.slice tA ts.length tc) := (hB21.cell 0).trans (show _ = some (Value.slice tA ts.length tc) from rfl)
      have k21_1 : w21.cell? ⟨w.heap.size, 1, none⟩ = some (Value.bool x2) := (hB21.cell 1).trans (show _ = some (Value.bool x2) from rfl)
      have k21_2 : w21.cell? ⟨w.heap.size, 2, none⟩ = some (Value.string (bs x3)) := (hB21.cell 2).trans (show _ = some (Value.string (bs x3)) from rfl)
      have k21_3 : w21.cell? ⟨w.heap.size, 3, none⟩ = some (Value.string (bs x4)) := (hB21.cell 3).trans (show _ = some (Value.string (bs x4)) from rfl)
      go_wp2_with fail
      refine (rtext_any _ _ _ g _ hW21 (by omega)).mono ?_
      rintro e w22 ⟨rfl, hW22, hC22⟩
      have hB22 := hC22.blk hB21 (by omega) (by decide)
      rw [Out.need_text] at hW22
      have l22 := SF1.text_len x3 32
      generalize SF1.text x3 32 = SF2 at *
      have hbn2 : (SF2.need ok).b.length = SF2.b.length := rfl
      have k22_0 : w22.cell? ⟨w.heap.size, 0, none⟩ = some (Value.slice tA ts.length tc) := (hB22.cell 0).trans (show _ = some (Value.slice tA ts.length tc) from rfl)
      have k22_1 : w22.cell? ⟨w.heap.size, 1, none⟩ = some (Value.bool x2) := (hB22.cell 1).trans (show _ = some (Value.bool x2) from rfl)
      have k22_2 : w22.cell? ⟨w.heap.size, 2, none⟩ = some (Value.string (bs x3)) := (hB22.cell 2).trans (show _ = some (Value.string (bs x3)) from rfl)
      have k22_3 : w22.cell? ⟨w.heap.size, 3, none⟩ = some (Value.string (bs x4)) := (hB22.cell 3).trans (show _ = some (Value.string (bs x4)) from rfl)
      go_wp2_with fail
      refine (rtext_any _ _ _ g _ hW22 (by omega)).mono ?_
      rintro e w23 ⟨rfl, hW23, hC23⟩
      have hB23 := hC23.blk hB22 (by omega) (by decide)
      rw [Out.need_text] at hW23
      generalize SF2.text x4 4096 = SF3 at *
      have hT23 := ((hT.trans hC21).trans hC22).trans hC23
      have k23_0 : w23.cell? ⟨w.heap.size, 0, none⟩ = some (Value.slice tA ts.length tc) := (hB23.cell 0).trans (show _ = some (Value.slice tA ts.length tc) from rfl)
      have k23_1 : w23.cell? ⟨w.heap.size, 1, none⟩ = some (Value.bool x2) := (hB23.cell 1).trans (show _ = some (Value.bool x2) from rfl)
      have k23_2 : w23.cell? ⟨w.heap.size, 2, none⟩ = some (Value.string (bs x3)) := (hB23.cell 2).trans (show _ = some (Value.string (bs x3)) from rfl)
      have k23_3 : w23.cell? ⟨w.heap.size, 3, none⟩ = some (Value.string (bs x4)) := (hB23.cell 3).trans (show _ = some (Value.string (bs x4)) from rfl)
      go_wp2_with fail
      all_goals
        refine (rneed_any _ _ g _ hW23).mono ?_
        rintro e w24 ⟨rfl, hW24, hC24⟩
        have hB24 := hC24.blk hB23 (by omega) (by decide)
        have k24_0 : w24.cell? ⟨w.heap.size, 0, none⟩ = some (Value.slice tA ts.length tc) := (hB24.cell 0).trans (show _ = some (Value.slice tA ts.length tc) from rfl)
        have k24_1 : w24.cell? ⟨w.heap.size, 1, none⟩ = some (Value.bool x2) := (hB24.cell 1).trans (show _ = some (Value.bool x2) from rfl)
        have k24_2 : w24.cell? ⟨w.heap.size, 2, none⟩ = some (Value.string (bs x3)) := (hB24.cell 2).trans (show _ = some (Value.string (bs x3)) from rfl)
        have k24_3 : w24.cell? ⟨w.heap.size, 3, none⟩ = some (Value.string (bs x4)) := (hB24.cell 3).trans (show _ = some (Value.string (bs x4)) from rfl)
        go_wp2_with fail
        all_goals
          refine (rneed_any _ _ g _ hW24).mono ?_
          rintro e w25 ⟨rfl, hW25, hC25⟩
          go_wp2_with fail
          go_end0
          exact ⟨rfl, HEQ.out _ (hW25.eq (by rw [hK.out, Out.need_need, Out.need_need, Out.need_need]; congr 1; first | grind [emp] | (cases x2 <;> cases x3 <;> cases x4 <;> simp_all [emp]))), (hT23.trans hC24).trans hC25⟩
set_option maxRecDepth 100000 in
set_option maxHeartbeats 1000000 in
theorem rsight_any (x : SightD) (B : Nat) (w : World) (g : Nat) (S : Out) (h : Ref w g S) (hl : S.b.length + 40 * sightM x ≤ 58999999990000) (hx : x.held w B) (hB : B ≤ g) :
    Calls Try.prog 185 #[.pointer (some ⟨g, 0, none⟩), x.val] w fun e w' => e = .returned (.tuple #[]) ∧ Ref w' g (S.sight x) ∧ Turned w w' g := by
  have hgt := h.lt
  have hE : Hid (S.sight x = ((S.header x.header).cert x.cert).bench x.seats) := rfl
  obtain ⟨⟨h1, h2, h3, h4, h5, h6, h7, h8, h9⟩, ⟨c1, c2, c3, c4, c5, c6, c6a, c6c⟩, ss, sA, sc⟩ := x
  simp only [sightM, headerM] at hl
  dsimp only [SightD.val]
  obtain ⟨hxh, hxc, hxr, hxs⟩ := hx
  dsimp only at hxh hxc hxr hxs
  go_enter Try.func185, Try.ntmps185
  go_wp2_with fail
  refine (rheader_any ⟨h1, h2, h3, h4, h5, h6, h7, h8, h9⟩ hxh _ g _ (h.alloc _) (by omega)).mono ?_
  rintro e w1 ⟨rfl, hW1, hC1⟩
  have hB1 := hC1.blk (Blk.new _ _ _) (by omega) (by decide)
  have hT1 := ((Turned.refl w g).alloc (by omega) _).trans hC1
  have hlt1 := hB1.lt
  have hgl1 := hW1.lt
  have ll1 := S.header_len ⟨h1, h2, h3, h4, h5, h6, h7, h8, h9⟩
  generalize S.header ⟨h1, h2, h3, h4, h5, h6, h7, h8, h9⟩ = S1 at *
  have c1_0 := (hB1.cell 0).trans (show _ = some (.int .i64 h1) from rfl)
  have c1_1 := (hB1.cell 1).trans (show _ = some (.int .i64 h2) from rfl)
  have c1_2 := (hB1.cell 2).trans (show _ = some (.int .u64 h3) from rfl)
  have c1_3 := (hB1.cell 3).trans (show _ = some (.int .u64 h4) from rfl)
  have c1_4 := (hB1.cell 4).trans (show _ = some (.int .u64 h5) from rfl)
  have c1_5 := (hB1.cell 5).trans (show _ = some (.int .u64 h6) from rfl)
  have c1_6 := (hB1.cell 6).trans (show _ = some (.int .u64 h7) from rfl)
  have c1_7 := (hB1.cell 7).trans (show _ = some (.int .u64 h8) from rfl)
  have c1_8 := (hB1.cell 8).trans (show _ = some (.int .i64 h9) from rfl)
  have c1_9 := (hB1.cell 9).trans (show _ = some (.int .i64 c1) from rfl)
  have c1_10 := (hB1.cell 10).trans (show _ = some (.int .i64 c2) from rfl)
  have c1_11 := (hB1.cell 11).trans (show _ = some (.int .i64 c3) from rfl)
  have c1_12 := (hB1.cell 12).trans (show _ = some (.bool c4) from rfl)
  have c1_13 := (hB1.cell 13).trans (show _ = some (.int .u64 c5) from rfl)
  have c1_14 := (hB1.cell 14).trans (show _ = some (.slice c6a c6.length c6c) from rfl)
  have c1_15 := (hB1.cell 15).trans (show _ = some (.slice sA ss.length sc) from rfl)
  go_wp2_with fail
  refine (rcert_any ⟨c1, c2, c3, c4, c5, c6, c6a, c6c⟩ B _ g _ hW1 (by omega) (hxc.below (hT1.low.mono hB)) hB).mono ?_
  rintro e w2 ⟨rfl, hW2, hC2⟩
  have hB2 := hC2.blk hB1 (by omega) (by decide)
  have hT2 := hT1.trans hC2
  have hlt2 := hB2.lt
  have hgl2 := hW2.lt
  have ll2 := S1.cert_len ⟨c1, c2, c3, c4, c5, c6, c6a, c6c⟩
  generalize S1.cert ⟨c1, c2, c3, c4, c5, c6, c6a, c6c⟩ = S2 at *
  have c2_0 := (hB2.cell 0).trans (show _ = some (.int .i64 h1) from rfl)
  have c2_1 := (hB2.cell 1).trans (show _ = some (.int .i64 h2) from rfl)
  have c2_2 := (hB2.cell 2).trans (show _ = some (.int .u64 h3) from rfl)
  have c2_3 := (hB2.cell 3).trans (show _ = some (.int .u64 h4) from rfl)
  have c2_4 := (hB2.cell 4).trans (show _ = some (.int .u64 h5) from rfl)
  have c2_5 := (hB2.cell 5).trans (show _ = some (.int .u64 h6) from rfl)
  have c2_6 := (hB2.cell 6).trans (show _ = some (.int .u64 h7) from rfl)
  have c2_7 := (hB2.cell 7).trans (show _ = some (.int .u64 h8) from rfl)
  have c2_8 := (hB2.cell 8).trans (show _ = some (.int .i64 h9) from rfl)
  have c2_9 := (hB2.cell 9).trans (show _ = some (.int .i64 c1) from rfl)
  have c2_10 := (hB2.cell 10).trans (show _ = some (.int .i64 c2) from rfl)
  have c2_11 := (hB2.cell 11).trans (show _ = some (.int .i64 c3) from rfl)
  have c2_12 := (hB2.cell 12).trans (show _ = some (.bool c4) from rfl)
  have c2_13 := (hB2.cell 13).trans (show _ = some (.int .u64 c5) from rfl)
  have c2_14 := (hB2.cell 14).trans (show _ = some (.slice c6a c6.length c6c) from rfl)
  have c2_15 := (hB2.cell 15).trans (show _ = some (.slice sA ss.length sc) from rfl)
  go_wp2_with fail
  refine (rbench_any ss sA sc B _ g _ hW2 (hT2.rd hxr hB) hB (by omega) hxs).mono ?_
  rintro e w3 ⟨rfl, hW3, hC3⟩
  have hB3 := hC3.blk hB2 (by omega) (by decide)
  have hT3 := hT2.trans hC3
  have hlt3 := hB3.lt
  have hgl3 := hW3.lt
  generalize S2.bench ss = S3 at *
  go_wp2_with fail
  go_end0
  exact ⟨rfl, Ref.eq hW3 (by rw [hE.out] <;> rfl), hT3⟩
end Go.Proofs.Ytjjkdmngmopjbaa

namespace Go.Proofs.Ytjjkdmngmopjbaa
open Go.RowKit
set_option maxRecDepth 100000 in
set_option maxHeartbeats 400000 in
theorem write_cert (x : CertD) (B : Nat) (w : World) (hx : x.held w B) (hB : B ≤ w.heap.size) (hl : certM x ≤ 10000000) :
    Calls Try.prog 151 #[x.val, .func (.func 142) #[] #[]] w fun e w' => e = .returned (.tuple #[.string (bs (Out.empty.cert x).rs), .int .i64 (Out.empty.cert x).re]) ∧ Below w.heap.size w w' := by
  obtain ⟨x1, x2, x3, x4, x5, x6, x6a, x6c⟩ := x
  dsimp only [CertD.val]
  go_enter Try.func151, Try.ntmps151
  go_wp2_with fail
  refine (wcert_any ⟨x1, x2, x3, x4, x5, x6, x6a, x6c⟩ B _ (w.heap.size + 1) _ (by have hN := Wrt.new (w.alloc (.cells #[.int .i64 x1, .int .i64 x2, .int .i64 x3, .bool x4, .int .u64 x5, .slice x6a x6.length x6c] 37)); simpa using hN) (by simp [Out.empty]; omega) (by first | exact hx.below (((Below.refl B w).alloc hB _).alloc (by simp; omega) _) | exact hx) (by omega)).mono ?_
  rintro e w1 ⟨rfl, ⟨v, hb, ho⟩, hT1⟩
  have hgl := hb.lt
  have hS := hT1.size
  have hBel : Below w.heap.size w w1 := (((Below.refl _ _).alloc (Nat.le_refl _) _).alloc (by simp) _ |>.trans (hT1.low.mono (by omega)))
  generalize hSE : Out.empty.cert ⟨x1, x2, x3, x4, x5, x6, x6a, x6c⟩ = S1 at *
  have HSE := Lib.hid hSE
  clear hSE
  have c0 := (hb.cell 0).trans (show _ = some v from rfl)
  have c1 := (hb.cell 1).trans (show _ = some (Value.bool S1.far) from rfl)
  have c2 := (hb.cell 2).trans (show _ = some (Value.bool S1.odd) from rfl)
  have hcv := conv_own w1 ho
  clear hb ho
  obtain ⟨b, far, odd⟩ := S1
  dsimp only at *
  cases far
  · cases odd
    · go_wp2_with fail
      go_ret2
      exact ⟨by rw [HSE.out]; rfl, hBel⟩
    · go_wp2_with fail
      go_ret2
      exact ⟨by rw [HSE.out]; rfl, hBel⟩
  · go_wp2_with fail
    go_ret2
    exact ⟨by rw [HSE.out]; rfl, hBel⟩
set_option maxRecDepth 100000 in
theorem put_cert (x : CertD) (B : Nat) (w : World) (hx : x.held w B) (hB : B ≤ w.heap.size) (hl : certM x ≤ 10000000) :
    Calls Try.prog 123 #[x.val] w fun e w' => e = .returned (.tuple #[.string (bs (Out.empty.cert x).rs), .int .i64 (Out.empty.cert x).re]) ∧ Below w.heap.size w w' := by
  have hWr := write_cert x B (w.alloc (.cells #[.int .i64 x.h, .int .i64 x.r, .int .i64 x.s, .bool x.has, .int .u64 x.b, .slice x.fa x.froms.length x.fc] 37)) (by first | exact hx | exact hx.below ((Below.refl B w).alloc hB _)) (by simp; omega) hl
  generalize Out.empty.cert x = S1 at *
  obtain ⟨x1, x2, x3, x4, x5, x6, x6a, x6c⟩ := x
  dsimp only [CertD.val] at *
  go_enter Try.func123, Try.ntmps123
  go_wp2_with fail
  refine hWr.mono ?_
  rintro e w1 ⟨rfl, hb⟩
  go_wp2_with fail
  go_ret2
  exact ⟨rfl, ((Below.refl _ _).alloc (Nat.le_refl _) _).trans (hb.mono (by simp))⟩
set_option maxRecDepth 100000 in
set_option maxHeartbeats 400000 in
theorem rput_cert (x : CertD) (B : Nat) (w : World) (hx : x.held w B) (hB : B ≤ w.heap.size) (hl : certM x ≤ 10000000) :
    Calls Try.prog 82 #[x.val] w fun e w' => e = .returned (.tuple #[.string (bs (Out.empty.cert x).rs), .int .i64 (Out.empty.cert x).re]) ∧ Below w.heap.size w w' := by
  obtain ⟨x1, x2, x3, x4, x5, x6, x6a, x6c⟩ := x
  dsimp only [CertD.val]
  go_enter Try.func82, Try.ntmps82
  go_wp2_with fail
  refine (rcert_any ⟨x1, x2, x3, x4, x5, x6, x6a, x6c⟩ B _ (w.heap.size + 1) _ (by have hN := Ref.new (w.alloc (.cells #[.int .i64 x1, .int .i64 x2, .int .i64 x3, .bool x4, .int .u64 x5, .slice x6a x6.length x6c] 37)); simpa using hN) (by simp [Out.empty]; omega) (by first | exact hx.below (((Below.refl B w).alloc hB _).alloc (by simp; omega) _) | exact hx) (by omega)).mono ?_
  rintro e w1 ⟨rfl, hW1, hT1⟩
  have hgl1 := hW1.lt
  have hS := hT1.size
  have hBel : Below w.heap.size w w1 := (((Below.refl _ _).alloc (Nat.le_refl _) _).alloc (by simp) _ |>.trans (hT1.low.mono (by omega)))
  go_wp2_with fail
  refine (rout_any _ _ _ hW1).mono ?_
  rintro e w9 ⟨rfl, rfl⟩
  go_wp2_with fail
  go_ret2
  exact ⟨rfl, hBel⟩
set_option maxRecDepth 100000 in
set_option maxHeartbeats 400000 in
theorem write_proof (x : ProofD) (B : Nat) (w : World) (hx : x.held w B) (hB : B ≤ w.heap.size) (hl : proofM x ≤ 10000000) :
    Calls Try.prog 160 #[x.val, .func (.func 161) #[] #[]] w fun e w' => e = .returned (.tuple #[.string (bs (Out.empty.proof x).rs), .int .i64 (Out.empty.proof x).re]) ∧ Below w.heap.size w w' := by
  obtain ⟨x1, x1a, x1c, x2, x3, x4⟩ := x
  dsimp only [ProofD.val]
  go_enter Try.func160, Try.ntmps160
  go_wp2_with fail
  refine (wproof_any ⟨x1, x1a, x1c, x2, x3, x4⟩ B _ (w.heap.size + 1) _ (by have hN := Wrt.new (w.alloc (.cells #[.slice x1a x1.length x1c, .bool x2, .string (bs x3), .string (bs x4)] 70)); simpa using hN) (by simp [Out.empty]; omega) (by first | exact hx.below (((Below.refl B w).alloc hB _).alloc (by simp; omega) _) | exact hx) (by omega)).mono ?_
  rintro e w1 ⟨rfl, ⟨v, hb, ho⟩, hT1⟩
  have hgl := hb.lt
  have hS := hT1.size
  have hBel : Below w.heap.size w w1 := (((Below.refl _ _).alloc (Nat.le_refl _) _).alloc (by simp) _ |>.trans (hT1.low.mono (by omega)))
  generalize hSE : Out.empty.proof ⟨x1, x1a, x1c, x2, x3, x4⟩ = S1 at *
  have HSE := Lib.hid hSE
  clear hSE
  have c0 := (hb.cell 0).trans (show _ = some v from rfl)
  have c1 := (hb.cell 1).trans (show _ = some (Value.bool S1.far) from rfl)
  have c2 := (hb.cell 2).trans (show _ = some (Value.bool S1.odd) from rfl)
  have hcv := conv_own w1 ho
  clear hb ho
  obtain ⟨b, far, odd⟩ := S1
  dsimp only at *
  cases far
  · cases odd
    · go_wp2_with fail
      go_ret2
      exact ⟨by rw [HSE.out]; rfl, hBel⟩
    · go_wp2_with fail
      go_ret2
      exact ⟨by rw [HSE.out]; rfl, hBel⟩
  · go_wp2_with fail
    go_ret2
    exact ⟨by rw [HSE.out]; rfl, hBel⟩
set_option maxRecDepth 100000 in
theorem put_proof (x : ProofD) (B : Nat) (w : World) (hx : x.held w B) (hB : B ≤ w.heap.size) (hl : proofM x ≤ 10000000) :
    Calls Try.prog 132 #[x.val] w fun e w' => e = .returned (.tuple #[.string (bs (Out.empty.proof x).rs), .int .i64 (Out.empty.proof x).re]) ∧ Below w.heap.size w w' := by
  have hWr := write_proof x B (w.alloc (.cells #[.slice x.ta x.turns.length x.tc, .bool x.leaf, .string (bs x.key), .string (bs x.value)] 70)) (by first | exact hx | exact hx.below ((Below.refl B w).alloc hB _)) (by simp; omega) hl
  generalize Out.empty.proof x = S1 at *
  obtain ⟨x1, x1a, x1c, x2, x3, x4⟩ := x
  dsimp only [ProofD.val] at *
  go_enter Try.func132, Try.ntmps132
  go_wp2_with fail
  refine hWr.mono ?_
  rintro e w1 ⟨rfl, hb⟩
  go_wp2_with fail
  go_ret2
  exact ⟨rfl, ((Below.refl _ _).alloc (Nat.le_refl _) _).trans (hb.mono (by simp))⟩
set_option maxRecDepth 100000 in
set_option maxHeartbeats 400000 in
theorem rput_proof (x : ProofD) (B : Nat) (w : World) (hx : x.held w B) (hB : B ≤ w.heap.size) (hl : proofM x ≤ 10000000) :
    Calls Try.prog 135 #[x.val] w fun e w' => e = .returned (.tuple #[.string (bs (Out.empty.proof x).rs), .int .i64 (Out.empty.proof x).re]) ∧ Below w.heap.size w w' := by
  obtain ⟨x1, x1a, x1c, x2, x3, x4⟩ := x
  dsimp only [ProofD.val]
  go_enter Try.func135, Try.ntmps135
  go_wp2_with fail
  refine (rproof_any ⟨x1, x1a, x1c, x2, x3, x4⟩ B _ (w.heap.size + 1) _ (by have hN := Ref.new (w.alloc (.cells #[.slice x1a x1.length x1c, .bool x2, .string (bs x3), .string (bs x4)] 70)); simpa using hN) (by simp [Out.empty]; omega) (by first | exact hx.below (((Below.refl B w).alloc hB _).alloc (by simp; omega) _) | exact hx) (by omega)).mono ?_
  rintro e w1 ⟨rfl, hW1, hT1⟩
  have hgl1 := hW1.lt
  have hS := hT1.size
  have hBel : Below w.heap.size w w1 := (((Below.refl _ _).alloc (Nat.le_refl _) _).alloc (by simp) _ |>.trans (hT1.low.mono (by omega)))
  go_wp2_with fail
  refine (rout_any _ _ _ hW1).mono ?_
  rintro e w9 ⟨rfl, rfl⟩
  go_wp2_with fail
  go_ret2
  exact ⟨rfl, hBel⟩
set_option maxRecDepth 100000 in
set_option maxHeartbeats 400000 in
theorem write_header (x : HeaderD) (hx : x.ok) (w : World) :
    Calls Try.prog 114 #[x.val, .func (.func 115) #[] #[]] w fun e w' => e = .returned (.tuple #[.string (bs (Out.empty.header x).rs), .int .i64 (Out.empty.header x).re]) ∧ Below w.heap.size w w' := by
  obtain ⟨x1, x2, x3, x4, x5, x6, x7, x8, x9⟩ := x
  dsimp only [HeaderD.val]
  go_enter Try.func114, Try.ntmps114
  go_wp2_with fail
  refine (wheader_any ⟨x1, x2, x3, x4, x5, x6, x7, x8, x9⟩ hx _ (w.heap.size + 1) _ (by have hN := Wrt.new (w.alloc (.cells #[.int .i64 x1, .int .i64 x2, .int .u64 x3, .int .u64 x4, .int .u64 x5, .int .u64 x6, .int .u64 x7, .int .u64 x8, .int .i64 x9] 27)); simpa using hN) (by simp [Out.empty])).mono ?_
  rintro e w1 ⟨rfl, ⟨v, hb, ho⟩, hT1⟩
  have hgl := hb.lt
  have hS := hT1.size
  have hBel : Below w.heap.size w w1 := (((Below.refl _ _).alloc (Nat.le_refl _) _).alloc (by simp) _ |>.trans (hT1.low.mono (by omega)))
  generalize hSE : Out.empty.header ⟨x1, x2, x3, x4, x5, x6, x7, x8, x9⟩ = S1 at *
  have HSE := Lib.hid hSE
  clear hSE
  have c0 := (hb.cell 0).trans (show _ = some v from rfl)
  have c1 := (hb.cell 1).trans (show _ = some (Value.bool S1.far) from rfl)
  have c2 := (hb.cell 2).trans (show _ = some (Value.bool S1.odd) from rfl)
  have hcv := conv_own w1 ho
  clear hb ho
  obtain ⟨b, far, odd⟩ := S1
  dsimp only at *
  cases far
  · cases odd
    · go_wp2_with fail
      go_ret2
      exact ⟨by rw [HSE.out]; rfl, hBel⟩
    · go_wp2_with fail
      go_ret2
      exact ⟨by rw [HSE.out]; rfl, hBel⟩
  · go_wp2_with fail
    go_ret2
    exact ⟨by rw [HSE.out]; rfl, hBel⟩
set_option maxRecDepth 100000 in
theorem put_header (x : HeaderD) (hx : x.ok) (w : World) :
    Calls Try.prog 73 #[x.val] w fun e w' => e = .returned (.tuple #[.string (bs (Out.empty.header x).rs), .int .i64 (Out.empty.header x).re]) ∧ Below w.heap.size w w' := by
  have hWr := write_header x hx
  generalize Out.empty.header x = S1 at *
  obtain ⟨x1, x2, x3, x4, x5, x6, x7, x8, x9⟩ := x
  dsimp only [HeaderD.val] at *
  go_enter Try.func73, Try.ntmps73
  go_wp2_with fail
  refine (hWr (w.alloc (.cells #[.int .i64 x1, .int .i64 x2, .int .u64 x3, .int .u64 x4, .int .u64 x5, .int .u64 x6, .int .u64 x7, .int .u64 x8, .int .i64 x9] 27))).mono ?_
  rintro e w1 ⟨rfl, hb⟩
  go_wp2_with fail
  go_ret2
  exact ⟨rfl, ((Below.refl _ _).alloc (Nat.le_refl _) _).trans (hb.mono (by simp))⟩
set_option maxRecDepth 100000 in
set_option maxHeartbeats 400000 in
theorem rput_header (x : HeaderD) (hx : x.ok) (w : World) :
    Calls Try.prog 75 #[x.val] w fun e w' => e = .returned (.tuple #[.string (bs (Out.empty.header x).rs), .int .i64 (Out.empty.header x).re]) ∧ Below w.heap.size w w' := by
  obtain ⟨x1, x2, x3, x4, x5, x6, x7, x8, x9⟩ := x
  dsimp only [HeaderD.val]
  go_enter Try.func75, Try.ntmps75
  go_wp2_with fail
  refine (rheader_any ⟨x1, x2, x3, x4, x5, x6, x7, x8, x9⟩ hx _ (w.heap.size + 1) _ (by have hN := Ref.new (w.alloc (.cells #[.int .i64 x1, .int .i64 x2, .int .u64 x3, .int .u64 x4, .int .u64 x5, .int .u64 x6, .int .u64 x7, .int .u64 x8, .int .i64 x9] 27)); simpa using hN) (by simp [Out.empty])).mono ?_
  rintro e w1 ⟨rfl, hW1, hT1⟩
  have hgl1 := hW1.lt
  have hS := hT1.size
  have hBel : Below w.heap.size w w1 := (((Below.refl _ _).alloc (Nat.le_refl _) _).alloc (by simp) _ |>.trans (hT1.low.mono (by omega)))
  go_wp2_with fail
  refine (rout_any _ _ _ hW1).mono ?_
  rintro e w9 ⟨rfl, rfl⟩
  go_wp2_with fail
  go_ret2
  exact ⟨rfl, hBel⟩
end Go.Proofs.Ytjjkdmngmopjbaa

namespace Go.Proofs.Ytjjkdmngmopjbaa
open Go.RowKit
def quorumS (l : List Seat) (named : List Int) : Bool := decide (wrap64 (2 * total l) < wrap64 (3 * weightOf l named))
def seatedAll (l : List Seat) (froms : List Int) : Bool := froms.all fun f => hasB l f
def checkS (l : List Seat) (x : CertD) : Int := if (Out.empty.cert x).re = 0 then (if seatedAll l x.froms then (if quorumS l x.froms then 0 else 18) else 17) else (Out.empty.cert x).re
theorem seatedAll_stop (l : List Seat) (fs : List Int) (j : Nat) (h : j < fs.length) (e : hasB l fs[j] = false) : seatedAll l fs = false := by
  unfold seatedAll
  rw [List.all_eq_false]
  exact ⟨fs[j], List.getElem_mem h, by simp [e]⟩
theorem seatedAll_all (l : List Seat) (fs : List Int) (h : ∀ j (hj : j < fs.length), hasB l fs[j] = true) : seatedAll l fs = true := by
  unfold seatedAll
  rw [List.all_eq_true]
  intro x hx
  obtain ⟨i, hi, rfl⟩ := List.getElem_of_mem hx
  exact h i hi
theorem re_cases (S : Out) : S.re = 0 ∨ S.re = 2 ∨ S.re = 3 := by
  unfold Out.re
  split
  · omega
  · split <;> omega
set_option maxRecDepth 100000 in
set_option maxHeartbeats 1000000 in
theorem check_any (l : List Seat) (A : Option Addr) (c B : Nat) (x : CertD) (w : World) (h : Seats w B A l) (hx : x.held w B) (hB : B ≤ w.heap.size) (hl : l.length ≤ maxLen) (hb : certM x ≤ 10000000) :
    Calls Try.prog 78 #[.slice A l.length c, x.val] w fun e w' => e = .returned (.int .i64 (checkS l x)) ∧ Below w.heap.size w w' := by
  have hP := fun W => put_cert x B W
  have hr := re_cases (Out.empty.cert x)
  have hC : Hid (checkS l x = if (Out.empty.cert x).re = 0 then (if seatedAll l x.froms then (if quorumS l x.froms then 0 else 18) else 17) else (Out.empty.cert x).re) := rfl
  generalize (Out.empty.cert x).re = er at *
  obtain ⟨x1, x2, x3, x4, x5, fs, fA, fc⟩ := x
  have hxr := hx.read
  have hxs := hx.short
  dsimp only at hC hxr hxs
  dsimp only [CertD.val] at *
  unfold maxLen at hxs
  go_enter Try.func78, Try.ntmps78
  go_wp2_with fail
  refine (hP _ (hx.below ((Below.refl B w).alloc hB _)) (by simp; omega) hb).mono ?_
  rintro e w1 ⟨rfl, hb1⟩
  have hsz1 := hb1.size
  simp at hsz1
  have hBx := (Blk.new w 37 #[.int .i64 x1, .int .i64 x2, .int .i64 x3, .bool x4, .int .u64 x5, .slice fA fs.length fc]).below hb1 (by simp)
  have hbel1 : Below w.heap.size w w1 := ((Below.refl _ _).alloc (Nat.le_refl _) _).trans (hb1.mono (by simp))
  have c5 := (hBx.cell 5).trans (show _ = some (Value.slice fA fs.length fc) from rfl)
  by_cases h0 : er = 0
  · have hC0 : Hid (checkS l ⟨x1, x2, x3, x4, x5, fs, fA, fc⟩ = if seatedAll l fs then (if quorumS l fs then 0 else 18) else 17) := by show _ = _; rw [hC.out, if_pos h0]
    subst h0
    go_wp2_with fail
    go_loopw [8, 20] (fun _ i wr => ∃ j : Nat, i = .int .i64 (j : Int) ∧ j ≤ fs.length ∧ (∀ i (hi : i < fs.length), i < j → hasB l fs[i] = true) ∧ Blk wr w.heap.size 37 #[.int .i64 x1, .int .i64 x2, .int .i64 x3, .bool x4, .int .u64 x5, .slice fA fs.length fc] ∧ Below w.heap.size w wr ∧ w.heap.size < wr.heap.size) (fun _ i _ => fs.length - (intOf i).toNat)
    case atStart => exact ⟨0, rfl, by omega, fun i _ h => absurd h (by omega), hBx, hbel1, by omega⟩
    case round =>
      obtain ⟨j, rfl, hj, hall, hBr, hbr, hsr⟩ := hrel
      have HA := Lib.hid hall
      clear hall
      by_cases hlt : j < fs.length
      · have hji : (j : Int) < (fs.length : Int) := by omega
        obtain ⟨b, off, rfl, hbB, d0⟩ := Ints.at_ (Rd.below hxr (hbr.mono hB)) hlt
        have HS := Lib.hid (seatedAll_stop l fs j hlt)
        cases hq : hasB l fs[j]
        · have HQ := Lib.hid hq
          clear hq
          go_wp2_with fail
          refine (has_any l _ A c B wr (Rd.below h (hbr.mono hB)) (by omega) hl).mono ?_
          rintro e w2 ⟨rfl, hb2⟩
          rw [HQ.out]
          go_wp2_with fail
          go_ret
          exact ⟨by rw [hC0.out, HS.out HQ.out]; rfl, hbr.trans (hb2.mono (by omega))⟩
        · have HQ := Lib.hid hq
          clear hq
          go_wp2_with fail
          refine (has_any l _ A c B wr (Rd.below h (hbr.mono hB)) (by omega) hl).mono ?_
          rintro e w2 ⟨rfl, hb2⟩
          rw [HQ.out]
          have hs2 := hb2.size
          have hBr2 := hBr.below hb2 hBr.lt
          go_wp2_with fail
          go_roundw
          case rel => exact ⟨j + 1, by go_num, by omega, fun i hi h => by
            by_cases hij : i = j
            · subst hij; exact HQ.out
            · exact HA.out i hi (by omega), hBr2, hbr.trans (hb2.mono (by omega)), by omega⟩
          case measure => simp [intOf]; omega
      · have hji : ¬ (j : Int) < (fs.length : Int) := by omega
        have HS := Lib.hid (seatedAll_all l fs fun i hi => HA.out i hi (by omega))
        have k5 := (hBr.cell 5).trans (show _ = some (Value.slice fA fs.length fc) from rfl)
        have hQ : Hid (quorumS l fs = decide (wrap64 (2 * total l) < wrap64 (3 * weightOf l fs))) := rfl
        cases hq : decide (wrap64 (2 * total l) < wrap64 (3 * weightOf l fs))
        · have HQ := Lib.hid hq
          clear hq
          go_wp2_with fail
          refine (quorum_any l fs A fA c fc B wr (Rd.below h (hbr.mono hB)) (Rd.below hxr (hbr.mono hB)) (by omega) hl (by unfold maxLen; omega)).mono ?_
          rintro e w2 ⟨rfl, hb2⟩
          rw [HQ.out]
          go_wp2_with fail
          go_ret
          exact ⟨by rw [hC0.out, HS.out, hQ.out, HQ.out]; rfl, hbr.trans (hb2.mono (by omega))⟩
        · have HQ := Lib.hid hq
          clear hq
          go_wp2_with fail
          refine (quorum_any l fs A fA c fc B wr (Rd.below h (hbr.mono hB)) (Rd.below hxr (hbr.mono hB)) (by omega) hl (by unfold maxLen; omega)).mono ?_
          rintro e w2 ⟨rfl, hb2⟩
          rw [HQ.out]
          go_wp2_with fail
          go_ret
          exact ⟨by rw [hC0.out, HS.out, hQ.out, HQ.out]; rfl, hbr.trans (hb2.mono (by omega))⟩
  · have hne : (er != 0) = true := by rw [bne_iff_ne]; exact h0
    have HNE := Lib.hid h0
    clear h0 hr
    go_wp2_with fail
    go_ret
    exact ⟨by rw [hC.out, if_neg HNE.out]; rfl, hbel1⟩
end Go.Proofs.Ytjjkdmngmopjbaa

namespace Go.Proofs.Ytjjkdmngmopjbaa
open Go.RowKit
set_option maxRecDepth 100000 in
set_option maxHeartbeats 1000000 in
theorem rcheck_any (l : List Seat) (A : Option Addr) (c B : Nat) (x : CertD) (w : World) (h : Seats w B A l) (hx : x.held w B) (hB : B ≤ w.heap.size) (hl : l.length ≤ maxLen) (hb : certM x ≤ 10000000) :
    Calls Try.prog 84 #[.slice A l.length c, x.val] w fun e w' => e = .returned (.int .i64 (checkS l x)) ∧ Below w.heap.size w w' := by
  have hP := fun W => rput_cert x B W
  have hr := re_cases (Out.empty.cert x)
  have hC : Hid (checkS l x = if (Out.empty.cert x).re = 0 then (if seatedAll l x.froms then (if quorumS l x.froms then 0 else 18) else 17) else (Out.empty.cert x).re) := rfl
  generalize (Out.empty.cert x).re = er at *
  obtain ⟨x1, x2, x3, x4, x5, fs, fA, fc⟩ := x
  have hxr := hx.read
  have hxs := hx.short
  dsimp only at hC hxr hxs
  dsimp only [CertD.val] at *
  unfold maxLen at hxs
  go_enter Try.func84, Try.ntmps84
  go_wp2_with fail
  refine (hP _ (hx.below ((Below.refl B w).alloc hB _)) (by simp; omega) hb).mono ?_
  rintro e w1 ⟨rfl, hb1⟩
  have hsz1 := hb1.size
  simp at hsz1
  have hBx := (Blk.new w 37 #[.int .i64 x1, .int .i64 x2, .int .i64 x3, .bool x4, .int .u64 x5, .slice fA fs.length fc]).below hb1 (by simp)
  have hbel1 : Below w.heap.size w w1 := ((Below.refl _ _).alloc (Nat.le_refl _) _).trans (hb1.mono (by simp))
  have c5 := (hBx.cell 5).trans (show _ = some (Value.slice fA fs.length fc) from rfl)
  by_cases h0 : er = 0
  · have hC0 : Hid (checkS l ⟨x1, x2, x3, x4, x5, fs, fA, fc⟩ = if seatedAll l fs then (if quorumS l fs then 0 else 18) else 17) := by show _ = _; rw [hC.out, if_pos h0]
    subst h0
    go_wp2_with fail
    go_loopw [7, 8] (fun i _ wr => ∃ j : Nat, i = .int .i64 (j : Int) ∧ j ≤ fs.length ∧ (∀ i (hi : i < fs.length), i < j → hasB l fs[i] = true) ∧ Blk wr w.heap.size 37 #[.int .i64 x1, .int .i64 x2, .int .i64 x3, .bool x4, .int .u64 x5, .slice fA fs.length fc] ∧ Below w.heap.size w wr ∧ w.heap.size < wr.heap.size) (fun i _ _ => fs.length - (intOf i).toNat)
    case atStart => exact ⟨0, rfl, by omega, fun i _ h => absurd h (by omega), hBx, hbel1, by omega⟩
    case round =>
      obtain ⟨j, rfl, hj, hall, hBr, hbr, hsr⟩ := hrel
      have k5a := (hBr.cell 5).trans (show _ = some (Value.slice fA fs.length fc) from rfl)
      have HA := Lib.hid hall
      clear hall
      by_cases hlt : j < fs.length
      · have hji : (j : Int) < (fs.length : Int) := by omega
        obtain ⟨b, off, rfl, hbB, d0⟩ := Ints.at_ (Rd.below hxr (hbr.mono hB)) hlt
        have HS := Lib.hid (seatedAll_stop l fs j hlt)
        cases hq : hasB l fs[j]
        · have HQ := Lib.hid hq
          clear hq
          go_wp2_with fail
          refine (rhas_any l _ A c B wr (Rd.below h (hbr.mono hB)) hl).mono ?_
          rintro e w2 ⟨rfl, rfl⟩
          have hb2 := Below.refl wr.heap.size wr
          rw [HQ.out]
          go_wp2_with fail
          go_ret
          exact ⟨by rw [hC0.out, HS.out HQ.out]; rfl, hbr.trans (hb2.mono (by omega))⟩
        · have HQ := Lib.hid hq
          clear hq
          go_wp2_with fail
          refine (rhas_any l _ A c B wr (Rd.below h (hbr.mono hB)) hl).mono ?_
          rintro e w2 ⟨rfl, rfl⟩
          have hb2 := Below.refl wr.heap.size wr
          rw [HQ.out]
          have hs2 := hb2.size
          have hBr2 := hBr.below hb2 hBr.lt
          go_wp2_with fail
          go_roundw
          case rel => exact ⟨j + 1, by go_num, by omega, fun i hi h => by
            by_cases hij : i = j
            · subst hij; exact HQ.out
            · exact HA.out i hi (by omega), hBr2, hbr.trans (hb2.mono (by omega)), by omega⟩
          case measure => simp [intOf]; omega
      · have hji : ¬ (j : Int) < (fs.length : Int) := by omega
        have HS := Lib.hid (seatedAll_all l fs fun i hi => HA.out i hi (by omega))
        have k5 := (hBr.cell 5).trans (show _ = some (Value.slice fA fs.length fc) from rfl)
        have hQ : Hid (quorumS l fs = decide (wrap64 (2 * total l) < wrap64 (3 * weightOf l fs))) := rfl
        cases hq : decide (wrap64 (2 * total l) < wrap64 (3 * weightOf l fs))
        · have HQ := Lib.hid hq
          clear hq
          go_wp2_with fail
          refine (rquorum_any l fs A fA c fc B B wr (Rd.below h (hbr.mono hB)) (Rd.below hxr (hbr.mono hB)) (by omega) hl (by unfold maxLen; omega)).mono ?_
          rintro e w2 ⟨rfl, hb2⟩
          rw [HQ.out]
          go_wp2_with fail
          go_ret
          exact ⟨by rw [hC0.out, HS.out, hQ.out, HQ.out]; rfl, hbr.trans (hb2.mono (by omega))⟩
        · have HQ := Lib.hid hq
          clear hq
          go_wp2_with fail
          refine (rquorum_any l fs A fA c fc B B wr (Rd.below h (hbr.mono hB)) (Rd.below hxr (hbr.mono hB)) (by omega) hl (by unfold maxLen; omega)).mono ?_
          rintro e w2 ⟨rfl, hb2⟩
          rw [HQ.out]
          go_wp2_with fail
          go_ret
          exact ⟨by rw [hC0.out, HS.out, hQ.out, HQ.out]; rfl, hbr.trans (hb2.mono (by omega))⟩
  · have hne : (er != 0) = true := by rw [bne_iff_ne]; exact h0
    have HNE := Lib.hid h0
    clear h0 hr
    go_wp2_with fail
    go_ret
    exact ⟨by rw [hC.out, if_neg HNE.out]; rfl, hbel1⟩
end Go.Proofs.Ytjjkdmngmopjbaa
