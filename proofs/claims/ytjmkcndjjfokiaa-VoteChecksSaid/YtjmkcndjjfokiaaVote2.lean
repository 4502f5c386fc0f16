/- What is a decision: package vote's Check and the reference's CheckCert. -/
import Derived.Test.YtjmkcndjjfokiaaProg
import Derived.Test.YtjmkcndjjfokiaaVote1
import Derived.Test.YtjmkcndjjfokiaaWr19a
namespace Go.Proofs.Ytjmkcndjjfokiaa
open Go.RowKit
def quorumS (l : List Seat) (named : List Int) : Bool := decide (wrap64 (2 * total l) < wrap64 (3 * weightOf l named))
def seatedAll (l : List Seat) (froms : List Int) : Bool := froms.all fun f => hasB l f
def checkS (l : List Seat) (x : CertD) : Int := if (Out.empty.cert x).re = 0 then (if seatedAll l x.froms then (if quorumS l x.froms then 0 else 18) else 17) else (Out.empty.cert x).re
theorem seatedAll_stop (l : List Seat) (fs : List Int) (j : Nat) (h : j < fs.length) (e : hasB l fs[j] = false) : seatedAll l fs = false := by
  unfold seatedAll
  rw [List.all_eq_false]
  exact ⟨fs[j], List.getElem_mem h, by simp [e]⟩
theorem seatedAll_all (l : List Seat) (fs : List Int) (h : ∀ j (hj : j < fs.length), hasB l fs[j] = true) : seatedAll l fs = true := by
  unfold seatedAll
  rw [List.all_eq_true]
  intro x hx
  obtain ⟨i, hi, rfl⟩ := List.getElem_of_mem hx
  exact h i hi
theorem re_cases (S : Out) : S.re = 0 ∨ S.re = 2 ∨ S.re = 3 := by
  unfold Out.re
  split
  · omega
  · split <;> omega
set_option maxRecDepth 100000 in
set_option maxHeartbeats 1000000 in
theorem check_any (l : List Seat) (A : Option Addr) (c B : Nat) (x : CertD) (w : World) (h : Seats w B A l) (hx : x.held w B) (hB : B ≤ w.heap.size) (hl : l.length ≤ maxLen) (hb : certM x ≤ 10000000) :
    Calls Try.prog 34 #[.slice A l.length c, x.val] w fun e w' => e = .returned (.int .i64 (checkS l x)) ∧ Below w.heap.size w w' := by
  have hP := fun W => put_cert x B W
  have hr := re_cases (Out.empty.cert x)
  have hC : Hid (checkS l x = if (Out.empty.cert x).re = 0 then (if seatedAll l x.froms then (if quorumS l x.froms then 0 else 18) else 17) else (Out.empty.cert x).re) := rfl
  generalize (Out.empty.cert x).re = er at *
  obtain ⟨x1, x2, x3, x4, x5, fs, fA, fc⟩ := x
  have hxr := hx.read
  have hxs := hx.short
  dsimp only at hC hxr hxs
  dsimp only [CertD.val] at *
  unfold maxLen at hxs
  go_enter Try.func34, Try.ntmps34
  go_wp2_with fail
  refine (hP _ (hx.below ((Below.refl B w).alloc hB _)) (by simp; omega) hb).mono ?_
  rintro e w1 ⟨rfl, hb1⟩
  have hsz1 := hb1.size
  simp at hsz1
  have hBx := (Blk.new w 54 #[.int .i64 x1, .int .i64 x2, .int .i64 x3, .bool x4, .int .u64 x5, .slice fA fs.length fc]).below hb1 (by simp)
  have hbel1 : Below w.heap.size w w1 := ((Below.refl _ _).alloc (Nat.le_refl _) _).trans (hb1.mono (by simp))
  have c5 := (hBx.cell 5).trans (show _ = some (Value.slice fA fs.length fc) from rfl)
  by_cases h0 : er = 0
  · have hC0 : Hid (checkS l ⟨x1, x2, x3, x4, x5, fs, fA, fc⟩ = if seatedAll l fs then (if quorumS l fs then 0 else 18) else 17) := by show _ = _; rw [hC.out, if_pos h0]
    subst h0
    go_wp2_with fail
    go_loopw [8, 20] (fun _ i wr => ∃ j : Nat, i = .int .i64 (j : Int) ∧ j ≤ fs.length ∧ (∀ i (hi : i < fs.length), i < j → hasB l fs[i] = true) ∧ Blk wr w.heap.size 54 #[.int .i64 x1, .int .i64 x2, .int .i64 x3, .bool x4, .int .u64 x5, .slice fA fs.length fc] ∧ Below w.heap.size w wr ∧ w.heap.size < wr.heap.size) (fun _ i _ => fs.length - (intOf i).toNat)
    case atStart => exact ⟨0, rfl, by omega, fun i _ h => absurd h (by omega), hBx, hbel1, by omega⟩
    case round =>
      obtain ⟨j, rfl, hj, hall, hBr, hbr, hsr⟩ := hrel
      have HA := Lib.hid hall
      clear hall
      by_cases hlt : j < fs.length
      · have hji : (j : Int) < (fs.length : Int) := by omega
        obtain ⟨b, off, rfl, hbB, d0⟩ := Ints.at_ (Rd.below hxr (hbr.mono hB)) hlt
        have HS := Lib.hid (seatedAll_stop l fs j hlt)
        cases hq : hasB l fs[j]
        · have HQ := Lib.hid hq
          clear hq
          go_wp2_with fail
          refine (has_any l _ A c B wr (Rd.below h (hbr.mono hB)) (by omega) hl).mono ?_
          rintro e w2 ⟨rfl, hb2⟩
          rw [HQ.out]
          go_wp2_with fail
          go_ret
          exact ⟨by rw [hC0.out, HS.out HQ.out]; rfl, hbr.trans (hb2.mono (by omega))⟩
        · have HQ := Lib.hid hq
          clear hq
          go_wp2_with fail
          refine (has_any l _ A c B wr (Rd.below h (hbr.mono hB)) (by omega) hl).mono ?_
          rintro e w2 ⟨rfl, hb2⟩
          rw [HQ.out]
          have hs2 := hb2.size
          have hBr2 := hBr.below hb2 hBr.lt
          go_wp2_with fail
          go_roundw
          case rel => exact ⟨j + 1, by go_num, by omega, fun i hi h => by
            by_cases hij : i = j
            · subst hij; exact HQ.out
            · exact HA.out i hi (by omega), hBr2, hbr.trans (hb2.mono (by omega)), by omega⟩
          case measure => simp [intOf]; omega
      · have hji : ¬ (j : Int) < (fs.length : Int) := by omega
        have HS := Lib.hid (seatedAll_all l fs fun i hi => HA.out i hi (by omega))
        have k5 := (hBr.cell 5).trans (show _ = some (Value.slice fA fs.length fc) from rfl)
        have hQ : Hid (quorumS l fs = decide (wrap64 (2 * total l) < wrap64 (3 * weightOf l fs))) := rfl
        cases hq : decide (wrap64 (2 * total l) < wrap64 (3 * weightOf l fs))
        · have HQ := Lib.hid hq
          clear hq
          go_wp2_with fail
          refine (quorum_any l fs A fA c fc B wr (Rd.below h (hbr.mono hB)) (Rd.below hxr (hbr.mono hB)) (by omega) hl (by unfold maxLen; omega)).mono ?_
          rintro e w2 ⟨rfl, hb2⟩
          rw [HQ.out]
          go_wp2_with fail
          go_ret
          exact ⟨by rw [hC0.out, HS.out, hQ.out, HQ.out]; rfl, hbr.trans (hb2.mono (by omega))⟩
        · have HQ := Lib.hid hq
          clear hq
          go_wp2_with fail
          refine (quorum_any l fs A fA c fc B wr (Rd.below h (hbr.mono hB)) (Rd.below hxr (hbr.mono hB)) (by omega) hl (by unfold maxLen; omega)).mono ?_
          rintro e w2 ⟨rfl, hb2⟩
          rw [HQ.out]
          go_wp2_with fail
          go_ret
          exact ⟨by rw [hC0.out, HS.out, hQ.out, HQ.out]; rfl, hbr.trans (hb2.mono (by omega))⟩
  · have hne : (er != 0) = true := by rw [bne_iff_ne]; exact h0
    have HNE := Lib.hid h0
    clear h0 hr
    go_wp2_with fail
    go_ret
    exact ⟨by rw [hC.out, if_neg HNE.out]; rfl, hbel1⟩
end Go.Proofs.Ytjmkcndjjfokiaa
