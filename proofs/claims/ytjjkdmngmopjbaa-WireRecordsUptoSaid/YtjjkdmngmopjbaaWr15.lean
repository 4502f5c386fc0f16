/- The program's writer: transactions. -/
import Derived.Test.YtjjkdmngmopjbaaProg
import Derived.Test.YtjjkdmngmopjbaaWr14
namespace Go.Proofs.Ytjjkdmngmopjbaa
open Go.RowKit
set_option maxRecDepth 100000 in
set_option maxHeartbeats 1000000 in
theorem fields_any (k : Int) (w : World) :
    Calls Try.prog 184 #[.int .i64 k] w fun e w' => e = .returned (.tuple #[.bool (toF k), .bool (amountF k), .bool (textF k), .bool (argsF k), .bool (sightF k), .bool (proofF k)]) ∧ w = w' := by
  have h0 : Hid (toF k = (decide (k = 1) || decide (k = 3) || decide (k = 7) || decide (k = 8))) := rfl
  have h1 : Hid (amountF k = (toF k || decide (k = 2) || decide (k = 4) || decide (k = 5))) := rfl
  have h2 : Hid (textF k = (decide (k = 2) || decide (k = 3))) := rfl
  have h3 : Hid (argsF k = decide (k = 3)) := rfl
  have h4 : Hid (sightF k = decide (k = 9)) := rfl
  have h5 : Hid (proofF k = decide (k = 10)) := rfl
  by_cases h : k = 3
  · subst h
    go_enter Try.func184, Try.ntmps184
    go_wp2_with fail
    exact bodyPost_ret (v := .tuple #[.bool true, .bool true, .bool true, .bool true, .bool false, .bool false]) (by simp [results, Try.results184, go_sem]) rfl ⟨by simp [toF, amountF, textF, argsF, sightF, proofF], rfl⟩
  have b3 : (k == 3) = false := beq_eq_false_iff_ne.2 h
  have n3 := h
  clear h
  by_cases h : k = 1
  · subst h
    go_enter Try.func184, Try.ntmps184
    go_wp2_with fail
    exact bodyPost_ret (v := .tuple #[.bool true, .bool true, .bool false, .bool false, .bool false, .bool false]) (by simp [results, Try.results184, go_sem]) rfl ⟨by simp [toF, amountF, textF, argsF, sightF, proofF], rfl⟩
  have b1 : (k == 1) = false := beq_eq_false_iff_ne.2 h
  have n1 := h
  clear h
  by_cases h : k = 7
  · subst h
    go_enter Try.func184, Try.ntmps184
    go_wp2_with fail
    exact bodyPost_ret (v := .tuple #[.bool true, .bool true, .bool false, .bool false, .bool false, .bool false]) (by simp [results, Try.results184, go_sem]) rfl ⟨by simp [toF, amountF, textF, argsF, sightF, proofF], rfl⟩
  have b7 : (k == 7) = false := beq_eq_false_iff_ne.2 h
  have n7 := h
  clear h
  by_cases h : k = 8
  · subst h
    go_enter Try.func184, Try.ntmps184
    go_wp2_with fail
    exact bodyPost_ret (v := .tuple #[.bool true, .bool true, .bool false, .bool false, .bool false, .bool false]) (by simp [results, Try.results184, go_sem]) rfl ⟨by simp [toF, amountF, textF, argsF, sightF, proofF], rfl⟩
  have b8 : (k == 8) = false := beq_eq_false_iff_ne.2 h
  have n8 := h
  clear h
  by_cases h : k = 4
  · subst h
    go_enter Try.func184, Try.ntmps184
    go_wp2_with fail
    exact bodyPost_ret (v := .tuple #[.bool false, .bool true, .bool false, .bool false, .bool false, .bool false]) (by simp [results, Try.results184, go_sem]) rfl ⟨by simp [toF, amountF, textF, argsF, sightF, proofF], rfl⟩
  have b4 : (k == 4) = false := beq_eq_false_iff_ne.2 h
  have n4 := h
  clear h
  by_cases h : k = 5
  · subst h
    go_enter Try.func184, Try.ntmps184
    go_wp2_with fail
    exact bodyPost_ret (v := .tuple #[.bool false, .bool true, .bool false, .bool false, .bool false, .bool false]) (by simp [results, Try.results184, go_sem]) rfl ⟨by simp [toF, amountF, textF, argsF, sightF, proofF], rfl⟩
  have b5 : (k == 5) = false := beq_eq_false_iff_ne.2 h
  have n5 := h
  clear h
  by_cases h : k = 2
  · subst h
    go_enter Try.func184, Try.ntmps184
    go_wp2_with fail
    exact bodyPost_ret (v := .tuple #[.bool false, .bool true, .bool true, .bool false, .bool false, .bool false]) (by simp [results, Try.results184, go_sem]) rfl ⟨by simp [toF, amountF, textF, argsF, sightF, proofF], rfl⟩
  have b2 : (k == 2) = false := beq_eq_false_iff_ne.2 h
  have n2 := h
  clear h
  by_cases h : k = 9
  · subst h
    go_enter Try.func184, Try.ntmps184
    go_wp2_with fail
    exact bodyPost_ret (v := .tuple #[.bool false, .bool false, .bool false, .bool false, .bool true, .bool false]) (by simp [results, Try.results184, go_sem]) rfl ⟨by simp [toF, amountF, textF, argsF, sightF, proofF], rfl⟩
  have b9 : (k == 9) = false := beq_eq_false_iff_ne.2 h
  have n9 := h
  clear h
  by_cases h : k = 10
  · subst h
    go_enter Try.func184, Try.ntmps184
    go_wp2_with fail
    exact bodyPost_ret (v := .tuple #[.bool false, .bool false, .bool false, .bool false, .bool false, .bool true]) (by simp [results, Try.results184, go_sem]) rfl ⟨by simp [toF, amountF, textF, argsF, sightF, proofF], rfl⟩
  have b10 : (k == 10) = false := beq_eq_false_iff_ne.2 h
  have n10 := h
  clear h
  go_enter Try.func184, Try.ntmps184
  go_wp2_with fail
  exact bodyPost_ret (v := .tuple #[.bool false, .bool false, .bool false, .bool false, .bool false, .bool false]) (by simp [results, Try.results184, go_sem]) rfl ⟨by rw [h0.out, h1.out, h2.out, h3.out, h4.out, h5.out, h0.out]; simp [*], rfl⟩
set_option maxRecDepth 100000 in
set_option maxHeartbeats 1000000 in
theorem putsSight_any (l : List SightD) (A : Option Addr) (c B : Nat) (m : Int) (w : World) (g : Nat) (S : Out) (h : Wrt w g S) (hr : SightsL w B A l) (hB : B ≤ g) (hd : ∀ x ∈ l, x.held w B) (hl : S.b.length + 6 + sumL sightW l ≤ 58999999980000) (hm : l.length ≤ maxLen) :
    Calls Try.prog 181 #[.pointer (some ⟨g, 0, none⟩), .slice A l.length c, .int .i64 m, .func (.func 182) #[] #[]] w fun e w' => e = .returned (.tuple #[]) ∧ Wrt w' g (S.list l m Out.sight) ∧ Turned w w' g := by
  unfold maxLen at hm
  have hgt := h.lt
  have hn := ((S.lim l.length m).num_len l.length)
  have hb0 : (S.lim l.length m).b.length = S.b.length := rfl
  have hE : Hid (S.list l m Out.sight = l.foldl Out.sight ((S.lim l.length m).num l.length)) := rfl
  go_enter Try.func181, Try.ntmps181
  go_wp2_with fail
  refine (limited_any _ _ _ g _ h).mono ?_
  rintro e w1 ⟨rfl, hW1, hT1⟩
  go_wp2_with fail
  refine (number_any _ _ g _ hW1 (by omega)).mono ?_
  rintro e w2 ⟨rfl, hW2, hT2⟩
  have hT02 := hT1.trans hT2
  clear hT1 hT2 hW1
  generalize (S.lim l.length m).num l.length = S2 at *
  go_wp2_with fail
  go_loopw [9, 21] (fun _ i wr => ∃ j : Nat, i = .int .i64 (j : Int) ∧ j ≤ l.length ∧ Wrt wr g ((l.take j).foldl Out.sight S2) ∧ Turned w wr g) (fun _ i _ => l.length - (intOf i).toNat)
  case atStart => exact ⟨0, rfl, by omega, by simpa using hW2, hT02⟩
  case round =>
    obtain ⟨j, rfl, hj, hW, hT⟩ := hrel
    have hgw := hW.lt
    by_cases hlt : j < l.length
    · have hji : (j : Int) < (l.length : Int) := by omega
      obtain ⟨b, off, rfl, hbB, hc⟩ := SightsL.at_ (hT.rd hr hB) hlt
      have HS := Lib.hid (fold_take Out.sight S2 l j hlt)
      have hle := fold_len Out.sight sightW Out.sight_len (l.take j) S2
      have hle2 := sumL_take sightW l j hlt
      have hx := (hd l[j] (List.getElem_mem hlt)).below (hT.low.mono hB)
      generalize hxx : l[j] = x at *
      clear hxx
      have c0 : wr.cell? ⟨b, off + j * 16, none⟩ = some (.int .i64 x.header.c) := hc 0 _ rfl
      have c1 : wr.cell? ⟨b, off + j * 16 + 1, none⟩ = some (.int .i64 x.header.h) := hc 1 _ rfl
      have c2 : wr.cell? ⟨b, off + j * 16 + 2, none⟩ = some (.int .u64 x.header.p) := hc 2 _ rfl
      have c3 : wr.cell? ⟨b, off + j * 16 + 3, none⟩ = some (.int .u64 x.header.t) := hc 3 _ rfl
      have c4 : wr.cell? ⟨b, off + j * 16 + 4, none⟩ = some (.int .u64 x.header.g) := hc 4 _ rfl
      have c5 : wr.cell? ⟨b, off + j * 16 + 5, none⟩ = some (.int .u64 x.header.s) := hc 5 _ rfl
      have c6 : wr.cell? ⟨b, off + j * 16 + 6, none⟩ = some (.int .u64 x.header.r) := hc 6 _ rfl
      have c7 : wr.cell? ⟨b, off + j * 16 + 7, none⟩ = some (.int .u64 x.header.b) := hc 7 _ rfl
      have c8 : wr.cell? ⟨b, off + j * 16 + 8, none⟩ = some (.int .i64 x.header.o) := hc 8 _ rfl
      have c9 : wr.cell? ⟨b, off + j * 16 + 9, none⟩ = some (.int .i64 x.cert.h) := hc 9 _ rfl
      have c10 : wr.cell? ⟨b, off + j * 16 + 10, none⟩ = some (.int .i64 x.cert.r) := hc 10 _ rfl
      have c11 : wr.cell? ⟨b, off + j * 16 + 11, none⟩ = some (.int .i64 x.cert.s) := hc 11 _ rfl
      have c12 : wr.cell? ⟨b, off + j * 16 + 12, none⟩ = some (.bool x.cert.has) := hc 12 _ rfl
      have c13 : wr.cell? ⟨b, off + j * 16 + 13, none⟩ = some (.int .u64 x.cert.b) := hc 13 _ rfl
      have c14 : wr.cell? ⟨b, off + j * 16 + 14, none⟩ = some (.slice x.cert.fa x.cert.froms.length x.cert.fc) := hc 14 _ rfl
      have c15 : wr.cell? ⟨b, off + j * 16 + 15, none⟩ = some (.slice x.sa x.seats.length x.sc) := hc 15 _ rfl
      clear hc
      go_wp2_with fail
      refine (wsight_any x B _ g _ (hW.alloc _) (by unfold sightW at *; omega) (hx.below ((Below.refl B wr).alloc (by omega) _)) hB).mono ?_
      rintro e w3 ⟨rfl, hW3, hT3⟩
      go_wp2_with fail
      go_roundw
      case rel => exact ⟨j + 1, by go_num, by omega, by rw [HS.out]; exact hW3, (hT.alloc (Nat.le_of_lt hgw) _).trans hT3⟩
      case measure => simp [intOf]; omega
    · have hji : ¬ (j : Int) < (l.length : Int) := by omega
      go_wp2
      go_end0
      rw [List.take_of_length_le (by omega)] at hW
      exact ⟨rfl, by rw [hE.out]; exact hW, hT⟩
set_option maxRecDepth 100000 in
set_option maxHeartbeats 1000000 in
theorem putsProof_any (l : List ProofD) (A : Option Addr) (c B : Nat) (m : Int) (w : World) (g : Nat) (S : Out) (h : Wrt w g S) (hr : ProofsL w B A l) (hB : B ≤ g) (hd : ∀ x ∈ l, x.held w B) (hl : S.b.length + 6 + sumL proofW l ≤ 58999999980000) (hm : l.length ≤ maxLen) :
    Calls Try.prog 183 #[.pointer (some ⟨g, 0, none⟩), .slice A l.length c, .int .i64 m, .func (.func 161) #[] #[]] w fun e w' => e = .returned (.tuple #[]) ∧ Wrt w' g (S.list l m Out.proof) ∧ Turned w w' g := by
  unfold maxLen at hm
  have hgt := h.lt
  have hn := ((S.lim l.length m).num_len l.length)
  have hb0 : (S.lim l.length m).b.length = S.b.length := rfl
  have hE : Hid (S.list l m Out.proof = l.foldl Out.proof ((S.lim l.length m).num l.length)) := rfl
  go_enter Try.func183, Try.ntmps183
  go_wp2_with fail
  refine (limited_any _ _ _ g _ h).mono ?_
  rintro e w1 ⟨rfl, hW1, hT1⟩
  go_wp2_with fail
  refine (number_any _ _ g _ hW1 (by omega)).mono ?_
  rintro e w2 ⟨rfl, hW2, hT2⟩
  have hT02 := hT1.trans hT2
  clear hT1 hT2 hW1
  generalize (S.lim l.length m).num l.length = S2 at *
  go_wp2_with fail
  go_loopw [9, 21] (fun _ i wr => ∃ j : Nat, i = .int .i64 (j : Int) ∧ j ≤ l.length ∧ Wrt wr g ((l.take j).foldl Out.proof S2) ∧ Turned w wr g) (fun _ i _ => l.length - (intOf i).toNat)
  case atStart => exact ⟨0, rfl, by omega, by simpa using hW2, hT02⟩
  case round =>
    obtain ⟨j, rfl, hj, hW, hT⟩ := hrel
    have hgw := hW.lt
    by_cases hlt : j < l.length
    · have hji : (j : Int) < (l.length : Int) := by omega
      obtain ⟨b, off, rfl, hbB, hc⟩ := ProofsL.at_ (hT.rd hr hB) hlt
      have HS := Lib.hid (fold_take Out.proof S2 l j hlt)
      have hle := fold_len Out.proof proofW Out.proof_lenW (l.take j) S2
      have hle2 := sumL_take proofW l j hlt
      have hx := (hd l[j] (List.getElem_mem hlt)).below (hT.low.mono hB)
      generalize hxx : l[j] = x at *
      clear hxx
      have c0 : wr.cell? ⟨b, off + j * 4, none⟩ = some (.slice x.ta x.turns.length x.tc) := hc 0 _ rfl
      have c1 : wr.cell? ⟨b, off + j * 4 + 1, none⟩ = some (.bool x.leaf) := hc 1 _ rfl
      have c2 : wr.cell? ⟨b, off + j * 4 + 2, none⟩ = some (.string (bs x.key)) := hc 2 _ rfl
      have c3 : wr.cell? ⟨b, off + j * 4 + 3, none⟩ = some (.string (bs x.value)) := hc 3 _ rfl
      clear hc
      go_wp2_with fail
      refine (wproof_any x B _ g _ (hW.alloc _) (by unfold proofW at *; omega) (hx.below ((Below.refl B wr).alloc (by omega) _)) hB).mono ?_
      rintro e w3 ⟨rfl, hW3, hT3⟩
      go_wp2_with fail
      go_roundw
      case rel => exact ⟨j + 1, by go_num, by omega, by rw [HS.out]; exact hW3, (hT.alloc (Nat.le_of_lt hgw) _).trans hT3⟩
      case measure => simp [intOf]; omega
    · have hji : ¬ (j : Int) < (l.length : Int) := by omega
      go_wp2
      go_end0
      rw [List.take_of_length_le (by omega)] at hW
      exact ⟨rfl, by rw [hE.out]; exact hW, hT⟩
end Go.Proofs.Ytjjkdmngmopjbaa
