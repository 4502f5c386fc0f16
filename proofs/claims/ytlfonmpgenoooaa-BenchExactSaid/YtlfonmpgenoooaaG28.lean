/- Of the texts Wr2. -/
import Derived.Test.YtlfonmpgenoooaaProg
import Derived.Test.YtlfonmpgenoooaaG27
import Derived.Deep.DeepCutAuto
set_option linter.unusedSimpArgs false
set_option linter.unusedVariables false
namespace Go.Proofs.Ytlfonmpgenoooaa
open Go.RowKit
theorem blen_next (f : Nat) (m : Int) (h : 0 < m) (hf : m < 256 ^ f) : 0 < f ∧ blenF f m = blenF (f - 1) (m / 256) + 1 ∧ m / 256 < 256 ^ (f - 1) := by
 cases f with
 | zero => simp at hf; omega
 | succ f =>
  refine ⟨by omega, by simp [blenF, h], ?_⟩; rw [Int.pow_succ] at hf; show m / 256 < 256 ^ f; generalize (256 : Int) ^ f = q at *; omega
theorem blen_stop (f : Nat) (m : Int) (h : ¬ 0 < m) : blenF f m = 0 := by
 cases f with
 | zero => rfl
 | succ f => simp [blenF, h]
theorem shl8 (k : Nat) (hk : k < 5) : (2 : Int) ^ (8 * k) = 256 ^ k := by
 match k, hk with
 | 0, _ => rfl
 | 1, _ => rfl
 | 2, _ => rfl
 | 3, _ => rfl
 | 4, _ => rfl
theorem be_take (n : Int) (k j : Nat) (h : j < k) : (be n k).take (j + 1) = (be n k).take j ++ [UInt8.ofNat (n / 256 ^ (k - 1 - j) % 256).toNat] := by
 induction k generalizing j with
 | zero => omega
 | succ k ih =>
  cases j with
  | zero => simp [be]
  | succ j =>
   have := ih j (by omega); simp only [be, List.take_succ_cons, List.cons_append]; rw [this]
   congr 4
   rw [show k + 1 - 1 - (j + 1) = k - 1 - j by omega]
set_option maxRecDepth 100000 in
theorem number_any (n : Int) (w : World) (g : Nat) (S : Out) (h : Wrt w g S) (hl : S.b.length ≤ 70368744177000) :
    Calls Try.prog 79 #[.pointer (some ⟨g, 0, none⟩), .int .i64 n] w fun e w' => e = .returned (.tuple #[]) ∧ Wrt w' g (S.num n) ∧ Turned w w' g := by
  obtain ⟨v, hb, ho⟩ := h
  obtain ⟨i0, hi0, hz0, hz1, hz2⟩ := info_parts byteInfo
  have c1 := hb.c 1 rfl
  have f1 := hb.frozen 1
  have hgt := hb.lt
  go_enter Try.func79, Try.ntmps79
  go_upto_region 0 with fail
  go_cut [11] (fun x wc => x = .bool (farN n) ∧ w = wc)
  case first =>
    go_wp2_with fail
    all_goals (go_meet; exact ⟨by simp only [farN]; congr 1; first | (symm; apply decide_eq_true; omega) | (rw [← Bool.decide_or]), rfl⟩)
  case rest =>
    obtain ⟨rfl, rfl⟩ := hcut
    have hV := numV_bd n
    have hE : Hid (S.num n = ⟨S.b ++ numB (numV n), S.far || farN n, S.odd⟩) := rfl
    have hF : Hid (numV n = if farN n then 0 else n) := rfl
    generalize farN n = fr at *
    go_upto_if 11 with fail
    go_cut [1] (fun x wc => x = .int .i64 (numV n) ∧ Blk wc g 98 #[v, .bool (S.far || fr), .bool S.odd] ∧ wc.ownsRow (g + 1) 5 1 v S.b.length (u8s S.b) ∧ Turned w wc g)
    case first =>
      cases fr
      · go_wp2_with fail
        go_meet
        refine ⟨by rw [hF.out]; rfl, by simpa using hb, ho, Turned.refl _ _⟩
      · go_wp2_with fail
        go_meet
        refine ⟨by rw [hF.out]; rfl, by simpa using hb.set_ 1 (.bool true), ownsRow_setCell_below ho (a := ⟨g, 1, none⟩) (by simp) _, (Turned.refl _ _).setCell _ _⟩
    case rest =>
      obtain ⟨rfl, hb1, ho1, hT1⟩ := hcut
      clear hF hb ho c1 f1
      generalize numV n = N at *
      have hgt1 := hb1.lt
      go_wp2_with fail
      go_loop [4, 5] (fun x y => ∃ (k f : Nat) (m : Int), x = .int .i64 (k : Int) ∧ y = .int .i64 m ∧ 0 ≤ m ∧ m < 256 ^ f ∧ k + f = 5 ∧ k + blenF f m = blenF 5 N) (fun _ y => (intOf y).toNat)
      case atStart => exact ⟨0, 5, N, rfl, rfl, hV.1, by simp; omega, rfl, by simp⟩
      case round =>
        obtain ⟨k, f, m, rfl, rfl, h0, h1, h2, h3⟩ := hrel
        have H1 := Lib.hid h1
        have H3 := Lib.hid h3
        clear h1 h3
        by_cases hm : 0 < m
        · obtain ⟨n1, n2, n3⟩ := blen_next f m hm H1.out
          have N2 := Lib.hid n2
          have N3 := Lib.hid n3
          clear n2 n3
          go_wp2_with fail
          go_round
          case rel => exact ⟨k + 1, f - 1, m / 256, by go_num, rfl, by omega, N3.out, by omega, by have := H3.out; rw [N2.out] at this; omega⟩
          case measure => simp [intOf]; omega
        · have hk : k = blenF 5 N := by have := H3.out; rw [blen_stop f m hm] at this; simpa using this
          have hk5 := blenF_le 5 N
          have HK := Lib.hid hk
          clear hk
          rw [← HK.out] at hk5
          have c0 := hb1.c 0 rfl
          have hx := fun (v' : Value) (w' : World) => @wrt_app (wc.alloc (.cells #[.int .u8 (k : Int)] 5)) w' g ⟨S.b, S.far || fr, S.odd⟩ v v' [UInt8.ofNat k] (hb1.alloc _) (ho1.alloc _)
          have hu : u8s [UInt8.ofNat k] = [.int .u8 (k : Int)] := by simp [u8s]; omega
          rw [hu] at hx
          clear hu
          go_wp2_with (first
            | (at_builtin; refine wpList_append_any _ rfl (.tmp 26) (.tmp 29) 96 rfl (g + 1) 5 i0 _ 1 1 Try.underlying96 hi0 hz0 hz1 hz2 rfl (by omega) v S.b.length _ (by rfl) (ho1.alloc _) (wc.heap.size + 1) _ 1 1 [.int .u8 (k : Int)] (by rfl) (Rd.laid wc #[.int .u8 (k : Int)] 5 1 1 rfl) (fun u hu => by simp at hu; subst hu; rfl) (by simp [maxLen]; omega) (by omega) (by simp; omega) ?_
               intro v3 w3 hown3 hg3 hat3
               obtain ⟨A3, n3, rfl⟩ := own_shape hown3
               obtain ⟨hb3, ht3, hW3, hT3⟩ := hx _ w3 hown3 hg3
               have c3 := hb3.c 0 rfl
               have f3 := hb3.frozen 0))
          have hT4 := (hT1.alloc (Nat.le_of_lt hgt1) _).trans hT3
          clear hx hW3 hT3 ht3 c3 f3 c0 hT1 hb1 ho1 hgt1
          generalize hw4 : w3.setCell ⟨g, 0, none⟩ (Value.slice A3 (S.b.length + 1) n3) = w4 at *
          have hb4 : Blk w4 g 98 #[.slice A3 (S.b.length + 1) n3, .bool (S.far || fr), .bool S.odd] := hw4 ▸ hb3.set_ 0 _
          have ho4 : w4.ownsRow (g + 1) 5 1 (.slice A3 (S.b.length + 1) n3) (S.b.length + 1) (u8s S.b ++ [.int .u8 (k : Int)]) := hw4 ▸ ownsRow_setCell_below hown3 (a := ⟨g, 0, none⟩) (by simp) _
          clear hw4 hb3 hown3 hg3 hat3
          generalize Value.slice A3 (S.b.length + 1) n3 = v4 at *
          go_loopw [4] (fun x wr => ∃ (j : Nat) (v : Value), x = .int .i64 ((k - j : Nat) : Int) ∧ j ≤ k ∧ Blk wr g 98 #[v, .bool (S.far || fr), .bool S.odd] ∧ wr.ownsRow (g + 1) 5 1 v (S.b.length + 1 + j) (u8s (S.b ++ UInt8.ofNat k :: (be N k).take j)) ∧ Turned w wr g) (fun x _ => (intOf x).toNat)
          case atStart => exact ⟨0, v4, by simp, by omega, hb4, by simpa [u8s, show ((k : Int) % 256) = k by omega] using ho4, hT4⟩
          case round =>
            clear hb4 ho4 hT4
            obtain ⟨j, v5, rfl, hj, hb5, ho5, hT5⟩ := hrel
            have hgt5 := hb5.lt
            have c5 : wr.drew.cell? ⟨g, 0, none⟩ = some v5 := hb5.c 0 rfl
            by_cases hjk : j < k
            · have hi : (0 : Int) < ((k - j : Nat) : Int) := by omega
              have hkj : k - 1 - j < 5 := by omega
              have hsh : Hid ((2 : Int) ^ (8 * (k - 1 - j)) = 256 ^ (k - 1 - j)) := shl8 _ hkj
              have hbt := Lib.hid (be_take N k j hjk)
              have hbD : Blk wr.drew g 98 #[v5, .bool (S.far || fr), .bool S.odd] := hb5
              have hoD : wr.drew.ownsRow (g + 1) 5 1 v5 (S.b.length + 1 + j) (u8s (S.b ++ UInt8.ofNat k :: (be N k).take j)) := ho5
              have hw1 : IntKind.i64.wrap (((k - j : Nat) : Int) - 1) = ((k - 1 - j : Nat) : Int) := by rw [IntWalk.i64_in _ (by omega)]; omega
              have hw2 : IntKind.i64.wrap (8 * ((k - 1 - j : Nat) : Int)) = ((8 * (k - 1 - j) : Nat) : Int) := by rw [IntWalk.i64_in _ (by omega)]; omega
              have hsz5 : g + 1 ≤ (wr.alloc (.cells #[.int .u8 (IntKind.u8.wrap (N / 2 ^ (8 * ((k - 1 - j : Nat) : Int)).toNat))] 5)).drew.heap.size := by
                show g + 1 ≤ (wr.alloc (.cells #[.int .u8 (IntKind.u8.wrap (N / 2 ^ (8 * ((k - 1 - j : Nat) : Int)).toNat))] 5)).heap.size
                simp; omega
              have c5a : (wr.alloc (.cells #[.int .u8 (IntKind.u8.wrap (N / 2 ^ (8 * ((k - 1 - j : Nat) : Int)).toNat))] 5)).drew.cell? ⟨g, 0, none⟩ = some v5 := ((hb5.alloc _).cell 0).trans (show _ = some v5 from rfl)
              go_wp2_with fail
              go_region_law (first
                | (refine step_append_any _ ?_ (.tmp 41) (.tmp 48) 96 ?_ (g + 1) 5 i0 (.int .u8 0) 1 1 Try.underlying96 hi0 hz0 hz1 hz2 ?_ ?_ v5 (S.b.length + 1 + j) (u8s (S.b ++ UInt8.ofNat k :: (be N k).take j)) ?_ ?_ (wr.heap.size + 1) (some ⟨wr.heap.size, 0, none⟩) 1 1 [.int .u8 (IntKind.u8.wrap (N / 2 ^ (8 * ((k - 1 - j : Nat) : Int)).toNat))] ?_ ?_ ?_ ?_ ?_ ?_ ?_
                   · rfl
                   · rfl
                   · rfl
                   · omega
                   · rfl
                   · exact ho5.alloc _
                   · rfl
                   · exact Rd.laid wr #[.int .u8 (IntKind.u8.wrap (N / 2 ^ (8 * ((k - 1 - j : Nat) : Int)).toNat))] 5 1 1 rfl
                   · intro u hu
                     simp at hu
                     subst hu
                     rfl
                   · simp [maxLen]
                     omega
                   · omega
                   · exact hsz5
                   intro v6 w6 hown6 hg6 hat6
                   obtain ⟨A6, n6, rfl⟩ := own_shape hown6
                   have ho6 : (wr.alloc (.cells #[.int .u8 (IntKind.u8.wrap (N / 2 ^ (8 * ((k - 1 - j : Nat) : Int)).toNat))] 5)).drew.ownsRow (g + 1) 5 1 v5 (S.b.length + 1 + j) (u8s (S.b ++ UInt8.ofNat k :: (be N k).take j)) := ho5.alloc _
                   have hb6 := (hb5.alloc (.cells #[.int .u8 (IntKind.u8.wrap (N / 2 ^ (8 * ((k - 1 - j : Nat) : Int)).toNat))] 5)).drew.grown hg6 (fun e => by have := (ho5.lt g e.symm).1; omega)
                   have hT6 := (hT5.alloc (Nat.le_of_lt hgt5) (.cells #[.int .u8 (IntKind.u8.wrap (N / 2 ^ (8 * ((k - 1 - j : Nat) : Int)).toNat))] 5)).drew.grown ho6 hg6 (by omega) hsz5
                   have c6 := hb6.c 0 rfl
                   have f6 := hb6.frozen 0))
              all_goals
                go_wp2_with fail
                go_roundw
                case rel =>
                  refine ⟨j + 1, _, ?_, by omega, hb6.set_ 0 _, ?_, hT6.setCell _ _⟩
                  · go_num
                  · have ho7 := ownsRow_setCell_below hown6 (a := ⟨g, 0, none⟩) (by simp) (Value.slice A6 (S.b.length + 1 + j + 1) n6)
                    have e9 : u8s (S.b ++ UInt8.ofNat k :: (be N k).take (j + 1)) = u8s (S.b ++ UInt8.ofNat k :: (be N k).take j) ++ [.int .u8 (IntKind.u8.wrap (N / 2 ^ (8 * ((k - 1 - j : Nat) : Int)).toNat))] := by
                      rw [hbt.out, show (8 * ((k - 1 - j : Nat) : Int)).toNat = 8 * (k - 1 - j) by omega, hsh.out]
                      simp [u8s, IntKind.wrap_u8]
                      generalize N / 256 ^ (k - 1 - j) = q
                      omega
                    rw [e9]
                    exact ho7
                case measure => simp [intOf]; omega
            · have hi : ¬ (0 : Int) < ((k - j : Nat) : Int) := by omega
              have hjk' : Hid (j = k) := show j = k by omega
              go_wp2_with fail
              go_end0
              rw [hjk'.out] at ho5
              refine ⟨rfl, ⟨v5, ?_, ?_⟩, hT5⟩
              · rw [hE.out]; exact hb5
              · rw [hE.out]
                rw [List.take_of_length_le (by rw [be_len]; exact Nat.le_refl _)] at ho5
                simpa [numB, ← HK.out, be_len, Nat.add_assoc, Nat.add_comm 1 k] using ho5
set_option maxRecDepth 100000 in
theorem numbers_any (l : List Int) (c : Nat) (w : World) (g k : Nat) (S : Out) (h : Wrt w g S) (hk : Blk w k 3 (l.map (Value.int .i64)).toArray) (hkg : k ≠ g) (hl : S.b.length + 6 * l.length ≤ 70368744177000) :
  Calls Try.prog 68 #[.pointer (some ⟨g, 0, none⟩), .slice (some ⟨k, 0, none⟩) l.length c] w fun e w' => e = .returned (.tuple #[]) ∧ Wrt w' g (S.nums l) ∧ Turned w w' g := by
 go_enter Try.func68, Try.ntmps68; go_wp2
 go_loopw [5, 8] (fun _ i wr => ∃ j : Nat, i = .int .i64 (j : Int) ∧ j ≤ l.length ∧ Wrt wr g (S.nums (l.take j)) ∧ Turned w wr g) (fun _ i _ => l.length - (intOf i).toNat)
 case atStart => exact ⟨0, rfl, by omega, by simpa [Out.nums] using h, Turned.refl _ _⟩
 case round =>
  obtain ⟨j, rfl, hj, hW, hT⟩ := hrel; have hbk := hT.blk hk hkg (by decide)
  by_cases hlt : j < l.length
  ·have hji : (j : Int) < (l.length : Int) := by omega
   have c0 : wr.cell? ⟨k, j, none⟩ = some (.int .i64 l[j]) := (hbk.cell j).trans (by simp [List.getElem?_eq_getElem hlt]); have HS := Lib.hid (S.nums_take l j hlt); have hle := (S.nums_len (l.take j))
   have hle2 : (l.take j).length ≤ j := by simp; omega
   go_wp2_with fail; refine (number_any _ _ g _ hW (by omega)).mono ?_; rintro e w1 ⟨rfl, hW1, hT1⟩; go_wp2_with fail
   go_roundw
   case rel => exact ⟨j + 1, by go_num, by omega, by rw [HS.out]; exact hW1, hT.trans hT1⟩
   case measure => simp [intOf]; omega
  ·have hji : ¬ (j : Int) < (l.length : Int) := by omega
   go_wp2
   go_end0
   rw [List.take_of_length_le (by omega)] at hW; exact ⟨rfl, hW, hT⟩
end Go.Proofs.Ytlfonmpgenoooaa
