/- The place at which the keys of a tree part first, by the reference. -/
import Derived.Test.YtjjkdmngmopjbaaProg
import Derived.Test.YtjjkdmngmopjbaaG36
set_option linter.unusedSimpArgs false
set_option linter.unusedVariables false
namespace Go.Proofs.Ytjjkdmngmopjbaa
open Go.RowKit
/-- a slice's part -/
theorem itemCells_split (l : List Ent) (k : Nat) : itemCells l = itemCells (l.take k) ++ itemCells (l.drop k) := by
  rw [← itemCells_append, List.take_append_drop]
theorem itemCells_take (l : List Ent) (k : Nat) (hk : k ≤ l.length) : itemCells (l.take k) = (itemCells l).take (k * 2) := by
  rw [itemCells_split l k, List.take_left' (by rw [itemCells_len, List.length_take]; omega)]
theorem itemCells_drop (l : List Ent) (k : Nat) (hk : k ≤ l.length) : itemCells (l.drop k) = (itemCells l).drop (k * 2) := by
  rw [itemCells_split l k, List.drop_left' (by rw [itemCells_len, List.length_take]; omega)]
theorem ItR.front {w : World} {B : Nat} {A : Option Addr} {l : List Ent} (h : ItR w B A l) {k : Nat} (hk : k ≤ l.length) : ItR w B A (l.take k) := by
  have := Rd.take h hk
  unfold ItR
  rw [itemCells_take l k hk, List.length_take, Nat.min_eq_left hk]
  exact this
theorem ItR.back {w : World} {B b off : Nat} {l : List Ent} (h : ItR w B (some ⟨b, off, none⟩) l) {k : Nat} (hk : k < l.length) : ItR w B (some ⟨b, off + k * 2, none⟩) (l.drop k) := by
  have := Rd.cut_lt h hk
  unfold ItR
  rw [itemCells_drop l k (by omega), List.length_drop]
  exact this
set_option maxRecDepth 100000 in
theorem rfork_any (q z : Nat) (l : List Ent) (A : Option Addr) (c B : Nat) (w : World) (hl : ItR w B A l) (hlen : l.length ≤ 1000000000) (hkl : ∀ x, x ∈ l → x.1.length ≤ 1000000000) (hq : q ≤ 1000000)
    (h1 : ∀ p, p < q → zc l p = 0 ∨ zc l p = l.length) (h2 : zc l q = z) (hz0 : 0 < z) (hzl : z < l.length) :
    Calls Try.prog 68 #[.slice A l.length c] w fun e w' => e = .returned (.tuple #[.int .i64 (q : Int), .int .i64 (z : Int)]) ∧ w = w' := by
  have HK := Lib.hid hkl
  have H1 := Lib.hid h1
  have H2 := Lib.hid h2
  clear hkl h1 h2
  go_enter Try.func68, Try.ntmps68
  go_wp2_with fail
  go_loop [4, 5, 6, 7] (fun x _ _ _ => ∃ p : Nat, x = .int .i64 (p : Int) ∧ p ≤ q) (fun x _ _ _ => q - (intOf x).toNat)
  case atStart => exact ⟨0, rfl, by omega⟩
  case round =>
    obtain ⟨p, rfl, hp⟩ := hrel
    go_wp2_with fail
    go_loop [5, 6, 7] (fun n i _ => ∃ k : Nat, i = .int .i64 (k : Int) ∧ k ≤ l.length ∧ n = .int .i64 ((zc (l.take k) p : Nat) : Int)) (fun _ i _ => l.length - (intOf i).toNat)
    case atStart => exact ⟨0, rfl, by omega, rfl⟩
    case round =>
      obtain ⟨k, rfl, hk, rfl⟩ := hrel
      by_cases hlt : k < l.length
      · have hki : (k : Int) < (l.length : Int) := by omega
        have HT := Lib.hid (zc_take l p k hlt)
        have hzk := zc_le (l.take k) p
        have hzk2 : zc (l.take k) p ≤ 1000000000 := by rw [List.length_take] at hzk; omega
        obtain ⟨xb, xo, rfl, hxb, x0, x1⟩ := hl.at_ hlt
        have hkx := HK.out _ (List.getElem_mem hlt)
        clear hzk
        generalize zc (l.take k) p = Z at *
        generalize l[k] = x at *
        generalize hb : bitB x.1 p = b at *
        have hbn : bitN x.1 p = if b then 1 else 0 := by unfold bitN; rw [hb]
        clear hb x1
        go_wp2_with fail
        refine (rbit_any x.1 p w hkx (by omega)).mono ?_
        rintro e w1 ⟨rfl, rfl⟩
        rw [hbn]
        clear hbn
        cases b
        · have hZ2 : Hid (zc (l.take (k + 1)) p = Z + 1) := HT.out
          clear HT
          simp only [Bool.false_eq_true, if_false]
          go_wp2_with fail
          go_round
          case rel => exact ⟨k + 1, by go_num, by omega, by rw [hZ2.out]; go_num⟩
          case measure => simp [intOf]; omega
        · have hZ2 : Hid (zc (l.take (k + 1)) p = Z) := HT.out
          clear HT
          simp only [if_true]
          go_wp2_with fail
          go_round
          case rel => exact ⟨k + 1, by go_num, by omega, by rw [hZ2.out]⟩
          case measure => simp [intOf]; omega
      · have hki : ¬ (k : Int) < (l.length : Int) := by omega
        have hkk : Hid (zc (l.take k) p = zc l p) := by show _ = _; rw [List.take_of_length_le (by omega)]
        rw [hkk.out]
        clear hkk
        by_cases he : p = q
        · subst he
          rw [H2.out]
          have d1 : decide ((z : Int) > 0) = true := decide_eq_true (by omega)
          have d2 : decide ((z : Int) < (l.length : Int)) = true := decide_eq_true (by omega)
          go_wp2_with fail
          exact bodyPost_ret (v := .tuple #[.int .i64 (p : Int), .int .i64 (z : Int)]) (by simp [results, Try.results68, go_sem]) rfl ⟨rfl, rfl⟩
        · have hpq : p < q := by omega
          rcases H1.out p hpq with e | e
          · rw [e]
            go_wp2_with fail
            go_round
            case rel => exact ⟨p + 1, by go_num, by omega⟩
            case measure => simp [intOf]; omega
          · rw [e]
            have d1 : decide ((l.length : Int) > 0) = true := decide_eq_true (by omega)
            go_wp2_with fail
            all_goals exact ⟨⟨p + 1, by go_num, by omega⟩, by simp [intOf]; omega⟩
end Go.Proofs.Ytjjkdmngmopjbaa
