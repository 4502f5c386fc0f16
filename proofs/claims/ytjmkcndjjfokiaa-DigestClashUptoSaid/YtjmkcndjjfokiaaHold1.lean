/- What digest.rights computes: the ways down. -/
import Derived.Test.YtjmkcndjjfokiaaProg
import Derived.Test.YtjmkcndjjfokiaaHold0
import Derived.Test.YtjmkcndjjfokiaaApp
namespace Go.Proofs.Ytjmkcndjjfokiaa
open Go.RowKit
theorem riteF_end (f n a : Nat) (h : n < 2) : riteF f n a = [] := by
  cases f with
  | zero => rfl
  | succ f => rw [riteF, if_pos h]
theorem riteF_left (f n a : Nat) (hf : n ≤ f) (h : 2 ≤ n) (ha : a < halfS n) : riteF f n a = false :: riteF (f - 1) (halfS n) a := by
  cases f with
  | zero => omega
  | succ f => rw [riteF, if_neg (by omega), if_pos ha]; rfl
theorem riteF_right (f n a : Nat) (hf : n ≤ f) (h : 2 ≤ n) (ha : ¬ a < halfS n) : riteF f n a = true :: riteF (f - 1) (n - halfS n) (a - halfS n) := by
  cases f with
  | zero => omega
  | succ f => rw [riteF, if_neg (by omega), if_neg ha]; rfl
def boos (l : List Bool) : List Value := l.map fun b => .bool b
theorem boos_snoc (l : List Bool) (b : Bool) : boos (l ++ [b]) = boos l ++ [.bool b] := by simp [boos]
theorem boolInfo : (Try.prog.info? 4).map (fun i => (i.zero, i.size, i.bytes)) = some (some (.bool false), 1, 1) := by kernel_rfl
set_option maxRecDepth 100000 in
theorem rights_no (n a : Int) (w : World) (h : a < 0 ∨ n ≤ a ∨ 1099511627775 < n) :
    Calls Try.prog 147 #[.int .i64 n, .int .i64 a] w fun e w' => e = .returned (.tuple #[.slice none 0 0, .bool false]) ∧ w = w' := by
  by_cases h0 : a < 0
  · go_enter Try.func147, Try.ntmps147
    go_wp2
    exact bodyPost_ret (v := .tuple #[.slice none 0 0, .bool false]) (by simp [results, Try.results147, go_sem]) rfl ⟨rfl, rfl⟩
  · by_cases h1 : n ≤ a
    · go_enter Try.func147, Try.ntmps147
      go_wp2
      exact bodyPost_ret (v := .tuple #[.slice none 0 0, .bool false]) (by simp [results, Try.results147, go_sem]) rfl ⟨rfl, rfl⟩
    · have h2 : 1099511627775 < n := by omega
      go_enter Try.func147, Try.ntmps147
      go_wp2
      exact bodyPost_ret (v := .tuple #[.slice none 0 0, .bool false]) (by simp [results, Try.results147, go_sem]) rfl ⟨rfl, rfl⟩
set_option maxRecDepth 100000 in
set_option maxHeartbeats 1000000 in
theorem rights_any (n a : Nat) (w : World) (ha : a < n) (hn : n ≤ 1099511627775) :
    Calls Try.prog 147 #[.int .i64 n, .int .i64 a] w fun e w' => ∃ v, e = .returned (.tuple #[v, .bool true]) ∧ w'.ownsRow w.heap.size 4 1 v (riteF n n a).length (boos (riteF n n a)) ∧ Below w.heap.size w w' := by
  have h0 : (a : Int) < (n : Int) := by omega
  have h1 : ¬ (n : Int) ≤ (a : Int) := by omega
  have h2 : ¬ (1099511627775 : Int) < (n : Int) := by omega
  obtain ⟨i0, hi0, hz0, hz1, hz2⟩ := info_parts boolInfo
  generalize hrt : riteF n n a = rt
  go_enter Try.func147, Try.ntmps147
  go_wp2
  go_loopw [0, 1, 6] (fun x y z wr => ∃ (m k f : Nat) (pre : List Bool) (v : Value), x = .int .i64 (m : Int) ∧ y = .int .i64 (k : Int) ∧ v = z ∧ k < m ∧ m ≤ f ∧ m ≤ n ∧ pre.length + f ≤ n ∧ pre ++ riteF f m k = rt ∧ wr.ownsRow w.heap.size 4 1 v pre.length (boos pre) ∧ Below w.heap.size w wr) (fun x _ _ _ => (intOf x).toNat)
  case atStart => exact ⟨n, a, n, [], _, rfl, rfl, rfl, ha, Nat.le_refl _, Nat.le_refl _, by simp, hrt, World.ownsRow_nil _ _ _ _, Below.refl _ _⟩
  case round =>
    obtain ⟨m, k, f, pre, v, rfl, rfl, rfl, h3, h4, h5, h6, h7, hown, hb⟩ := hrel
    have H7 := Lib.hid h7
    clear h7
    by_cases hgo : 1 < m
    · have hgi : (1 : Int) < (m : Int) := by omega
      have hhb := halfS_bd m (by omega)
      have hL := riteF_left f m k h4 (by omega)
      have hR := riteF_right f m k h4 (by omega)
      have hsp := half_any m
      generalize halfS m = q at *
      by_cases hlt : k < q
      · have hlti : ¬ (q : Int) ≤ (k : Int) := by omega
        have hdec : decide (q ≤ k) = false := decide_eq_false (by omega)
        have HL := Lib.hid (hL hlt)
        clear hL hR
        go_wp2_with fail
        refine (hsp _ (by omega)).mono ?_
        rintro e w1 ⟨rfl, rfl⟩
        go_wp2_with (first
          | (at_builtin; refine wpList_append_any _ rfl (.tmp 27) (.tmp 29) 230 rfl w.heap.size 4 i0 _ 1 1 Try.underlying230 hi0 hz0 hz1 hz2 rfl (by omega) v pre.length _ (by rfl) (hown.alloc _) (wr.heap.size + 1) _ 1 1 [.bool false] (by rfl) (Rd.laid wr #[.bool false] 4 1 1 rfl) (fun u hu => by simp at hu; subst hu; rfl) (by simp [maxLen]; omega) (by omega) (by have := hb.size; simp; omega) ?_
             intro v3 w3 hown3 hg3 hat3
             have hb3 : Below w.heap.size w w3 := (hb.alloc hb.size _).grown hg3 (by have := hb.size; simp; omega) (own_ge hown)))
        go_roundw
        case rel =>
          refine ⟨q, k, f - 1, pre ++ [false], v3, rfl, rfl, rfl, by omega, by omega, by omega, by simp; omega, ?_, ?_, hb3⟩
          · rw [← H7.out, HL.out, List.append_assoc]; rfl
          · rw [boos_snoc, show (pre ++ [false]).length = pre.length + 1 by simp]
            exact hown3
        case measure => simp [intOf]; omega
      · have hlti : (q : Int) ≤ (k : Int) := by omega
        have hdec : decide (q ≤ k) = true := decide_eq_true (by omega)
        have HL := Lib.hid (hR hlt)
        clear hL hR
        have hw0 : IntKind.i64.wrap ((m : Int) - (q : Int)) = ((m - q : Nat) : Int) := by rw [IntWalk.i64_in _ (by omega)]; omega
        have hw1 : IntKind.i64.wrap ((k : Int) - (q : Int)) = ((k - q : Nat) : Int) := by rw [IntWalk.i64_in _ (by omega)]; omega
        go_wp2_with fail
        refine (hsp _ (by omega)).mono ?_
        rintro e w1 ⟨rfl, rfl⟩
        go_wp2_with (first
          | (at_builtin; refine wpList_append_any _ rfl (.tmp 27) (.tmp 29) 230 rfl w.heap.size 4 i0 _ 1 1 Try.underlying230 hi0 hz0 hz1 hz2 rfl (by omega) v pre.length _ (by rfl) (hown.alloc _) (wr.heap.size + 1) _ 1 1 [.bool true] (by rfl) (Rd.laid wr #[.bool true] 4 1 1 rfl) (fun u hu => by simp at hu; subst hu; rfl) (by simp [maxLen]; omega) (by omega) (by have := hb.size; simp; omega) ?_
             intro v3 w3 hown3 hg3 hat3
             have hb3 : Below w.heap.size w w3 := (hb.alloc hb.size _).grown hg3 (by have := hb.size; simp; omega) (own_ge hown)))
        go_roundw
        case rel =>
          refine ⟨m - q, k - q, f - 1, pre ++ [true], v3, by first | rfl | rw [hw0], by first | rfl | rw [hw1], rfl, by omega, by omega, by omega, by simp; omega, ?_, ?_, hb3⟩
          · rw [← H7.out, HL.out, List.append_assoc]; rfl
          · rw [boos_snoc, show (pre ++ [true]).length = pre.length + 1 by simp]
            exact hown3
        case measure => simp [intOf]; omega
    · have hgi : ¬ (1 : Int) < (m : Int) := by omega
      have hp : rt = pre := by rw [← H7.out, riteF_end _ _ _ (by omega)]; simp
      subst hp
      go_wp2
      exact bodyPost_ret (v := .tuple #[v, .bool true]) (by simp [results, Try.results147, go_sem]) rfl ⟨v, rfl, hown, hb⟩
end Go.Proofs.Ytjmkcndjjfokiaa
