/- What the laws of digests share: strings that came in, sum, two paths that are alike, PathOf in both its cases. -/
import Derived.Test.YtjmkcndjjfokiaaProg
import Derived.Test.YtjmkcndjjfokiaaFrame
import Derived.Test.YtjmkcndjjfokiaaOpenT
import Derived.Test.YtjmkcndjjfokiaaNodT
import Derived.Test.YtjmkcndjjfokiaaDig5
namespace Go.Proofs.Ytjmkcndjjfokiaa
open Go.RowKit
section
open Go.ChangeShapes Go.WideShapes Go.ChangeAt Go.Deep
variable {H : Type} {enc : TypeId × Value → H} {W : World}
set_option maxRecDepth 100000 in
theorem open_strs {v : Value} {d : DataW H} {p : List MemPlace} (hv : Value.okWide Try.prog W .any 0 23 v) (h : DataW.Trod enc Try.prog W 0 (fun _ => true) true 23 v d p) :
    ∃ A c l, v = .slice A l.length c ∧ l.length ≤ c ∧ c ≤ maxLen ∧ Strs W W.heap.size A l ∧ Short l := by
  obtain ⟨fuel, hf⟩ := h
  obtain ⟨a, len, cap, rfl⟩ := okWide_slice Try.underlying23 hv
  obtain ⟨l, hl⟩ := slOf_of_trod (size := 1) (R := IsStr) Try.underlying23 (by kernel_rfl) (by omega) str_trod _ _ _ hf
  obtain ⟨A, c, e, h1, h2, h3, h4⟩ := hl.flat (fun s => [.string (bs s)]) (fun _ _ hx => hx.1)
  simp [Value.cells] at e
  obtain ⟨rfl, rfl, rfl⟩ := e
  refine ⟨_, _, l, rfl, h1, h2, ?_, fun s hs => ?_⟩
  · rw [flatMap_one] at h3
    exact h3
  · obtain ⟨cs, hc⟩ := h4 s hs
    exact hc.2
end
/-- what 'sum' reckons: lengths, put together as the machine's numbers are -/
def sumW : List (List UInt8) → Int → Int
  | [], n => n
  | s :: r, n => if n ≤ 65536 then sumW r (IntKind.i64.wrap (n + (s.length : Int))) else n
theorem sumW_big (l : List (List UInt8)) (n : Int) (h : ¬ n ≤ 65536) : sumW l n = n := by
  cases l with
  | nil => rfl
  | cons s r => rw [sumW, if_neg h]
theorem sumW_step (l : List (List UInt8)) (k : Nat) (n : Int) (hk : k < l.length) (hn : n ≤ 65536) : sumW (l.drop k) n = sumW (l.drop (k + 1)) (IntKind.i64.wrap (n + (l[k].length : Int))) := by
  rw [List.drop_eq_getElem_cons hk, sumW, if_pos hn]
theorem sumW_end (l : List (List UInt8)) (k : Nat) (n : Int) (h : ¬ (k < l.length ∧ n ≤ 65536)) : sumW (l.drop k) n = n := by
  by_cases hk : k < l.length
  · exact sumW_big _ _ fun hn => h ⟨hk, hn⟩
  · rw [List.drop_eq_nil_of_le (by omega)]; rfl
set_option maxRecDepth 100000 in
theorem sum_any (l : List (List UInt8)) (A : Option Addr) (c B : Nat) (w : World) (h : Strs w B A l) (hl : l.length ≤ maxLen) (hsh : Short l) :
    Calls Try.prog 20 #[.slice A l.length c] w fun e w' => e = .returned (.int .i64 (sumW l (l.length : Int))) ∧ w = w' := by
  have hm : maxLen ≤ 9223372036854775807 := by simp [maxLen]
  go_enter Try.func20, Try.ntmps20
  go_wp2
  go_loop [3, 4] (fun x y => ∃ (n : Int) (k : Nat), x = .int .i64 n ∧ y = .int .i64 (k : Int) ∧ k ≤ l.length ∧ sumW (l.drop k) n = sumW l (l.length : Int)) (fun _ y => l.length - (intOf y).toNat)
  case atStart => exact ⟨l.length, 0, rfl, rfl, by omega, rfl⟩
  case round =>
    obtain ⟨n, k, rfl, rfl, hk, he⟩ := hrel
    have HE := Lib.hid he
    clear he
    by_cases hcont : k < l.length ∧ n ≤ 65536
    · obtain ⟨hlt, hn⟩ := hcont
      obtain ⟨b, off, rfl, hbB, hc0⟩ := Strs.at_ h hlt
      have hs := hsh l[k] (List.getElem_mem hlt)
      have hli : (k : Int) < (l.length : Int) := by omega
      have HS := Lib.hid (sumW_step l k n hlt hn)
      go_wp2
      go_round
      case rel => exact ⟨_, k + 1, rfl, by go_num, by omega, by have e := HS.out.symm.trans HE.out; rwa [IntWalk.i64_left] at e⟩
      case measure => simp [intOf]; omega
    · have HX := Lib.hid (sumW_end l k n hcont)
      by_cases hlt : k < l.length
      · have hli : (k : Int) < (l.length : Int) := by omega
        have hni : ¬ n ≤ 65536 := fun h => hcont ⟨hlt, h⟩
        go_wp2
        go_ret
        exact ⟨ret_int (by rw [← HE.out, HX.out]), rfl⟩
      · have hli : ¬ (k : Int) < (l.length : Int) := by omega
        go_wp2
        go_ret
        exact ⟨ret_int (by rw [← HE.out, HX.out]), rfl⟩
theorem digs_at {w : World} {B : Nat} {A : Option Addr} {ds : List Int} (h : Rd w B 1 A ds.length (digs ds)) {k : Nat} (hk : k < ds.length) : ∃ b off, A = some ⟨b, off, none⟩ ∧ b < B ∧ w.cell? ⟨b, off + k, none⟩ = some (.int .u64 ds[k]) := by
  obtain ⟨b, off, u, rfl, hb, hx, hc⟩ := Rd.at_ (j := 0) h hk (by omega)
  simp [digs, List.getElem?_eq_getElem hk] at hx
  subst hx
  exact ⟨b, off, rfl, hb, by simpa using hc⟩
theorem dpath_all (wd at' : Int) (l : List (List UInt8)) (hl : l.length ≤ 65536) (hsh : Short l) (w : World) (A : Option Addr) (c B : Nat) (h : Strs w B A l) (hB : B ≤ w.heap.size) (hc : l.length ≤ c) (hcm : c ≤ maxLen) (hb : ¬ (0 ≤ at' ∧ at' < (l.length : Int))) :
    Calls Try.prog 22 #[.int .i64 wd, .slice A l.length c, .int .i64 at'] w fun e w' => ∃ v, e = .returned (.tuple #[v, .int .i64 30]) ∧ IsPath w.heap.size w' v 0 0 [] ∧ Below w.heap.size w w' := by
  refine (path_bad wd at' l A c w hl (by omega)).mono ?_
  rintro e w' ⟨rfl, h⟩
  exact ⟨_, rfl, ⟨none, 0, rfl, Rd.nil _ _ _ _, from_none _⟩, h⟩
end Go.Proofs.Ytjmkcndjjfokiaa
