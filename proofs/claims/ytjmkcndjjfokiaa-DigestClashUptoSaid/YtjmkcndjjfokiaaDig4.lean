/- Paths of lists: what package digest's and the reference's PathOf compute. -/
import Derived.Test.YtjmkcndjjfokiaaProg
import Derived.Test.YtjmkcndjjfokiaaDig3
import Derived.Test.YtjmkcndjjfokiaaApp
namespace Go.Proofs.Ytjmkcndjjfokiaa
open Go.RowKit
def pathF : Nat → Int → List (List UInt8) → Nat → List Int
  | 0, _, _, _ => []
  | f + 1, w, l, at' => if l.length < 2 then [] else
    if at' < halfS l.length then aboveS w (l.drop (halfS l.length)) :: pathF f w (l.take (halfS l.length)) at'
    else aboveS w (l.take (halfS l.length)) :: pathF f w (l.drop (halfS l.length)) (at' - halfS l.length)
theorem pathF_end (f : Nat) (w : Int) (l : List (List UInt8)) (a : Nat) (h : l.length < 2) : pathF f w l a = [] := by
  cases f with
  | zero => rfl
  | succ f => simp [pathF, h]
theorem pathF_left (f : Nat) (w : Int) (l : List (List UInt8)) (a : Nat) (hf : l.length ≤ f) (h : 2 ≤ l.length) (ha : a < halfS l.length) :
    pathF f w l a = aboveS w (l.drop (halfS l.length)) :: pathF (f - 1) w (l.take (halfS l.length)) a := by
  cases f with
  | zero => omega
  | succ f => rw [pathF, if_neg (by omega), if_pos ha]; rfl
theorem pathF_right (f : Nat) (w : Int) (l : List (List UInt8)) (a : Nat) (hf : l.length ≤ f) (h : 2 ≤ l.length) (ha : ¬ a < halfS l.length) :
    pathF f w l a = aboveS w (l.take (halfS l.length)) :: pathF (f - 1) w (l.drop (halfS l.length)) (a - halfS l.length) := by
  cases f with
  | zero => omega
  | succ f => rw [pathF, if_neg (by omega), if_neg ha]; rfl
theorem pathF_bd : ∀ (f : Nat) (w : Int) (l : List (List UInt8)) (a : Nat), (pathF f w l a).length ≤ f ∧ ∀ d ∈ pathF f w l a, 0 ≤ d ∧ d < 18446744073709551616
  | 0, w, l, a => ⟨by simp [pathF], fun d hd => by simp [pathF] at hd⟩
  | f + 1, w, l, a => by
    have i1 := pathF_bd f w (l.take (halfS l.length)) a
    have i2 := pathF_bd f w (l.drop (halfS l.length)) (a - halfS l.length)
    rw [pathF]
    by_cases h : l.length < 2
    · rw [if_pos h]; simp
    · rw [if_neg h]
      by_cases h2 : a < halfS l.length
      · rw [if_pos h2]
        refine ⟨by simp; omega, fun d hd => ?_⟩
        rcases List.mem_cons.1 hd with rfl | hd
        · exact aboveS_bd _ _
        · exact i1.2 d hd
      · rw [if_neg h2]
        refine ⟨by simp; omega, fun d hd => ?_⟩
        rcases List.mem_cons.1 hd with rfl | hd
        · exact aboveS_bd _ _
        · exact i2.2 d hd
def pathS (w : Int) (l : List (List UInt8)) (a : Nat) : List Int := pathF l.length w l a
def digs (l : List Int) : List Value := l.map fun d => .int .u64 d
/-- a path: two numbers, and sides that lie in memory -/
def IsPath (base : Nat) (w : World) (v : Value) (n a : Int) (ds : List Int) : Prop := ∃ A c, v = .agg #[.int .i64 n, .int .i64 a, .slice A ds.length c] ∧ Rd w w.heap.size 1 A ds.length (digs ds) ∧ From base A
theorem own_from {w : World} {base : Nat} {e : TypeId} {size n c : Nat} {A : Option Addr} {xs : List Value} (h : w.ownsRow base e size (.slice A n c) n xs) : From base A := by
  rcases h.2 with ⟨e, h0⟩ | ⟨g, cap, cur, e, hg, _⟩
  · simp only [Value.slice.injEq] at e
    rw [e.1]; exact from_none _
  · simp only [Value.slice.injEq] at e
    rw [e.1]; exact from_some hg
set_option maxRecDepth 100000 in
theorem path_bad (wd at' : Int) (l : List (List UInt8)) (A : Option Addr) (c : Nat) (w : World) (hl : l.length ≤ 65536) (ha : at' < 0 ∨ (l.length : Int) ≤ at') :
    Calls Try.prog 22 #[.int .i64 wd, .slice A l.length c, .int .i64 at'] w fun e w' => e = .returned (.tuple #[.agg #[.int .i64 0, .int .i64 0, .slice none 0 0], .int .i64 30]) ∧ Below w.heap.size w w' := by
  have hZ := Blk.new w 37 #[.int .i64 0, .int .i64 0, .slice none 0 0]
  have q0 := (hZ.cell 0).trans (show _ = some (.int .i64 0) from rfl)
  have q1 := (hZ.cell 1).trans (show _ = some (.int .i64 0) from rfl)
  have q2 := (hZ.cell 2).trans (show _ = some (.slice none 0 0) from rfl)
  by_cases h0 : at' < 0
  · go_enter Try.func22, Try.ntmps22
    go_wp2
    exact bodyPost_ret (v := .tuple #[.agg #[.int .i64 0, .int .i64 0, .slice none 0 0], .int .i64 30]) (by simp [results, Try.results22, go_sem, q0, q1, q2]) rfl ⟨rfl, (Below.refl _ _).alloc (Nat.le_refl _) _⟩
  · have ha' : (l.length : Int) ≤ at' := by omega
    go_enter Try.func22, Try.ntmps22
    go_wp2
    exact bodyPost_ret (v := .tuple #[.agg #[.int .i64 0, .int .i64 0, .slice none 0 0], .int .i64 30]) (by simp [results, Try.results22, go_sem, q0, q1, q2]) rfl ⟨rfl, (Below.refl _ _).alloc (Nat.le_refl _) _⟩
theorem Strs.mid {w : World} {B b off : Nat} {l : List (List UInt8)} (h : Strs w B (some ⟨b, off, none⟩) l) {lo hi : Nat} (h1 : lo < hi) (h2 : hi ≤ l.length) : Strs w B (some ⟨b, off + lo, none⟩) ((l.take hi).drop lo) :=
  Strs.cut_lt (Strs.take h h2) (by rw [List.length_take]; omega)
theorem mid_length {α : Type} (l : List α) {lo hi : Nat} (h2 : hi ≤ l.length) : ((l.take hi).drop lo).length = hi - lo := by rw [List.length_drop, List.length_take]; omega
theorem mid_drop {α : Type} (l : List α) (lo hi k : Nat) : ((l.take hi).drop lo).drop k = (l.take hi).drop (lo + k) := by rw [List.drop_drop]
theorem mid_take {α : Type} (l : List α) (lo hi k : Nat) (h : lo + k ≤ hi) : ((l.take hi).drop lo).take k = (l.take (lo + k)).drop lo := by rw [List.take_drop, List.take_take, Nat.min_eq_left h]
theorem Short.mid {l : List (List UInt8)} (h : Short l) (lo hi : Nat) : Short ((l.take hi).drop lo) := (h.take hi).drop lo
theorem digs_snoc (l : List Int) (d : Int) : digs (l ++ [d]) = digs l ++ [.int .u64 d] := by simp [digs]
theorem digInfo : (Try.prog.info? 33).map (fun i => (i.zero, i.size, i.bytes)) = some (some (.int .u64 0), 1, 8) := by kernel_rfl
theorem aboveN (wd : Int) (l : List (List UInt8)) (n : Nat) (A : Option Addr) (c B : Nat) (w : World) (hn : l.length = n) (h : Strs w B A l) (hB : B ≤ w.heap.size) (hl : n ≤ 65536) (hsh : Short l) (hc : n ≤ c) (hcm : c ≤ maxLen) :
    Calls Try.prog 85 #[.int .i64 wd, .slice A n c] w fun e w' => e = .returned (.int .u64 (aboveS wd l)) ∧ Below w.heap.size w w' := by
  subst hn; exact above_any wd l A c B w h hB hl hsh hc hcm
end Go.Proofs.Ytjmkcndjjfokiaa
