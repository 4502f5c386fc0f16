/- Of the texts Trie0. -/
import Derived.Test.YtjjkdmngmopjbaaProg
import Derived.Test.YtjjkdmngmopjbaaG15
import Derived.Laws.ResultCell
set_option linter.unusedSimpArgs false
set_option linter.unusedVariables false
namespace Go.Proofs.Ytjjkdmngmopjbaa
open Go.RowKit
/-- an image: a tag, and parts that lie in memory -/
def IsImg (base : Nat) (w : World) (v : Value) (tag : Int) (ps : List (List UInt8)) : Prop := ∃ A c, v = .agg #[.int .i64 tag, .slice A ps.length c] ∧ Strs w w.heap.size A ps ∧ From base A
theorem IsImg.below {base : Nat} {w w' : World} {v : Value} {tag : Int} {ps : List (List UInt8)} (h : IsImg base w v tag ps) (hb : Below w.heap.size w w') : IsImg base w' v tag ps := by
  obtain ⟨A, c, e, hs, hf⟩ := h
  exact ⟨A, c, e, (Rd.below hs hb).more hb.size, hf⟩
theorem from_some {base b off : Nat} (h : base ≤ b) : From base (some ⟨b, off, none⟩) := fun b' off' e => by
  simp only [Option.some.injEq, Addr.mk.injEq, and_true] at e; omega
theorem from_none (base : Nat) : From base none := fun b off e => by cases e
theorem Strs.laid {w : World} {t : TypeId} (ps : List (List UInt8)) : Strs (w.alloc (.cells (ps.map fun p => Value.string (bs p)).toArray t)) (w.heap.size + 1) (some ⟨w.heap.size, 0, none⟩) ps := by
  have := Rd.laid w (ps.map fun p => Value.string (bs p)).toArray t 1 ps.length (by simp)
  simpa [Strs] using this
set_option maxRecDepth 100000 in
theorem ofImage_any (wd tag : Int) (ps : List (List UInt8)) (A : Option Addr) (c B : Nat) (w : World) (h : Strs w B A ps) (hB : B ≤ w.heap.size) (hl : ps.length ≤ maxLen) (hsh : Short ps) :
    Calls Try.prog 46 #[.int .i64 wd, .agg #[.int .i64 tag, .slice A ps.length c]] w fun e w' => e = .returned (.int .u64 (ofS wd tag ps)) ∧ Below w.heap.size w w' := by
  go_enter Try.func46, Try.ntmps46
  go_wp2_with (go_at_call 74; refine (of_any wd tag ps A c B _ (by exact Rd.alloc h hB _) (by simp; omega) hl hsh).mono ?_; rintro e w1 ⟨rfl, hb1⟩)
  go_ret
  exact ⟨rfl, ((Below.refl _ _).alloc (Nat.le_refl _) _).trans (hb1.mono (by simp))⟩
set_option maxRecDepth 100000 in
theorem rimageDigest_any (wd tag : Int) (ps : List (List UInt8)) (A : Option Addr) (c B : Nat) (w : World) (h : Strs w B A ps) (hB : B ≤ w.heap.size) (hl : ps.length ≤ maxLen) (hsh : Short ps) :
    Calls Try.prog 62 #[.int .i64 wd, .agg #[.int .i64 tag, .slice A ps.length c]] w fun e w' => e = .returned (.int .u64 (ofS wd tag ps)) ∧ Below w.heap.size w w' := by
  go_enter Try.func62, Try.ntmps62
  go_wp2_with (go_at_call 76; refine (rof_any wd tag ps A c B _ (by exact Rd.alloc h hB _) (by simp; omega) hl hsh).mono ?_; rintro e w1 ⟨rfl, hb1⟩)
  go_ret
  exact ⟨rfl, ((Below.refl _ _).alloc (Nat.le_refl _) _).trans (hb1.mono (by simp))⟩
set_option maxRecDepth 100000 in
theorem entry_any (k v : List UInt8) (w : World) :
    Calls Try.prog 104 #[.string (bs k), .string (bs v)] w fun e w' => ∃ x, e = .returned x ∧ IsImg w.heap.size w' x 3 [k, v] ∧ Below w.heap.size w w' := by
  go_enter Try.func104, Try.ntmps104
  go_wp2
  refine bodyPost_ret (v := .agg #[.int .i64 3, .slice (some ⟨w.heap.size + 1, 0, none⟩) 2 2]) (by simp [results, Try.results104, go_sem]) rfl ⟨_, rfl, ⟨_, _, rfl, ?_, from_some (by omega)⟩, ((Below.refl _ _).alloc (Nat.le_refl _) _).alloc (by simp) _⟩
  have := Strs.laid (w := w.alloc (.cells #[.int .i64 3, .slice (some ⟨w.heap.size + 1, 0, none⟩) 2 2] 106)) (t := 9) [k, v]
  simpa using this
set_option maxRecDepth 100000 in
theorem fork_any (n a b : Int) (w : World) (ha0 : 0 ≤ a) (ha1 : a < 18446744073709551616) (hb0 : 0 ≤ b) (hb1 : b < 18446744073709551616) :
    Calls Try.prog 134 #[.int .i64 n, .int .u64 a, .int .u64 b] w fun e w' => ∃ x, e = .returned x ∧ IsImg w.heap.size w' x 4 [be n 5, be a 8, be b 8] ∧ Below w.heap.size w w' := by
  go_enter Try.func134, Try.ntmps134
  go_wp2_with fail
  refine (five_any n _).mono ?_
  rintro e w1 ⟨rfl, h1⟩
  go_wp2_with fail
  refine (eight_any a _ ha0 ha1).mono ?_
  rintro e w2 ⟨rfl, h2⟩
  go_wp2_with fail
  refine (eight_any b _ hb0 hb1).mono ?_
  rintro e w3 ⟨rfl, h3⟩
  have h12 := h1.trans (h2.mono h1.size)
  have h13 := h12.trans (h3.mono h12.size)
  have hs := h13.size
  simp at hs
  have hblk := blk_laid h13 (by simp)
  have hc0 := hblk.cell_a 0 _ rfl
  have hc1 := hblk.cell_a 1 _ rfl
  have hf0 := hblk.frozen_a 0
  have hf1 := hblk.frozen_a 1
  go_wp2
  have hB2 := ((hblk.alloc (.cells #[.string (bs (be n 5)), .string (bs (be a 8)), .string (bs (be b 8))] 9)).set_ 0 (.int .i64 4)).set_ 1 (.slice (some ⟨w3.heap.size, 0, none⟩) 3 3)
  have q0 := (hB2.cell 0).trans (show _ = some (.int .i64 4) from rfl)
  have q1 := (hB2.cell 1).trans (show _ = some (.slice (some ⟨w3.heap.size, 0, none⟩) 3 3) from rfl)
  refine bodyPost_ret (v := .agg #[.int .i64 4, .slice (some ⟨w3.heap.size, 0, none⟩) 3 3]) (by simp [results, Try.results134, go_sem, q0, q1]) rfl ⟨_, rfl, ⟨_, _, rfl, ?_, from_some (by omega)⟩, ?_⟩
  · have h9 := Strs.laid (w := w3) (t := 9) [be n 5, be a 8, be b 8]
    have h10 := (Rd.setCell' h9 (p := ⟨w.heap.size, 0, none⟩) (by simp; omega) (.int .i64 4))
    have h11 := (Rd.setCell' h10 (p := ⟨w.heap.size, 1, none⟩) (by simp; omega) (.slice (some ⟨w3.heap.size, 0, none⟩) 3 3))
    exact Rd.more h11 (by simp [World.setCell])
  · exact (((((Below.refl _ _).alloc (Nat.le_refl _) _).trans (h13.mono (by simp))).alloc (by omega) _).setCell (Nat.le_refl _) _).setCell (Nat.le_refl _) _
set_option maxRecDepth 100000 in
theorem wholeNo_any (a : Int) (w : World) :
    Calls Try.prog 60 #[.int .u64 a, .bool false] w fun e w' => ∃ x, e = .returned x ∧ IsImg w.heap.size w' x 5 [] ∧ Below w.heap.size w w' := by
  go_enter Try.func60, Try.ntmps60
  go_wp2
  exact bodyPost_ret (v := .agg #[.int .i64 5, .slice none 0 0]) (by simp [results, Try.results60, go_sem]) rfl ⟨_, rfl, ⟨_, _, rfl, Rd.nil _ _ _ _, from_none _⟩, (Below.refl _ _).alloc (Nat.le_refl _) _⟩
set_option maxRecDepth 100000 in
theorem wholeYes_any (a : Int) (w : World) (ha0 : 0 ≤ a) (ha1 : a < 18446744073709551616) :
    Calls Try.prog 60 #[.int .u64 a, .bool true] w fun e w' => ∃ x, e = .returned x ∧ IsImg w.heap.size w' x 5 [be a 8] ∧ Below w.heap.size w w' := by
  go_enter Try.func60, Try.ntmps60
  go_wp2_with fail
  refine (eight_any a _ ha0 ha1).mono ?_
  rintro e w3 ⟨rfl, h13⟩
  have hs := h13.size
  simp at hs
  have hblk := blk_laid h13 (by simp)
  have hc0 := hblk.cell_a 0 _ rfl
  have hc1 := hblk.cell_a 1 _ rfl
  have hf0 := hblk.frozen_a 0
  have hf1 := hblk.frozen_a 1
  go_wp2
  have hB2 := ((hblk.alloc (.cells #[.string (bs (be a 8))] 9)).set_ 0 (.int .i64 5)).set_ 1 (.slice (some ⟨w3.heap.size, 0, none⟩) 1 1)
  have q0 := (hB2.cell 0).trans (show _ = some (.int .i64 5) from rfl)
  have q1 := (hB2.cell 1).trans (show _ = some (.slice (some ⟨w3.heap.size, 0, none⟩) 1 1) from rfl)
  refine bodyPost_ret (v := .agg #[.int .i64 5, .slice (some ⟨w3.heap.size, 0, none⟩) 1 1]) (by simp [results, Try.results60, go_sem, q0, q1]) rfl ⟨_, rfl, ⟨_, _, rfl, ?_, from_some (by omega)⟩, ?_⟩
  · have h9 := Strs.laid (w := w3) (t := 9) [be a 8]
    have h10 := (Rd.setCell' h9 (p := ⟨w.heap.size, 0, none⟩) (by simp; omega) (.int .i64 5))
    have h11 := (Rd.setCell' h10 (p := ⟨w.heap.size, 1, none⟩) (by simp; omega) (.slice (some ⟨w3.heap.size, 0, none⟩) 1 1))
    exact Rd.more h11 (by simp [World.setCell])
  · exact (((((Below.refl _ _).alloc (Nat.le_refl _) _).trans (h13.mono (by simp))).alloc (by omega) _).setCell (Nat.le_refl _) _).setCell (Nat.le_refl _) _
set_option maxRecDepth 100000 in
theorem rwholeNo_any (a : Int) (w : World) :
    Calls Try.prog 61 #[.int .u64 a, .bool false] w fun e w' => ∃ x, e = .returned x ∧ IsImg w.heap.size w' x 5 [] ∧ Below w.heap.size w w' := by
  go_enter Try.func61, Try.ntmps61
  go_wp2
  exact bodyPost_ret (v := .agg #[.int .i64 5, .slice none 0 0]) (by simp [results, Try.results61, go_sem]) rfl ⟨_, rfl, ⟨_, _, rfl, Rd.nil _ _ _ _, from_none _⟩, (Below.refl _ _).alloc (Nat.le_refl _) _⟩
set_option maxRecDepth 100000 in
theorem rwholeYes_any (a : Int) (w : World) (ha0 : 0 ≤ a) (ha1 : a < 18446744073709551616) :
    Calls Try.prog 61 #[.int .u64 a, .bool true] w fun e w' => ∃ x, e = .returned x ∧ IsImg w.heap.size w' x 5 [be a 8] ∧ Below w.heap.size w w' := by
  go_enter Try.func61, Try.ntmps61
  go_wp2_with fail
  refine (reight_any a _ ha0 ha1).mono ?_
  rintro e w3 ⟨rfl, h13⟩
  have hs := h13.size
  simp at hs
  have hblk := blk_laid h13 (by simp)
  have hc0 := hblk.cell_a 0 _ rfl
  have hc1 := hblk.cell_a 1 _ rfl
  have hf0 := hblk.frozen_a 0
  have hf1 := hblk.frozen_a 1
  go_wp2
  have hB2 := ((hblk.alloc (.cells #[.string (bs (be a 8))] 9)).set_ 0 (.int .i64 5)).set_ 1 (.slice (some ⟨w3.heap.size, 0, none⟩) 1 1)
  have q0 := (hB2.cell 0).trans (show _ = some (.int .i64 5) from rfl)
  have q1 := (hB2.cell 1).trans (show _ = some (.slice (some ⟨w3.heap.size, 0, none⟩) 1 1) from rfl)
  refine bodyPost_ret (v := .agg #[.int .i64 5, .slice (some ⟨w3.heap.size, 0, none⟩) 1 1]) (by simp [results, Try.results61, go_sem, q0, q1]) rfl ⟨_, rfl, ⟨_, _, rfl, ?_, from_some (by omega)⟩, ?_⟩
  · have h9 := Strs.laid (w := w3) (t := 9) [be a 8]
    have h10 := (Rd.setCell' h9 (p := ⟨w.heap.size, 0, none⟩) (by simp; omega) (.int .i64 5))
    have h11 := (Rd.setCell' h10 (p := ⟨w.heap.size, 1, none⟩) (by simp; omega) (.slice (some ⟨w3.heap.size, 0, none⟩) 1 1))
    exact Rd.more h11 (by simp [World.setCell])
  · exact (((((Below.refl _ _).alloc (Nat.le_refl _) _).trans (h13.mono (by simp))).alloc (by omega) _).setCell (Nat.le_refl _) _).setCell (Nat.le_refl _) _
structure Nod where
  kind : Int
  key : List UInt8
  value : List UInt8
  pos : Int
  left : Int
  right : Int
def nodCells (n : Nod) : Array Value := #[.int .i64 n.kind, .string (bs n.key), .string (bs n.value), .int .i64 n.pos, .int .u64 n.left, .int .u64 n.right]
def Nod.ok (n : Nod) : Prop := (0 ≤ n.left ∧ n.left < 18446744073709551616) ∧ (0 ≤ n.right ∧ n.right < 18446744073709551616) ∧ n.key.length ≤ maxLen ∧ n.value.length ≤ maxLen
def overS (w : Int) (n : Nod) : Int := if n.kind == 2 then ofS w 4 [be n.pos 5, be n.left 8, be n.right 8] else ofS w 3 [n.key, n.value]
def topS (w : Int) (n : Nod) : Int := if n.kind == 0 then ofS w 5 [] else ofS w 5 [be (overS w n) 8]
theorem strs2 (w : World) (t : TypeId) (a b : List UInt8) : Strs (w.alloc (.cells #[.string (bs a), .string (bs b)] t)) (w.heap.size + 1) (some ⟨w.heap.size, 0, none⟩) [a, b] := Strs.laid (w := w) (t := t) [a, b]
theorem strs3 (w : World) (t : TypeId) (a b c : List UInt8) : Strs (w.alloc (.cells #[.string (bs a), .string (bs b), .string (bs c)] t)) (w.heap.size + 1) (some ⟨w.heap.size, 0, none⟩) [a, b, c] := Strs.laid (w := w) (t := t) [a, b, c]
theorem strs1 (w : World) (t : TypeId) (a : List UInt8) : Strs (w.alloc (.cells #[.string (bs a)] t)) (w.heap.size + 1) (some ⟨w.heap.size, 0, none⟩) [a] := Strs.laid (w := w) (t := t) [a]
theorem be5_short (n : Int) : (be n 5).length ≤ maxLen := by rw [be_len]; simp [maxLen]
theorem short3 (n a b : Int) : Short [be n 5, be a 8, be b 8] := by
  intro p hp; simp at hp; rcases hp with rfl | rfl | rfl <;> rw [be_len] <;> simp [maxLen]
theorem short1 (a : Int) : Short [be a 8] := by
  intro p hp; simp at hp; subst hp; exact be8_short _
theorem short2 {k v : List UInt8} (hk : k.length ≤ maxLen) (hv : v.length ≤ maxLen) : Short [k, v] := by
  intro p hp; simp at hp; rcases hp with rfl | rfl <;> assumption
theorem overS_bd (w : Int) (n : Nod) : 0 ≤ overS w n ∧ overS w n ≤ 18446744073709551615 := by unfold overS; split <;> exact ofS_bd _ _ _
end Go.Proofs.Ytjjkdmngmopjbaa
