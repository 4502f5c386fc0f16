/- Of the texts Hq2, Hq3, Hq4, Hq5. -/
import Derived.Test.YtlfonmpgenoooaaProg
import Derived.Test.YtlfonmpgenoooaaG18
import Derived.Test.YtlfonmpgenoooaaG19
import Derived.Test.YtlfonmpgenoooaaG05
import Derived.Handy
import Derived.Deep.RegionHeld3
import Derived.Deep.RegionLaw
set_option linter.unusedSimpArgs false
set_option linter.unusedVariables false
namespace Go.Proofs.Ytlfonmpgenoooaa
open Go Go.RowKit Vc
set_option maxRecDepth 100000
theorem meth_of (T f : Nat) (b : Bool) (name : String) (hm : ((Try.prog.info? T).bind fun i => (i.methods.find? (fun x => x.name == name)).map fun m => (m.path, m.func)) = some (#[], some (f, b))) : ∃ m : Method, m.path = #[] ∧ m.func = some (f, b) ∧ (Try.prog.info? T).bind (fun i => i.methods.find? (fun x => x.name == name)) = some m := by
 cases hi : Try.prog.info? T with
 | none => rw [hi] at hm; cases hm
 | some i =>
  rw [hi] at hm; have hm : (i.methods.find? (fun x => x.name == name)).map (fun m => (m.path, m.func)) = some (#[], some (f, b)) := hm; cases hf : i.methods.find? (fun x => x.name == name) with
  | none => rw [hf] at hm; cases hm
  | some m =>
   rw [hf] at hm; injection hm with hm
   injection hm with h1 h2
   exact ⟨m, h1, h2, hf⟩
theorem wrapchk (ts : Array TypeId) (t : TypeId) (a : Addr) (x y : String) : Builtin.ssaWrapNilChk_ ts t #[.pointer (some a), strVal x, strVal y] = pure (.pointer (some a)) := rfl
theorem meth_val (f : Nat) (name : String) (hm : ((Try.prog.info? 41).bind fun i => (i.methods.find? (fun x => x.name == name)).map fun m => (m.path, m.func)) = some (#[], some (f, false))) (g : Nat) (v : Value) (w : World) (h : w.cell? ⟨g, 0, none⟩ = some v) (n : Nat) : Sem.run Try.prog (method (n + 1) 41 (.pointer (some ⟨g, 0, none⟩)) name) w = .ok (f, v) w := by
 unfold method; obtain ⟨m, h1, h2, h3⟩ := meth_of 41 f false name hm; have h3 : Try.t41.methods.find? (fun x => x.name == name) = some m := h3; go_simp; simp only [follow, receiverAt]; go_simp; simp only [Place.get, wrapchk]; go_simp; simp only [wrapchk]; go_simp
theorem meth_ptr (f : Nat) (name : String) (hm : ((Try.prog.info? 41).bind fun i => (i.methods.find? (fun x => x.name == name)).map fun m => (m.path, m.func)) = some (#[], some (f, true))) (g : Nat) (w : World) (n : Nat) : Sem.run Try.prog (method (n + 1) 41 (.pointer (some ⟨g, 0, none⟩)) name) w = .ok (f, .pointer (some ⟨g, 0, none⟩)) w := by
 unfold method; obtain ⟨m, h1, h2, h3⟩ := meth_of 41 f true name hm; have h3 : Try.t41.methods.find? (fun x => x.name == name) = some m := h3; go_simp; simp only [follow, receiverAt]; go_simp; simp only [Place.get]; go_simp
theorem meth_less (g : Nat) (v : Value) (w : World) (h : w.cell? ⟨g, 0, none⟩ = some v) (n : Nat) : Sem.run Try.prog (method (n + 1) 41 (.pointer (some ⟨g, 0, none⟩)) "Less") w = .ok (98, v) w := meth_val _ _ (by kernel_rfl) g v w h n
theorem meth_len (g : Nat) (v : Value) (w : World) (h : w.cell? ⟨g, 0, none⟩ = some v) (n : Nat) : Sem.run Try.prog (method (n + 1) 41 (.pointer (some ⟨g, 0, none⟩)) "Len") w = .ok (97, v) w := meth_val _ _ (by kernel_rfl) g v w h n
theorem meth_swap (g : Nat) (v : Value) (w : World) (h : w.cell? ⟨g, 0, none⟩ = some v) (n : Nat) : Sem.run Try.prog (method (n + 1) 41 (.pointer (some ⟨g, 0, none⟩)) "Swap") w = .ok (99, v) w := meth_val _ _ (by kernel_rfl) g v w h n
theorem meth_push (g : Nat) (w : World) (n : Nat) : Sem.run Try.prog (method (n + 1) 41 (.pointer (some ⟨g, 0, none⟩)) "Push") w = .ok (103, .pointer (some ⟨g, 0, none⟩)) w := meth_ptr _ _ (by kernel_rfl) g w n
theorem meth_pop (g : Nat) (w : World) (n : Nat) : Sem.run Try.prog (method (n + 1) 41 (.pointer (some ⟨g, 0, none⟩)) "Pop") w = .ok (102, .pointer (some ⟨g, 0, none⟩)) w := meth_ptr _ _ (by kernel_rfl) g w n
structure TurnB (w w' : World) (g B : Nat) : Prop where
 low : Below g w w'
 mid : ∀ k, k < B → k ≠ g → w'.heap[k]? = w.heap[k]?
theorem TurnB.refl (w : World) (g B : Nat) : TurnB w w g B := ⟨Below.refl _ _, fun _ _ _ => rfl⟩
theorem TurnB.trans {a b c : World} {g B : Nat} (h : TurnB a b g B) (k : TurnB b c g B) : TurnB a c g B := ⟨h.low.trans k.low, fun i hi hg => (k.mid i hi hg).trans (h.mid i hi hg)⟩
theorem TurnB.size {w w' : World} {g B : Nat} (h : TurnB w w' g B) : w.heap.size ≤ w'.heap.size := h.low.size
theorem TurnB.of_below {w w' : World} {g B n : Nat} (h : Below n w w') (hg : g ≤ n) (hB : B ≤ n) : TurnB w w' g B := ⟨h.mono hg, fun k hk _ => h.block k (by omega)⟩
structure HW (w : World) (g B rb c : Nat) (l : List Seat) : Prop where
 hd : Blk w g 35 #[.slice (some ⟨rb, 0, none⟩) l.length c]
 gB : g < B
 Br : B ≤ rb
 cm : c ≤ maxLen
 lc : l.length ≤ c
 sm : l.length ≤ 8
 row : ∃ cur, Blk w rb 38 cur ∧ cur.size = c * 2 ∧ cur.toList.take (l.length * 2) = seatsCells l
def HV (w : World) (g B : Nat) (l : List Seat) : Prop := g < B ∧ ∃ v, Blk w g 35 #[v] ∧ w.ownsRow B 38 2 v l.length (seatsCells l)
theorem seats_set : ∀ (l : List Seat) (k : Nat) (s : Seat), ((seatsCells l).set (k * 2) (.int .i64 s.who)).set (k * 2 + 1) (.int .i64 s.weight) = seatsCells (l.set k s)
 | [], _, _ => rfl
 | _ :: _, 0, _ => rfl
 | x :: l, k + 1, s => by
  have e : (k + 1) * 2 = k * 2 + 1 + 1 := by omega
  rw [e]; show (Value.int .i64 x.who :: Value.int .i64 x.weight :: ((seatsCells l).set (k * 2) _).set (k * 2 + 1) _) = Value.int .i64 x.who :: Value.int .i64 x.weight :: seatsCells (l.set k s); rw [seats_set]
theorem row_set {w : World} {rb n : Nat} {t : TypeId} {cur : Array Value} {l : List Seat} (hb : Blk w rb t cur) (ht : cur.toList.take n = seatsCells l) (k : Nat) (s : Seat) : ∃ cur', Blk (w.setCells rb (k * 2) (seatCells s)) rb t cur' ∧ cur'.size = cur.size ∧ cur'.toList.take n = seatsCells (l.set k s) := by
 refine ⟨_, (hb.set_ (k * 2) (.int .i64 s.who)).set_ (k * 2 + 1) (.int .i64 s.weight), by rw [Array.size_setIfInBounds, Array.size_setIfInBounds], ?_⟩; rw [Array.toList_setIfInBounds, Array.toList_setIfInBounds, List.take_set, List.take_set, ht, seats_set]
theorem swapW_heap (w : World) (rb i j : Nat) (l : List Seat) (k : Nat) (h : k ≠ rb) : (swapW w rb i j l).heap[k]? = w.heap[k]? := by
 unfold swapW seatCells; simp only [World.setCells]; rw [Below.heap_setCell _ _ _ k (by simpa using h), Below.heap_setCell _ _ _ k (by simpa using h), Below.heap_setCell _ _ _ k (by simpa using h), Below.heap_setCell _ _ _ k (by simpa using h)]; rfl
theorem HW.lt {w : World} {g B rb c : Nat} {l : List Seat} (H : HW w g B rb c l) : rb < w.heap.size := by obtain ⟨cur, h, _⟩ := H.row; exact h.lt
theorem less_hw {w : World} {g B rb c : Nat} {l : List Seat} (H : HW w g B rb c l) {i j : Nat} (hi : i < l.length) (hj : j < l.length) :
  Calls Try.prog 98 #[.slice (some ⟨rb, 0, none⟩) l.length c, .int .i64 i, .int .i64 j] w fun e w' => e = .returned (.bool (better (at7 l j) (at7 l i))) ∧ Below w.heap.size w w' := by
 obtain ⟨cur, hb, hs, ht⟩ := H.row; have hr : Rd w w.heap.size 2 (some ⟨rb, 0, none⟩) l.length (seatsCells l) := by
  refine ⟨seatsCells_length l, fun _ => ⟨rb, 0, rfl, hb.lt, fun k v hv => ?_⟩⟩; rw [Nat.zero_add, hb.cell, ← Array.getElem?_toList]; rw [← ht, List.getElem?_take] at hv; split at hv
  ·exact hv
  ·cases hv
 have h := less_keeps _ [.one .slc, .one (.int .i64), .one (.int .i64)] [.one .bool] Try.func98 (by kernel_rfl) (by kernel_rfl) [.p (some ⟨rb, 0, none⟩), .n l.length, .n c, .i i, .i j, .g l] w rfl ⟨_, c, i, j, l, rfl, hr, hi, hj⟩; refine h.mono ?_; rintro e w' ⟨os, -, rfl, hp, -, hb⟩; have hp := hp _ c i j l rfl; subst hp; exact ⟨rfl, hb⟩
theorem swap_hw {w : World} {g B rb c : Nat} {l : List Seat} (H : HW w g B rb c l) {i j : Nat} (hi : i < l.length) (hj : j < l.length) :
  Calls Try.prog 99 #[.slice (some ⟨rb, 0, none⟩) l.length c, .int .i64 i, .int .i64 j] w fun e w' => e = .returned (.tuple #[]) ∧ HW w' g B rb c (sw l i j) ∧ TurnB w w' g B := by
 obtain ⟨cur, hb, hs, ht⟩ := H.row; have hlc := H.lc; have hsm := H.sm; refine (swap_any l rb c i j cur w hb (by omega) ht hi hj (by omega)).mono ?_; rintro e w' ⟨rfl, rfl⟩; have hgr : g ≠ rb := by have := H.gB; have := H.Br; omega
 have hle : g ≤ rb := by have := H.gB; have := H.Br; omega
 have hlow : Below g w (swapW w rb i j l) := ((((Below.refl g w).drew.setCell (p := ⟨rb, i * 2, none⟩) hle _).setCell (p := ⟨rb, i * 2 + 1, none⟩) hle _).setCell (p := ⟨rb, j * 2, none⟩) hle _).setCell (p := ⟨rb, j * 2 + 1, none⟩) hle _; refine ⟨rfl, ⟨?_, H.gB, H.Br, H.cm, by rw [sw_len]; exact H.lc, by rw [sw_len]; exact H.sm, ?_⟩, ⟨hlow, fun k hk _ => swapW_heap _ _ _ _ _ _ (by have := H.Br; omega)⟩⟩
 ·rw [sw_len]; exact (swapW_heap w rb i j l g hgr).trans H.hd
 ·obtain ⟨c1, b1, z1, t1⟩ := row_set hb.drew ht i (at7 l j); obtain ⟨c2, b2, z2, t2⟩ := row_set b1 t1 j (at7 l i); exact ⟨c2, b2, by rw [z2, z1, hs], by rw [sw_len]; exact t2⟩
theorem len_any7 (A : Option Addr) (n c : Nat) (w : World) : Calls Try.prog 97 #[.slice A n c] w fun e w' => e = .returned (.int .i64 n) ∧ w' = w := by
 go_enter Try.func97, Try.ntmps97; go_wp2; go_ret; exact ⟨rfl, rfl⟩
theorem popm_hw {w : World} {g B rb c : Nat} {l : List Seat} (H : HW w g B rb c l) (hn : 0 < l.length) :
  Calls Try.prog 102 #[.pointer (some ⟨g, 0, none⟩)] w fun e w' => e = .returned (.iface 38 (.agg #[.int .i64 (at7 l (l.length - 1)).who, .int .i64 (at7 l (l.length - 1)).weight])) ∧ HW w' g B rb c (l.take (l.length - 1)) ∧ TurnB w w' g B := by
 obtain ⟨cur, hb, hs, ht⟩ := H.row; have hsm := H.sm; have hlc := H.lc; have hcm := H.cm; have hg : w.cell? ⟨g, 0, none⟩ = some (.slice (some ⟨rb, 0, none⟩) l.length c) := H.hd.cell 0; have hga := H.hd.cell_a 0 _ rfl (.cells #[.int .i64 (at7 l (l.length - 1)).who, .int .i64 (at7 l (l.length - 1)).weight] 38); have fga := H.hd.frozen_a 0 (.cells #[.int .i64 (at7 l (l.length - 1)).who, .int .i64 (at7 l (l.length - 1)).weight] 38); obtain ⟨_, e1, q0⟩ := seat_cell hb ht (k := l.length - 1) (by omega) (j := 0) (by decide); obtain ⟨_, e2, q1⟩ := seat_cell hb ht (k := l.length - 1) (by omega) (j := 1) (by decide); cases e1; cases e2; rw [Nat.add_zero] at q0; have b0 : (0 : Int) ≤ (l.length : Int) - 1 := by omega
 have b1 : (l.length : Int) - 1 < (l.length : Int) := by omega
 have b2 : ((l.length : Int) - 1).toNat = l.length - 1 := by omega
 have b3 : IntKind.i64.wrap ((l.length : Int) - 1) = (l.length : Int) - 1 := by rw [IntKind.wrap_i64]; omega
 have hne : w.heap.size ≠ g := by have := H.hd.lt; omega
 have hnb := (Blk.new w 38 #[.int .i64 (at7 l (l.length - 1)).who, .int .i64 (at7 l (l.length - 1)).weight]).far (p := ⟨g, 0, none⟩) hne (.slice (some ⟨rb, 0, none⟩) (l.length - 1) c); have n0 := hnb.cell 0; have n1 := hnb.cell 1; have n0 : _ = some (Value.int .i64 (at7 l (l.length - 1)).who) := n0; have n1 : _ = some (Value.int .i64 (at7 l (l.length - 1)).weight) := n1; clear hnb; have K : Hid (HW w g B rb c l) := H; clear hb hs ht; simp only [maxLen] at hcm; go_enter Try.func102, Try.ntmps102; go_wp2; go_ret; have H := K.out; have hgr : rb ≠ g := by have := H.gB; have := H.Br; omega
 obtain ⟨cur, hb, hs, ht⟩ := H.row; have hl : (l.take (l.length - 1)).length = l.length - 1 := by rw [List.length_take]; omega
 refine ⟨rfl, ⟨?_, H.gB, H.Br, H.cm, by omega, by omega, ⟨cur, (hb.alloc _).far (p := ⟨g, 0, none⟩) hgr _, hs, ?_⟩⟩, ⟨((Below.refl g w).alloc (Nat.le_of_lt H.hd.lt) _).setCell (p := ⟨g, 0, none⟩) (Nat.le_refl g) _, fun k hk hkg => ?_⟩⟩
 ·rw [hl]; exact (H.hd.alloc _).set_ 0 _
 ·rw [hl, ← seatsCells_take, ← ht, List.take_take, Nat.min_eq_left (by omega)]
 ·have hlt := H.lt; have hBr := H.Br; exact (Below.heap_setCell _ _ _ k hkg).trans (Below.heap_alloc w _ k (by omega))
end Go.Proofs.Ytlfonmpgenoooaa
namespace Go.Proofs.Ytlfonmpgenoooaa
open Go Go.RowKit
set_option maxRecDepth 100000
def seatI (s : Seat) : Value := .iface 38 (.agg #[.int .i64 s.who, .int .i64 s.weight])
theorem seatsCells_snoc (l : List Seat) (s : Seat) : seatsCells (l ++ [s]) = seatsCells l ++ [.int .i64 s.who, .int .i64 s.weight] := by
 rw [seatsCells_append]; rfl
theorem assert_seat (x : Value) (w : World) : Sem.run Try.prog (Instr.typeAssert (.iface 38 x) 20 38 false) w = .ok x w := by
 unfold Instr.typeAssert; go_simp
theorem pushm_hv (g B : Nat) (l : List Seat) (s : Seat) (w : World) (H : HV w g B l) (hs : l.length ≤ 7) (hB : B ≤ w.heap.size) :
    Calls Try.prog 103 #[.pointer (some ⟨g, 0, none⟩), seatI s] w fun e w' => e = .returned (.tuple #[]) ∧ (∃ rb c, HW w' g B rb c (l ++ [s])) ∧ TurnB w w' g B := by
  obtain ⟨gB, v, hd, hown⟩ := H
  obtain ⟨i0, hi0, hz0, hz1, hz2⟩ := info_parts seatInfo
  obtain ⟨A0, c0, rfl⟩ := own_shape hown
  have hg : w.drew.cell? ⟨g, 0, none⟩ = some (.slice A0 l.length c0) := hd.cell 0
  have hlt := hd.lt
  have hgw : w.cell? ⟨g, 0, none⟩ = some (.slice A0 l.length c0) := hd.cell 0
  have hta := assert_seat (.agg #[.int .i64 s.who, .int .i64 s.weight]) w.drew
  have hownD : w.drew.ownsRow B 38 2 (.slice A0 l.length c0) l.length (seatsCells l) := hown
  unfold seatI
  go_enter Try.func103, Try.ntmps103
  go_wp2_with fail
  go_region_law (first
    | (refine step_append_any _ (by rfl) (.tmp 7) (.tmp 10) 35 (by rfl) B 38 i0 _ 2 16 Try.underlying35 hi0 hz0 hz1 hz2 rfl (by omega) (.slice A0 l.length c0) l.length _ (by rfl) (by first | exact hown.alloc _ | exact own_drewN (hown.alloc _) 1) (w.heap.size + 1) _ 1 1 [.int .i64 s.who, .int .i64 s.weight] (by rfl) (by first | exact Rd.laid w #[.int .i64 s.who, .int .i64 s.weight] 38 2 1 rfl | exact (Rd.laid w #[.int .i64 s.who, .int .i64 s.weight] 38 2 1 rfl).drewN 1) (fun u hu => by simp at hu; rcases hu with rfl | rfl <;> rfl) (by simp [maxLen]; omega) (by omega) (by simp; omega) ?_
       intro v3 w3 hown3 hg3 hat3
       obtain ⟨A3, n3, rfl⟩ := own_shape hown3
       have hd3 : Blk w3 g 35 #[.slice A0 l.length c0] := by
         refine Blk.grown (Blk.drew (hd.alloc _)) hg3 (fun e => ?_)
         have := own_ge hown _ e.symm
         omega
       have f3 := hd3.frozen 0
       have c3 : w3.cell? ⟨g, 0, none⟩ = some (.slice A0 l.length c0) := hd3.cell 0))
  all_goals
    go_wp2_with fail
    go_end0
    have hlen : (l ++ [s]).length = l.length + 1 := by simp
    refine ⟨rfl, ?_, ⟨?_, ?_⟩⟩
    · rcases hown3.2 with ⟨_, h0⟩ | ⟨rb, c, cur, hv, hBr, hrow, hnc, hcm, hcs, htk⟩
      · omega
      · injection hv with e1 e2 e3
        subst e1; subst e3
        refine ⟨rb, n3, ⟨?_, gB, hBr, hcm, by omega, by omega, ⟨cur, ?_, hcs, ?_⟩⟩⟩
        · rw [hlen]
          exact hd3.set_ 0 _
        · exact Blk.far hrow (p := ⟨g, 0, none⟩) (by show rb ≠ g; omega) _
        · rw [hlen, htk, seatsCells_snoc]
    · refine Below.setCell (p := ⟨g, 0, none⟩) (Below.grown (Below.drew (Below.alloc (Below.refl g w) (by omega) _)) hg3 ?_ ?_) (Nat.le_refl g) _
      · simp; omega
      · intro k hk
        have := own_ge hown _ hk
        omega
    · intro k hk hkg
      refine (Below.heap_setCell _ _ _ k hkg).trans ((hg3.block k ?_ ?_).trans (Below.heap_alloc w _ k (by omega)))
      · simp; omega
      · intro e
        have := own_ge hown _ e.symm
        omega
theorem HW.cell {w : World} {g B rb c : Nat} {l : List Seat} (H : HW w g B rb c l) : w.cell? ⟨g, 0, none⟩ = some (.slice (some ⟨rb, 0, none⟩) l.length c) := H.hd.cell 0
theorem HW.below {w w' : World} {g B rb c : Nat} {l : List Seat} (H : HW w g B rb c l) (h : Below w.heap.size w w') : HW w' g B rb c l := by
 obtain ⟨cur, hb, hs, ht⟩ := H.row; exact ⟨H.hd.below h H.hd.lt, H.gB, H.Br, H.cm, H.lc, H.sm, ⟨cur, hb.below h hb.lt, hs, ht⟩⟩
theorem up_hw (F : Nat) (l : List Seat) (g B rb c j : Nat) (w : World) (H : HW w g B rb c l) (hj : j < l.length) (hF : j ≤ F) :
  Calls Try.prog 39 #[.iface 41 (.pointer (some ⟨g, 0, none⟩)), .int .i64 j] w fun e w' => e = .returned (.tuple #[]) ∧ HW w' g B rb c (upL F l j) ∧ TurnB w w' g B := by
 go_enter Try.func39, Try.ntmps39; go_wp2
 go_loopw [1] (fun x wr => ∃ (f k : Nat) (m : List Seat), x = .int .i64 k ∧ k < m.length ∧ k ≤ f ∧ HW wr g B rb c m ∧ TurnB w wr g B ∧ upL f m k = upL F l j) (fun x _ => (match x with | .int _ n => n.toNat | _ => 0))
 case atStart => exact ⟨F, j, l, rfl, hj, hF, H, TurnB.refl _ _ _, rfl⟩
 case round =>
  obtain ⟨f, k, m, rfl, hk, hf, Hm, T, hu⟩ := hrel; have hsm := Hm.sm
  by_cases h0 : k = 0
  ·subst h0; go_wp2
   go_end0
   refine ⟨rfl, ?_, T⟩; cases f with
   | zero => rw [← hu]; exact Hm
   | succ f =>
    rw [upL, if_neg (by omega)] at hu; rw [← hu]; exact Hm
  ·have hq : ((k : Int) - 1).tdiv 2 = (((k - 1) / 2 : Nat) : Int) := by rw [Int.tdiv_eq_ediv_of_nonneg (by omega)]; omega
   have hne : ¬ (((k - 1) / 2 : Nat) : Int) = (k : Int) := by omega
   have hwk : IntKind.i64.wrap ((k : Int) - 1) = (k : Int) - 1 := by rw [IntKind.wrap_i64]; omega
   have hml := meth_less g _ wr Hm.cell; obtain ⟨f, rfl⟩ : ∃ f', f = f' + 1 := ⟨f - 1, by omega⟩
   rw [upL] at hu; have hp : (k - 1) / 2 < m.length := by omega
   have K : Hid (HW wr g B rb c m ∧ TurnB w wr g B ∧ upL (f + 1) m k = upL F l j) := ⟨Hm, T, by rw [upL]; exact hu⟩
   generalize hpk : (k - 1) / 2 = p at *; go_wp2_with fail; refine (less_hw Hm hk hp).mono ?_; rintro e w1 ⟨rfl, hb1⟩; dsimp only; have H1 := Hm.below hb1; have T1 := T.trans (TurnB.of_below (B := B) hb1 (Nat.le_of_lt Hm.hd.lt) (by have := Hm.lt; have := Hm.Br; omega)); have hsw := meth_swap g _ w1 H1.cell; cases hbt : better (at7 m p) (at7 m k)
   ·go_wp2_with fail
    go_end0
    rw [if_neg (by rw [hbt]; simp)] at hu; exact ⟨rfl, by rw [← hu]; exact H1, T1⟩
   ·go_wp2_with fail; refine (swap_hw H1 hp hk).mono ?_; rintro e w2 ⟨rfl, H2, T2⟩; dsimp only; go_wp2_with fail
    go_roundw
    case rel =>
     rw [if_pos ⟨by omega, hbt⟩] at hu; exact ⟨f, p, sw m p k, rfl, by rw [sw_len]; exact hp, by omega, H2, T1.trans T2, hu⟩
    case measure => simp; omega
theorem downL_step (f : Nat) (l : List Seat) (i n p q j : Nat) (hp : 2 * i + 1 = p) (hq : 2 * i + 2 = q) (hc : p < n) (hj : j = if q < n ∧ better (at7 l p) (at7 l q) = true then q else p) : downL (f + 1) l i n = if better (at7 l i) (at7 l j) = true then downL f (sw l i j) j n else l := by
 subst hp; subst hq; rw [downL, if_pos hc]; subst hj; rfl
set_option maxHeartbeats 2000000 in
theorem down_hw (F : Nat) (l : List Seat) (g B rb c i n : Nat) (w : World) (H : HW w g B rb c l) (hi : i < l.length) (hn : n ≤ l.length) (hF : n ≤ i + F) :
  Calls Try.prog 40 #[.iface 41 (.pointer (some ⟨g, 0, none⟩)), .int .i64 i, .int .i64 n] w fun e w' => (∃ b : Bool, e = .returned (.bool b)) ∧ HW w' g B rb c (downL F l i n) ∧ TurnB w w' g B := by
 have hln := H.sm; go_enter Try.func40, Try.ntmps40; go_wp2
 go_loopw [7] (fun x wr => ∃ (f k : Nat) (m : List Seat), x = .int .i64 k ∧ k < m.length ∧ n ≤ m.length ∧ n ≤ k + f ∧ HW wr g B rb c m ∧ TurnB w wr g B ∧ downL f m k n = downL F l i n) (fun x _ => (match x with | .int _ z => 100 - z.toNat | _ => 0))
 case atStart => exact ⟨F, i, l, rfl, hi, hn, hF, H, TurnB.refl _ _ _, rfl⟩
 case round =>
  obtain ⟨f, k, m, rfl, hk, hnm, hf, Hm, T, hu⟩ := hrel; have hsm := Hm.sm; obtain ⟨p, hp⟩ : ∃ p, 2 * k + 1 = p := ⟨_, rfl⟩
  obtain ⟨q, hq⟩ : ∃ q, 2 * k + 2 = q := ⟨_, rfl⟩
  have w1 : IntKind.i64.wrap (2 * (k : Int)) = 2 * (k : Int) := by rw [IntKind.wrap_i64]; omega
  have w2 : IntKind.i64.wrap (2 * (k : Int) + 1) = (p : Int) := by rw [IntKind.wrap_i64]; omega
  have w3 : IntKind.i64.wrap ((p : Int) + 1) = (q : Int) := by rw [IntKind.wrap_i64]; omega
  by_cases hc : n ≤ p
  ·have hc1 : (n : Int) ≤ (p : Int) := by omega
   go_wp2; go_ret; refine ⟨⟨_, rfl⟩, ?_, T⟩; cases f with
   | zero => rw [← hu]; exact Hm
   | succ f =>
    rw [downL, if_neg (by omega)] at hu; rw [← hu]; exact Hm
  ·have hc1 : ¬ (n : Int) ≤ (p : Int) := by omega
   have hc2 : ¬ (p : Int) < 0 := by omega
   obtain ⟨f, rfl⟩ : ∃ f', f = f' + 1 := ⟨f - 1, by omega⟩
   have hj1 : p < m.length := by omega
   by_cases hd : q < n
   ·have hd1 : (q : Int) < (n : Int) := by omega
    have hj2 : q < m.length := by omega
    have hml := meth_less g _ wr Hm.cell; go_wp2_with fail; refine (less_hw Hm hj2 hj1).mono ?_; rintro e w5 ⟨rfl, hb5⟩; dsimp only; have H5 := Hm.below hb5; have T5 := T.trans (TurnB.of_below (B := B) hb5 (Nat.le_of_lt Hm.hd.lt) (by have := Hm.lt; have := Hm.Br; omega)); cases hbb : better (at7 m p) (at7 m q)
    ·have hml2 := meth_less g _ w5 H5.cell; go_wp2_with fail; refine (less_hw H5 hj1 hk).mono ?_; rintro e w3 ⟨rfl, hb3⟩; dsimp only; have H3 := H5.below hb3; have T3 := T5.trans (TurnB.of_below (B := B) hb3 (Nat.le_of_lt H5.hd.lt) (by have := H5.lt; have := H5.Br; omega)); have hsw := meth_swap g _ w3 H3.cell; cases hbt : better (at7 m k) (at7 m p)
     ·go_wp2_with fail; go_ret; rw [downL_step f m k n p q p hp hq (by omega) (by rw [if_neg (by rw [hbb]; simp)])] at hu; rw [if_neg (by rw [hbt]; simp)] at hu; exact ⟨⟨_, rfl⟩, by rw [← hu]; exact H3, T3⟩
     ·go_wp2_with fail; refine (swap_hw H3 hk hj1).mono ?_; rintro e w4 ⟨rfl, H4, T4⟩; dsimp only; go_wp2_with fail
      go_roundw
      case rel =>
       rw [downL_step f m k n p q p hp hq (by omega) (by rw [if_neg (by rw [hbb]; simp)])] at hu; rw [if_pos hbt] at hu; exact ⟨f, p, sw m k p, rfl, by rw [sw_len]; exact hj1, by rw [sw_len]; exact hnm, by omega, H4, T3.trans T4, hu⟩
      case measure => simp; omega
    ·have hml2 := meth_less g _ w5 H5.cell; go_wp2_with fail; refine (less_hw H5 hj2 hk).mono ?_; rintro e w3 ⟨rfl, hb3⟩; dsimp only; have H3 := H5.below hb3; have T3 := T5.trans (TurnB.of_below (B := B) hb3 (Nat.le_of_lt H5.hd.lt) (by have := H5.lt; have := H5.Br; omega)); have hsw := meth_swap g _ w3 H3.cell; cases hbt : better (at7 m k) (at7 m q)
     ·go_wp2_with fail; go_ret; rw [downL_step f m k n p q q hp hq (by omega) (by rw [if_pos ⟨hd, hbb⟩])] at hu; rw [if_neg (by rw [hbt]; simp)] at hu; exact ⟨⟨_, rfl⟩, by rw [← hu]; exact H3, T3⟩
     ·go_wp2_with fail; refine (swap_hw H3 hk hj2).mono ?_; rintro e w4 ⟨rfl, H4, T4⟩; dsimp only; go_wp2_with fail
      go_roundw
      case rel =>
       rw [downL_step f m k n p q q hp hq (by omega) (by rw [if_pos ⟨hd, hbb⟩])] at hu; rw [if_pos hbt] at hu; exact ⟨f, q, sw m k q, rfl, by rw [sw_len]; exact hj2, by rw [sw_len]; exact hnm, by omega, H4, T3.trans T4, hu⟩
      case measure => simp; omega
   ·have hd1 : ¬ (q : Int) < (n : Int) := by omega
    have hml2 := meth_less g _ wr Hm.cell; go_wp2_with fail; refine (less_hw Hm hj1 hk).mono ?_; rintro e w3 ⟨rfl, hb3⟩; dsimp only; have H3 := Hm.below hb3; have T3 := T.trans (TurnB.of_below (B := B) hb3 (Nat.le_of_lt Hm.hd.lt) (by have := Hm.lt; have := Hm.Br; omega)); have hsw := meth_swap g _ w3 H3.cell; cases hbt : better (at7 m k) (at7 m p)
    ·go_wp2_with fail; go_ret; rw [downL_step f m k n p q p hp hq (by omega) (by rw [if_neg (fun h => hd h.1)])] at hu; rw [if_neg (by rw [hbt]; simp)] at hu; exact ⟨⟨_, rfl⟩, by rw [← hu]; exact H3, T3⟩
    ·go_wp2_with fail; refine (swap_hw H3 hk hj1).mono ?_; rintro e w4 ⟨rfl, H4, T4⟩; dsimp only; go_wp2_with fail
     go_roundw
     case rel =>
      rw [downL_step f m k n p q p hp hq (by omega) (by rw [if_neg (fun h => hd h.1)])] at hu; rw [if_pos hbt] at hu; exact ⟨f, p, sw m k p, rfl, by rw [sw_len]; exact hj1, by rw [sw_len]; exact hnm, by omega, H4, T3.trans T4, hu⟩
     case measure => simp; omega
theorem HV.of {w : World} {g B rb c : Nat} {l : List Seat} (H : HW w g B rb c l) : HV w g B l := by
 obtain ⟨cur, hb, hs, ht⟩ := H.row; exact ⟨H.gB, _, H.hd, seatsCells_length l, .inr ⟨rb, c, cur, rfl, H.Br, hb, H.lc, H.cm, hs, ht⟩⟩
theorem hpush_hv (g B : Nat) (l : List Seat) (s : Seat) (w : World) (H : HV w g B l) (hs : l.length ≤ 7) (hB : B ≤ w.heap.size) :
  Calls Try.prog 23 #[.iface 41 (.pointer (some ⟨g, 0, none⟩)), seatI s] w fun e w' => e = .returned (.tuple #[]) ∧ (∃ rb c, HW w' g B rb c (pushL l s)) ∧ TurnB w w' g B := by
 have hmp := meth_push g w; go_enter Try.func23, Try.ntmps23; go_wp2_with fail; refine (pushm_hv g B l s w H hs hB).mono ?_; rintro e w1 ⟨rfl, ⟨rb, c, H1⟩, T1⟩; dsimp only; have hln := meth_len g _ w1 H1.cell; have hl : (l ++ [s]).length = l.length + 1 := by simp
 have hq : IntKind.i64.wrap (((l ++ [s]).length : Int) - 1) = (l.length : Int) := by rw [IntKind.wrap_i64]; omega
 have K : Hid (HW w1 g B rb c (l ++ [s])) := H1; go_wp2_with fail; refine (len_any7 _ _ _ _).mono ?_; rintro e w2 ⟨rfl, hw2⟩; subst hw2; dsimp only; go_wp2_with fail; refine (up_hw l.length (l ++ [s]) g B rb c l.length _ H1 (by omega) (Nat.le_refl _)).mono ?_; rintro e w3 ⟨rfl, H3, T3⟩; dsimp only; go_wp2_with fail
 go_end0
 exact ⟨rfl, ⟨rb, c, H3⟩, T1.trans T3⟩
theorem hpop_hw {w : World} {g B rb c : Nat} {l : List Seat} (H : HW w g B rb c l) (hn : 0 < l.length) :
  Calls Try.prog 24 #[.iface 41 (.pointer (some ⟨g, 0, none⟩))] w fun e w' => (∃ v, e = .returned v) ∧ HW w' g B rb c (popL l) ∧ TurnB w w' g B := by
 have hln := meth_len g _ w H.cell; have hsm := H.sm; obtain ⟨n, hl⟩ : ∃ n, l.length = n + 1 := ⟨l.length - 1, by omega⟩
 have hq : IntKind.i64.wrap ((l.length : Int) - 1) = (n : Int) := by rw [IntKind.wrap_i64]; omega
 have hsw := meth_swap g _ w H.cell; have hL : Hid (l.length = n + 1) := hl; have hn1 : n < l.length := by omega
 clear hl; go_enter Try.func24, Try.ntmps24; go_wp2_with fail; refine (len_any7 _ _ _ _).mono ?_; rintro e w2 ⟨rfl, hw2⟩; subst hw2; dsimp only; go_wp2_with fail; have hS := swap_hw H (i := 0) (j := n) hn hn1; rw [show ((0 : Nat) : Int) = 0 from rfl] at hS; refine hS.mono ?_; rintro e w3 ⟨rfl, H3, T3⟩; dsimp only; go_wp2_with fail; have hD := down_hw n (sw l 0 n) g B rb c 0 n _ H3 (by rw [sw_len]; exact hn) (by rw [sw_len]; omega) (by omega); rw [show ((0 : Nat) : Int) = 0 from rfl] at hD; refine hD.mono ?_; rintro e w4 ⟨⟨b, rfl⟩, H4, T4⟩; dsimp only; have hpp := meth_pop g w4; have e4 : (downL n (sw l 0 n) 0 n).length = n + 1 := by rw [downL_len, sw_len, hL.out]
 have E4 : Hid ((downL n (sw l 0 n) 0 n).length = n + 1) := e4; have e5 : 0 < (downL n (sw l 0 n) 0 n).length := by omega
 clear e4; go_wp2_with fail; refine (popm_hw H4 e5).mono ?_; rintro e w5 ⟨rfl, H5, T5⟩; dsimp only; go_wp2_with fail; go_ret; refine ⟨⟨_, rfl⟩, ?_, (T3.trans T4).trans T5⟩; unfold popL; rw [hL.out]; rw [E4.out] at H5; exact H5
end Go.Proofs.Ytlfonmpgenoooaa
