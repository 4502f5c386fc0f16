/- Of the texts Bench2, Bench3, BenchP. -/
import Derived.Test.YtjjkdmngmopjbaaProg
import Derived.Test.YtjjkdmngmopjbaaG27
import Derived.Deep.RegionHeld3
import Derived.Deep.RegionLaw
set_option linter.unusedSimpArgs false
set_option linter.unusedVariables false
namespace Go.Proofs.Ytjjkdmngmopjbaa
open Go.RowKit
def firstOf (l : List Seat) (who : Int) (k : Nat) : Bool := (l.take k).all fun x => x.who != who
theorem firstOf_succ (l : List Seat) (who : Int) (k : Nat) (hk : k < l.length) : firstOf l who (k + 1) = (firstOf l who k && l[k].who != who) := by
  unfold firstOf
  rw [List.take_succ_eq_append_getElem hk, List.all_append, List.all_cons, List.all_nil, Bool.and_true]
def leftTo (l : List Seat) : Nat → List Seat
  | 0 => []
  | k + 1 => match l[k]? with
    | none => leftTo l k
    | some s => if firstOf l s.who k && seatOk s then leftTo l k ++ [s] else leftTo l k
theorem leftTo_le (l : List Seat) (k : Nat) : (leftTo l k).length ≤ k := by
  induction k with
  | zero => simp [leftTo]
  | succ k ih =>
    unfold leftTo
    split
    · omega
    · split
      · simp; omega
      · omega
theorem leftTo_succ (l : List Seat) (k : Nat) (hk : k < l.length) : leftTo l (k + 1) = if firstOf l l[k].who k && seatOk l[k] then leftTo l k ++ [l[k]] else leftTo l k := by
  rw [leftTo, List.getElem?_eq_getElem hk]
def better (x y : Seat) : Bool := decide (y.weight < x.weight) || (x.weight == y.weight && decide (x.who < y.who))
def bestTo (l : List Seat) : Nat → Nat
  | 0 => 0
  | k + 1 => match l[k]?, l[bestTo l k]? with
    | some x, some y => if better x y then k else bestTo l k
    | _, _ => bestTo l k
theorem bestTo_lt (l : List Seat) (k : Nat) (h : 0 < l.length) : bestTo l k < l.length := by
  induction k with
  | zero => simpa [bestTo] using h
  | succ k ih =>
    unfold bestTo
    split
    · rename_i x y hx hy
      split
      · exact (List.getElem?_eq_some_iff.1 hx).1
      · exact ih
    · exact ih
theorem bestTo_succ (l : List Seat) (k : Nat) (hk : k < l.length) (hb : bestTo l k < l.length) : bestTo l (k + 1) = if better l[k] l[bestTo l k] then k else bestTo l k := by
  rw [bestTo, List.getElem?_eq_getElem hk, List.getElem?_eq_getElem hb]
theorem better_self (x : Seat) : better x x = false := by simp [better]
theorem bestTo_one (l : List Seat) : bestTo l 1 = 0 := by
  unfold bestTo
  split
  · split
    · rfl
    · rfl
  · rfl
def chooseLoop : Nat → List Seat → List Seat → List Seat
  | 0, out, _ => out
  | f + 1, out, left => match left[bestTo left left.length]? with
    | none => out
    | some s => if out.length < 7 then chooseLoop f (insertS out s) (left.eraseIdx (bestTo left left.length)) else out
def chooseS (l : List Seat) : List Seat := chooseLoop (leftTo l l.length).length [] (leftTo l l.length)
theorem chooseLoop_step (out left : List Seat) (b : Nat) (hb : bestTo left left.length = b) (hl : b < left.length) (h7 : out.length < 7) : chooseLoop left.length out left = chooseLoop (left.length - 1) (insertS out left[b]) (left.eraseIdx b) := by
  have key : ∀ f, left.length = f + 1 → chooseLoop (f + 1) out left = chooseLoop f (insertS out left[b]) (left.eraseIdx b) := fun f hf => by
    simp only [chooseLoop, hb, List.getElem?_eq_getElem hl, if_pos h7]
  obtain ⟨f, hf⟩ : ∃ f, left.length = f + 1 := ⟨left.length - 1, by omega⟩
  have := key f hf
  have e1 : left.length - 1 = f := by omega
  rw [e1]
  rw [← this]
  congr 1
theorem insertS_length (l : List Seat) (s : Seat) : (insertS l s).length = l.length + 1 := by
  have := place_le l s
  simp [insertS]; omega
set_option maxRecDepth 100000 in
set_option maxHeartbeats 1000000 in
theorem choose_any (l : List Seat) (A : Option Addr) (c B : Nat) (w : World) (h : Seats w B A l) (hB : B ≤ w.heap.size) (hl : l.length < 65536) :
    Calls Try.prog 71 #[.slice A l.length c] w fun e w' => ∃ v, e = .returned v ∧ w'.ownsRow w.heap.size 147 2 v (chooseS l).length (seatsCells (chooseS l)) ∧ Below w.heap.size w w' := by
  obtain ⟨i0, hi0, hz0, hz1, hz2⟩ := info_parts seatInfo
  go_enter Try.func71, Try.ntmps71
  go_wp2
  go_loopw [3, 4, 5, 6, 7] (fun v i o1 o2 o3 wr => ∃ k : Nat, k ≤ l.length ∧ i = .int .i64 k ∧ wr.ownsRow w.heap.size 147 2 v (leftTo l k).length (seatsCells (leftTo l k)) ∧ Below w.heap.size w wr) (fun _ i _ _ _ _ => l.length - (intOf i).toNat)
  case atStart => exact ⟨0, by omega, rfl, World.ownsRow_nil _ _ _ _, Below.refl _ _⟩
  case round =>
    obtain ⟨k, hk, rfl, hown, hb⟩ := hrel
    by_cases hlt : k < l.length
    · obtain ⟨b, off, rfl, hbB, hc0, hc1⟩ := Seats.at_ (h.below (hb.mono hB)) hlt
      go_wp2
      obtain ⟨wo, rfl⟩ : ∃ wo : World, wo = wr := ⟨_, rfl⟩
      go_loopw [5, 6] (fun f i wr => ∃ j : Nat, j ≤ k ∧ i = .int .i64 j ∧ f = .bool (firstOf l l[k].who j) ∧ Below wo.heap.size wo wr) (fun _ i _ => k - (intOf i).toNat)
      case atStart => exact ⟨0, by omega, rfl, rfl, Below.refl _ _⟩
      case round =>
        obtain ⟨j, hj, rfl, rfl, hbo⟩ := hrel
        have hc0' := (hbo.cell (p := ⟨b, off + k * 2, none⟩) (by have := hb.size; simp; omega)).trans hc0
        have hc1' := (hbo.cell (p := ⟨b, off + k * 2 + 1, none⟩) (by have := hb.size; simp; omega)).trans hc1
        have hsz := hb.size
        have hsz' := hbo.size
        have hb' : Below w.heap.size w wr := hb.trans (hbo.mono hsz)
        have hown' := own_below hown hbo
        clear hc0 hc1 hown
        by_cases hjk : j < k
        · obtain ⟨b', off', e, hbB', hd0, hd1⟩ := Seats.at_ (h.below (hb'.mono hB)) (show j < l.length by omega)
          simp only [Option.some.injEq, Addr.mk.injEq, and_true] at e
          obtain ⟨rfl, rfl⟩ := e
          have hi1 : (j : Int) < (l.length : Int) := by omega
          have hi2 : (k : Int) < (l.length : Int) := by omega
          have HS := Lib.hid (firstOf_succ l l[k].who j (by omega))
          cases hf : firstOf l l[k].who j
          · go_wp2
            go_quiet (fail)
            go_wp2
            go_roundw
            case rel => exact ⟨j + 1, by omega, by go_num, by rw [HS.out, hf]; rfl, hbo.drewN _⟩
            case measure => simp [intOf]; omega
          · go_wp2
            go_quiet (fail)
            go_wp2
            go_roundw
            case rel => exact ⟨j + 1, by omega, by go_num, by rw [HS.out, hf]; rfl, hbo.drewN _⟩
            case measure => simp [intOf]; omega
        · have hL := Lib.hid (leftTo_succ l k hlt)
          have hjk' : Hid (j = k) := show j = k by omega
          have hLk := leftTo_le l k
          have hoff : off + k * 2 + 1 = off + k * 2 + 1 := rfl
          clear hoff
          go_wp2_with (first
            | (go_at_call 112; refine (seatMay_any l[k] _).mono ?_; rintro e w1 ⟨rfl, hb1⟩
               have hk0 := (hb1.cell (p := ⟨b, off + k * 2, none⟩) (by simp; omega)).trans hc0'
               have hk1 := (hb1.cell (p := ⟨b, off + k * 2 + 1, none⟩) (by simp; omega)).trans hc1'
               have hb1' := hb'.trans (hb1.mono (by omega))
               have hown1 := own_below hown' hb1
               have hsz1 := hb1.size)
            | (at_builtin; refine wpList_append_any _ rfl (.tmp 45) (.tmp 50) 80 rfl w.heap.size 147 i0 _ 2 16 Try.underlying80 hi0 hz0 hz1 hz2 rfl (by omega) _ (leftTo l k).length _ (by rfl) (hown1.alloc _) (w1.heap.size + 1) _ 1 1 [.int .i64 l[k].who, .int .i64 l[k].weight] (by rfl) (Rd.laid w1 #[.int .i64 l[k].who, .int .i64 l[k].weight] 147 2 1 rfl) (fun u hu => by simp at hu; rcases hu with rfl | rfl <;> rfl) (by simp [maxLen]; omega) (by omega) (by simp; omega) ?_
               intro v2 w2 hown2 hg2 hat2
               have hb2 : Below w.heap.size w w2 := (hb1'.alloc (by omega) _).grown hg2 (by simp; omega) (own_ge hown1)))
          · have h1 : firstOf l l[k].who j = true := by assumption
            have h2 : seatOk l[k] = true := by assumption
            go_roundw
            case rel =>
              refine ⟨k + 1, by omega, by go_num, ?_, hb2⟩
              rw [hjk'.out] at h1
              rw [hL.out, h1, h2]
              simp only [Bool.and_self, if_true, List.length_append, List.length_cons, List.length_nil, seatsCells_append]
              exact hown2
            case measure => simp [intOf]; omega
          · have h2 : seatOk l[k] = false := by assumption
            go_roundw
            case rel =>
              refine ⟨k + 1, by omega, by go_num, ?_, hb1'⟩
              rw [hL.out, h2]
              simpa using hown1
            case measure => simp [intOf]; omega
          · have h1 : firstOf l l[k].who j = false := by assumption
            go_roundw
            case rel =>
              refine ⟨k + 1, by omega, by go_num, ?_, hb1'⟩
              rw [hjk'.out] at h1
              rw [hL.out, h1]
              simpa using hown1
            case measure => simp [intOf]; omega
    · clear hB
      go_wp2
      go_loopw [3, 8, 9, 10] (fun v o b i wr => ∃ (out left : List Seat), chooseS l = chooseLoop left.length out left ∧ out.length ≤ 7 ∧ left.length ≤ l.length ∧ wr.ownsRow w.heap.size 147 2 v left.length (seatsCells left) ∧ wr.ownsRow w.heap.size 147 2 o out.length (seatsCells out) ∧ Below w.heap.size w wr) (fun v _ _ _ _ => match v with | .slice _ n _ => n | _ => 0)
      case atStart =>
        have e : k = l.length := by omega
        subst e
        exact ⟨[], _, rfl, by simp, leftTo_le _ _, hown, World.ownsRow_nil _ _ _ _, hb⟩
      case round =>
        obtain ⟨out, left, hC, ho7, hleft, hownL, hownO, hb⟩ := hrel
        have HC := Lib.hid hC
        clear hC
        obtain ⟨AL, cL, rfl⟩ := own_shape hownL
        obtain ⟨AO, cO, rfl⟩ := own_shape hownO
        have hcL := own_cap hownL
        have hcO := own_cap hownO
        by_cases hcont : out.length < 7 ∧ 0 < left.length
        · obtain ⟨h7, hpos⟩ := hcont
          have hsz := hb.size
          have h7i : (out.length : Int) < 7 := by omega
          have hpi : (0 : Int) < (left.length : Int) := by omega
          go_wp2
          obtain ⟨wo, rfl⟩ : ∃ wo : World, wo = wr := ⟨_, rfl⟩
          go_loopw [9, 10] (fun b i wr => ∃ j : Nat, 1 ≤ j ∧ j ≤ left.length ∧ i = .int .i64 j ∧ b = .int .i64 (bestTo left j) ∧ Below wo.heap.size wo wr) (fun _ i _ => left.length - (intOf i).toNat)
          case atStart => exact ⟨1, by omega, by omega, rfl, by rw [bestTo_one]; rfl, Below.refl _ _⟩
          case round =>
            obtain ⟨j, hj1, hj, rfl, rfl, hbo⟩ := hrel
            have hbl := bestTo_lt left j hpos
            have hownL' := own_below hownL hbo
            have hownO' := own_below hownO hbo
            have hsz' := hbo.size
            have hb' := hb.trans (hbo.mono (by omega))
            clear hownL hownO
            obtain ⟨b, off, hAL, hbB, hd0, hd1⟩ := Seats.at_ (l := left) (Rd.of_own hownL') hbl
            subst hAL
            have hbi : (bestTo left j : Int) < (left.length : Int) := by omega
            by_cases hjl : j < left.length
            · obtain ⟨b', off', e, _, hc0, hc1⟩ := Seats.at_ (l := left) (Rd.of_own hownL') hjl
              simp only [Option.some.injEq, Addr.mk.injEq, and_true] at e
              obtain ⟨rfl, rfl⟩ := e
              have hji : (j : Int) < (left.length : Int) := by omega
              have HS := Lib.hid (bestTo_succ left j hjl hbl)
              rcases Int.lt_trichotomy left[bestTo left j].weight left[j].weight with h1 | h1 | h1
              · go_wp2
                go_quiet (fail)
                go_wp2
                go_roundw
                case rel => exact ⟨j + 1, by omega, by omega, by go_num, by rw [HS.out]; rw [if_pos (by simp [better]; omega)], hbo.drewN _⟩
                case measure => simp [intOf]; omega
              · have g1 : decide (left[bestTo left j].weight < left[j].weight) = false := by simp; omega
                have g2 : (left[j].weight == left[bestTo left j].weight) = true := by simp; omega
                have H1 := Lib.hid h1
                clear h1
                go_wp2
                go_quiet (fail)
                go_wp2
                · go_roundw
                  case rel => exact ⟨j + 1, by omega, by omega, by go_num, by rw [HS.out]; rw [if_pos (by have := H1.out; simp [better]; omega)], hbo.drewN _⟩
                  case measure => simp [intOf]; omega
                · go_roundw
                  case rel => exact ⟨j + 1, by omega, by omega, by go_num, by rw [HS.out]; rw [if_neg (by have := H1.out; simp [better]; omega)], hbo.drewN _⟩
                  case measure => simp [intOf]; omega
              · have g1 : decide (left[bestTo left j].weight < left[j].weight) = false := by simp; omega
                have g2 : (left[j].weight == left[bestTo left j].weight) = false := by simp; omega
                go_wp2
                go_quiet (fail)
                go_wp2
                go_roundw
                case rel => exact ⟨j + 1, by omega, by omega, by go_num, by rw [HS.out]; rw [if_neg (by simp [better]; omega)], hbo.drewN _⟩
                case measure => simp [intOf]; omega
            · have HJ : Hid (j = left.length) := show j = left.length by omega
              go_wp2_with (first
                | (go_at_call 113; refine (insert_any out left[bestTo left j] AO cO wr.heap.size wr (Rd.of_own hownO') (Nat.le_refl _) (by omega) hcO).mono ?_; rintro e w1 ⟨v1, rfl, hown1, hb1⟩
                   have hb1' := hb'.trans (hb1.mono (by omega))
                   have hownL1 := own_below hownL' hb1
                   have hsz1 := hb1.size))
              have hb0 : (0 : Int) ≤ (bestTo left j : Int) := by omega
              have hw0 : IntKind.i64.wrap ((bestTo left j : Int) + 1) = (bestTo left j : Int) + 1 := IntWalk.i64_in _ (by omega)
              have hw1 : (0 : Int) ≤ (bestTo left j : Int) + 1 := by omega
              have hw2 : (bestTo left j : Int) + 1 ≤ (left.length : Int) := by omega
              have hw3 : ((bestTo left j : Int) + 1).toNat = bestTo left j + 1 := by omega
              have hw4 : (bestTo left j : Int) ≤ (cL : Int) := by omega
              have hw5 : (left.length : Int) ≤ (cL : Int) := by omega
              have hownA : ∀ n, ((w1.alloc (.cells #[] 147)).drewN n).ownsRow w1.heap.size 147 2 (.slice (some ⟨w1.heap.size, 0, none⟩) 0 0) 0 [] := fun n => own_drewN (World.ownsRow_made (base := w1.heap.size) (e := 147) (size := 2) w1 #[] 0 (Nat.le_refl _) (by simp [maxLen]) (by simp)) n
              have hRL : Rd w1 w1.heap.size 2 (some ⟨b, off, none⟩) left.length (seatsCells left) := Rd.of_own hownL1
              go_region_held3 (fun _ => True) (trivial) (first
                | (refine step_append_any _ (by rfl) (.tmp 110) (.tmp 113) 80 (by rfl) w1.heap.size 147 i0 _ 2 16 Try.underlying80 hi0 hz0 hz1 hz2 rfl (by omega) (.slice (some ⟨w1.heap.size, 0, none⟩) 0 0) 0 [] (by rfl) (by exact hownA 1) w1.heap.size _ (bestTo left j) cL ((seatsCells left).take (bestTo left j * 2)) (by rfl) (by exact ((hRL.alloc (Nat.le_refl _) _).drewN 1).take (by omega)) (fun u hu => seatsCells_one left u (List.mem_of_mem_take hu)) (by simp [maxLen]; omega) (by omega) (by simp) ?_
                   intro v2 w2 hown2 hg2 hat2
                   simp only [Nat.zero_add, List.nil_append] at hown2
                   have hb2 : Below w1.heap.size w1 w2 := (((Below.refl _ w1).alloc (Nat.le_refl _) _).drewN 1).grown hg2 (by simp) (by simp [Value.ownBlock])
                   have hsz2 := hb2.size)
                | (refine step_append_any _ (by rfl) (.tmp 114) (.tmp 118) 80 (by rfl) w1.heap.size 147 i0 _ 2 16 Try.underlying80 hi0 hz0 hz1 hz2 rfl (by omega) v2 (bestTo left j) _ (by rfl) hown2 w1.heap.size _ (left.length - (bestTo left j + 1)) (cL - (bestTo left j + 1)) ((seatsCells left).drop ((bestTo left j + 1) * 2)) (by rfl) (by first | exact (hRL.below hb2).cut_lt (by omega) | exact (hRL.below hb2).cut (by omega) (by omega) | exact (hRL.below hb2).cut_all (by omega) _) (fun u hu => seatsCells_one left u (List.mem_of_mem_drop hu)) (by simp [maxLen]; omega) (by omega) (by omega) ?_
                   intro v3 w3 hown3 hg3 hat3))
              have hb3 : Below w1.heap.size w1 w3 := hb2.grown hg3 hsz2 (own_ge hown2)
              go_wp2
              go_roundw
              case rel =>
                have hC2 := chooseLoop_step out left (bestTo left j) (by rw [HJ.out]) hbl h7
                have hE : left.eraseIdx (bestTo left j) = left.take (bestTo left j) ++ left.drop (bestTo left j + 1) := List.eraseIdx_eq_take_drop_succ _ _
                have hEl : (left.eraseIdx (bestTo left j)).length = left.length - 1 := by rw [List.length_eraseIdx]; simp [hbl]
                refine ⟨insertS out left[bestTo left j], left.eraseIdx (bestTo left j), ?_, ?_, ?_, ?_, ?_, hb1'.trans (hb3.mono (by omega))⟩
                · rw [hEl, HC.out, hC2]
                · rw [insertS_length]; omega
                · rw [hEl]; omega
                · have hx := own_mono hown3 (show w.heap.size ≤ w1.heap.size by omega)
                  rw [hEl, hE, seatsCells_append, ← seatsCells_take, ← seatsCells_drop]
                  have e : left.length - 1 = bestTo left j + (left.length - (bestTo left j + 1)) := by omega
                  rw [e]
                  exact hx
                · exact own_mono (own_below hown1 hb3) (by omega)
              case measure =>
                obtain ⟨A3, c3, e3⟩ := own_shape hown3
                subst e3
                simp; omega
        · have hC2 : Hid (chooseS l = out) := by
            show chooseS l = out
            rw [HC.out]
            by_cases h7 : out.length < 7
            · have e : left = [] := by
                rcases left with _ | ⟨x, r⟩
                · rfl
                · exact absurd ⟨h7, by simp⟩ hcont
              subst e
              rfl
            · rcases left with _ | ⟨x, r⟩
              · rfl
              · simp only [List.length_cons, chooseLoop]
                split
                · rfl
                · rw [if_neg h7]
          go_wp2
          all_goals
            go_ret
            refine ⟨_, rfl, ?_, hb⟩
            rw [hC2.out]
            exact hownO
end Go.Proofs.Ytjjkdmngmopjbaa

namespace Go.Proofs.Ytjjkdmngmopjbaa
open Go.RowKit
def rawSeat (s : Seat) : Seat := ⟨1 + pickS s.who 12, 1 + pickS s.weight 40⟩
def rawBench (l : List Seat) : List Seat := (l.take 64).map rawSeat
def seatedS (l : List Seat) : List Seat := match chooseS (rawBench l) with
  | [] => [⟨1, 1⟩]
  | x :: r => x :: r
theorem rawBench_snoc (l : List Seat) (k : Nat) (hk : k < l.length) : (l.take (k + 1)).map rawSeat = (l.take k).map rawSeat ++ [rawSeat l[k]] := by
  rw [List.take_succ_eq_append_getElem hk, List.map_append]; rfl
set_option maxRecDepth 100000 in
set_option maxHeartbeats 400000 in
theorem seated_any (l : List Seat) (A : Option Addr) (c B : Nat) (w : World) (h : Seats w B A l) (hB : B ≤ w.heap.size) (hl : l.length ≤ 4096) (hwide : Wide l) :
    Calls Try.prog 31 #[.slice A l.length c] w fun e w' => ∃ v, e = .returned v ∧ w'.ownsRow w.heap.size 147 2 v (seatedS l).length (seatsCells (seatedS l)) ∧ Below w.heap.size w w' := by
  obtain ⟨i0, hi0, hz0, hz1, hz2⟩ := info_parts seatInfo
  go_enter Try.func31, Try.ntmps31
  go_wp2
  go_loopw [3, 4] (fun v i wr => ∃ k : Nat, k ≤ l.length ∧ k ≤ 64 ∧ i = .int .i64 k ∧ wr.ownsRow w.heap.size 147 2 v k (seatsCells ((l.take k).map rawSeat)) ∧ Below w.heap.size w wr) (fun _ i _ => l.length - (intOf i).toNat)
  case atStart => exact ⟨0, by omega, by omega, rfl, World.ownsRow_nil _ _ _ _, Below.refl _ _⟩
  case round =>
    obtain ⟨k, hk, hk64, rfl, hown, hb⟩ := hrel
    have hsz := hb.size
    by_cases hcont : k < l.length ∧ k < 64
    · obtain ⟨hlt, h64⟩ := hcont
      obtain ⟨b, off, rfl, hbB, hc0, hc1⟩ := Seats.at_ (h.below (hb.mono hB)) hlt
      obtain ⟨b', off', e, _, hd0, hd1⟩ := Seats.at_ h hlt
      simp only [Option.some.injEq, Addr.mk.injEq, and_true] at e
      obtain ⟨rfl, rfl⟩ := e
      have hw := hwide l[k] (List.getElem_mem hlt)
      have hli : (k : Int) < (l.length : Int) := by omega
      have h64i : (k : Int) < 64 := by omega
      have p0 := pickS_lo l[k].who 12 (by omega)
      have p1 := pickS_hi l[k].who 12 (by omega)
      have p2 := pickS_lo l[k].weight 40 (by omega)
      have p3 := pickS_hi l[k].weight 40 (by omega)
      have e1 : IntKind.i64.wrap (1 + pickS l[k].who 12) = 1 + pickS l[k].who 12 := IntWalk.i64_in _ (by omega)
      have e2 : IntKind.i64.wrap (1 + pickS l[k].weight 40) = 1 + pickS l[k].weight 40 := IntWalk.i64_in _ (by omega)
      have HS := Lib.hid (rawBench_snoc l k hlt)
      go_wp2
      go_region_held3 (fun w' => w'.cell? ⟨b, off + k * 2, none⟩ = some (.int .i64 l[k].who) ∧ w'.cell? ⟨b, off + k * 2 + 1, none⟩ = some (.int .i64 l[k].weight)) (go_keep)
        (first
          | (go_at_call 13; refine (pick_any _ _ _ (by omega) (by omega)).mono ?_; rintro e w' ⟨rfl, rfl⟩)
          | (refine step_append_any _ (by rfl) (.tmp 15) (.tmp 31) 80 (by rfl) w.heap.size 147 i0 _ 2 16 Try.underlying80 hi0 hz0 hz1 hz2 rfl (by omega) _ k _ (by rfl) (by exact own_drewN (hown.alloc _) 1) (wr.heap.size + 1) _ 1 1 [.int .i64 (1 + pickS l[k].who 12), .int .i64 (1 + pickS l[k].weight 40)] (by rfl) (by exact (Rd.laid wr #[.int .i64 (1 + pickS l[k].who 12), .int .i64 (1 + pickS l[k].weight 40)] 147 2 1 rfl).drewN 1) (fun u hu => by simp at hu; rcases hu with rfl | rfl <;> rfl) (by simp [maxLen]; omega) (by omega) (by simp; omega) ?_
             intro v2 w2 hown2 hg2 hat2
             have hb2 : Below w.heap.size w w2 := ((hb.alloc (by omega) _).drewN 1).grown hg2 (by simp; omega) (own_ge hown)
             have hx0 := (hb2.cell (p := ⟨b, off + k * 2, none⟩) (by simp; omega)).trans hd0
             have hx1 := (hb2.cell (p := ⟨b, off + k * 2 + 1, none⟩) (by simp; omega)).trans hd1))
      go_wp2
      go_roundw
      case rel =>
        refine ⟨k + 1, by omega, by omega, by go_num, ?_, hb2⟩
        rw [HS.out, seatsCells_append]
        exact hown2
      case measure => simp [intOf]; omega
    · have hR : Hid (rawBench l = (l.take k).map rawSeat ∧ (rawBench l).length = k) := by
        have e : l.take 64 = l.take k := by
          by_cases h : k < l.length
          · have : k = 64 := by omega
            rw [this]
          · rw [List.take_of_length_le (show l.length ≤ 64 by omega), List.take_of_length_le (show l.length ≤ k by omega)]
        refine ⟨by unfold rawBench; rw [e], ?_⟩
        unfold rawBench
        rw [e]; simp; omega
      obtain ⟨A1, c1, rfl⟩ := own_shape hown
      have hRd : Seats wr wr.heap.size A1 (rawBench l) := by
        show Rd wr wr.heap.size 2 A1 (rawBench l).length (seatsCells (rawBench l))
        rw [hR.out.2, hR.out.1]
        exact Rd.of_own hown
      obtain ⟨m, hm⟩ : ∃ m, m = rawBench l := ⟨_, rfl⟩
      rw [← hm] at hRd
      have hml : m.length = k := by rw [hm]; exact hR.out.2
      have hcs : Calls Try.prog 71 #[.slice A1 k c1] wr fun e w' => ∃ v, e = .returned v ∧ w'.ownsRow wr.heap.size 147 2 v (chooseS m).length (seatsCells (chooseS m)) ∧ Below wr.heap.size wr w' := by
        have := choose_any m A1 c1 wr.heap.size wr hRd (Nat.le_refl _) (by omega)
        rwa [hml] at this
      have HC := Lib.hid hcs
      have HM := Lib.hid hm
      have h2 : (l.length : Int) ≤ k ∨ (64 : Int) ≤ k := by omega
      clear hcs hm hml hRd hown hcont
      rcases h2 with h2 | h2
      all_goals
        go_wp2_with (first
          | (go_at_call 71; refine (HC.out).mono ?_; rintro e w1 ⟨v1, rfl, hown1, hb1⟩
             obtain ⟨A2, c2, rfl⟩ := own_shape hown1))
      all_goals
        have hbz : Below w.heap.size w w1 := hb.trans (hb1.mono hsz)
        first
          | (have hz : (((chooseS m).length : Int) == 0) = true := by assumption
             have hz' : chooseS m = [] := by simpa using hz
             have hS : seatedS l = [⟨1, 1⟩] := by unfold seatedS; rw [← HM.out, hz']
             go_ret
             refine ⟨_, rfl, ?_, hbz.alloc hbz.size _⟩
             rw [hS]
             exact World.ownsRow_lit w1 #[.int .i64 1, .int .i64 1] 1 hbz.size (by simp [maxLen]) rfl)
          | (have hz : (((chooseS m).length : Int) == 0) = false := by assumption
             have hS : seatedS l = chooseS m := by
               unfold seatedS; rw [← HM.out]
               rcases hc : chooseS m with _ | ⟨x, r⟩
               · simp [hc] at hz
               · rfl
             go_ret
             refine ⟨_, rfl, ?_, hbz⟩
             rw [hS]
             exact own_mono hown1 hsz)
end Go.Proofs.Ytjjkdmngmopjbaa

namespace Go.Proofs.Ytjjkdmngmopjbaa
theorem leftTo_sub (l : List Seat) (k : Nat) : ∀ x ∈ leftTo l k, x ∈ l.take k ∧ seatOk x = true := by
  induction k with
  | zero => intro x hx; simp [leftTo] at hx
  | succ k ih =>
    intro x hx
    have hs : ∀ y, y ∈ l.take k → y ∈ l.take (k + 1) := fun y hy => by
      obtain ⟨i, hi, e⟩ := List.getElem_of_mem hy
      simp at hi
      simp at e
      rw [List.mem_take_iff_getElem]
      exact ⟨i, by omega, e⟩
    unfold leftTo at hx
    split at hx
    · exact ⟨hs x (ih x hx).1, (ih x hx).2⟩
    · rename_i s hk
      split at hx
      · rename_i hc
        simp only [List.mem_append, List.mem_singleton] at hx
        rcases hx with hx | rfl
        · exact ⟨hs x (ih x hx).1, (ih x hx).2⟩
        · simp only [Bool.and_eq_true] at hc
          obtain ⟨hl, e⟩ := List.getElem?_eq_some_iff.1 hk
          refine ⟨?_, hc.2⟩
          rw [List.mem_take_iff_getElem]
          exact ⟨k, by omega, e⟩
      · exact ⟨hs x (ih x hx).1, (ih x hx).2⟩
theorem leftTo_distinct (l : List Seat) (k : Nat) : (leftTo l k).Pairwise (fun a b => a.who ≠ b.who) := by
  induction k with
  | zero => simp [leftTo]
  | succ k ih =>
    unfold leftTo
    split
    · exact ih
    · rename_i s hk
      split
      · rename_i hc
        rw [List.pairwise_append]
        refine ⟨ih, by simp, fun a ha b hb => ?_⟩
        simp at hb
        subst hb
        simp only [Bool.and_eq_true, firstOf, List.all_eq_true] at hc
        have := hc.1 a (leftTo_sub l k a ha).1
        simpa using this
      · exact ih
theorem insertS_eq (l : List Seat) (s : Seat) : insertS l s = l.takeWhile (fun x => decide (x.who < s.who)) ++ s :: l.dropWhile (fun x => decide (x.who < s.who)) := by
  have h1 : l.take (place l s) = l.takeWhile (fun x => decide (x.who < s.who)) := by
    unfold place
    induction l with
    | nil => rfl
    | cons x l ih => by_cases h : x.who < s.who <;> simp [h]; exact ih
  have h2 : l.drop (place l s) = l.dropWhile (fun x => decide (x.who < s.who)) := by
    clear h1
    unfold place
    induction l with
    | nil => rfl
    | cons x l ih => by_cases h : x.who < s.who <;> simp [h]; exact ih
  unfold insertS
  rw [h1, h2]
theorem insertS_mem (l : List Seat) (s x : Seat) : x ∈ insertS l s ↔ x = s ∨ x ∈ l := by
  unfold insertS
  have := List.take_append_drop (place l s) l
  constructor
  · intro h
    simp only [List.mem_append, List.mem_cons] at h
    rcases h with h | h | h
    · exact .inr (List.mem_of_mem_take h)
    · exact .inl h
    · exact .inr (List.mem_of_mem_drop h)
  · intro h
    simp only [List.mem_append, List.mem_cons]
    rcases h with h | h
    · exact .inr (.inl h)
    · rw [← this] at h
      rcases List.mem_append.1 h with h | h
      · exact .inl h
      · exact .inr (.inr h)
def Sorted (l : List Seat) : Prop := l.Pairwise (fun a b => a.who < b.who)
theorem takeWhile_lt (l : List Seat) (s : Seat) : ∀ x ∈ l.takeWhile (fun x => decide (x.who < s.who)), x.who < s.who := by
  induction l with
  | nil => simp
  | cons y l ih =>
    intro x hx
    by_cases h : y.who < s.who
    · simp [h] at hx
      rcases hx with rfl | hx
      · exact h
      · exact ih x hx
    · simp [h] at hx
theorem dropWhile_gt (l : List Seat) (s : Seat) (hl : Sorted l) (hne : ∀ x ∈ l, x.who ≠ s.who) : ∀ x ∈ l.dropWhile (fun x => decide (x.who < s.who)), s.who < x.who := by
  induction l with
  | nil => simp
  | cons y l ih =>
    intro x hx
    have hl' := List.pairwise_cons.1 hl
    by_cases h : y.who < s.who
    · simp [h] at hx
      exact ih hl'.2 (fun x hx => hne x (by simp [hx])) x hx
    · simp [h] at hx
      have hy := hne y (by simp)
      rcases hx with rfl | hx
      · omega
      · have := hl'.1 x hx
        omega
theorem insertS_sorted (l : List Seat) (s : Seat) (hl : Sorted l) (hne : ∀ x ∈ l, x.who ≠ s.who) : Sorted (insertS l s) := by
  rw [insertS_eq]
  have hs : Sorted (l.dropWhile (fun x => decide (x.who < s.who))) := List.Pairwise.sublist (List.dropWhile_sublist _) hl
  have ht : Sorted (l.takeWhile (fun x => decide (x.who < s.who))) := List.Pairwise.sublist (List.takeWhile_sublist _) hl
  unfold Sorted
  rw [List.pairwise_append]
  refine ⟨ht, List.pairwise_cons.2 ⟨dropWhile_gt l s hl hne, hs⟩, fun a ha b hb => ?_⟩
  have h1 := takeWhile_lt l s a ha
  simp only [List.mem_cons] at hb
  rcases hb with rfl | hb
  · exact h1
  · have := dropWhile_gt l s hl hne b hb
    omega
theorem chooseLoop_ok : ∀ (f : Nat) (out left : List Seat), Sorted out → left.Pairwise (fun a b => a.who ≠ b.who) → (∀ a ∈ out, ∀ b ∈ left, a.who ≠ b.who) → out.length ≤ 7 →
    Sorted (chooseLoop f out left) ∧ (chooseLoop f out left).length ≤ 7 ∧ (∀ x ∈ chooseLoop f out left, x ∈ out ∨ x ∈ left) ∧ (∀ x ∈ out, x ∈ chooseLoop f out left) := by
  intro f
  induction f with
  | zero => intro out left h1 _ _ h4; exact ⟨h1, h4, fun x hx => .inl hx, fun x hx => hx⟩
  | succ f ih =>
    intro out left h1 h2 h3 h4
    unfold chooseLoop
    split
    · exact ⟨h1, h4, fun x hx => .inl hx, fun x hx => hx⟩
    · rename_i s hs
      split
      · rename_i h7
        obtain ⟨hl, e⟩ := List.getElem?_eq_some_iff.1 hs
        have hm : s ∈ left := e ▸ List.getElem_mem hl
        have hsub := List.eraseIdx_sublist left (bestTo left left.length)
        have hne : ∀ x ∈ left.eraseIdx (bestTo left left.length), s.who ≠ x.who := by
          intro x hx
          rw [List.mem_eraseIdx_iff_getElem] at hx
          obtain ⟨i, hi, hne, rfl⟩ := hx
          rw [← e]
          rw [List.pairwise_iff_getElem] at h2
          rcases Nat.lt_or_gt_of_ne hne with hlt | hlt
          · exact (h2 i _ hi hl hlt).symm
          · exact h2 _ i hl hi hlt
        obtain ⟨g1, g2, g3, g4⟩ := ih (insertS out s) (left.eraseIdx (bestTo left left.length)) (insertS_sorted out s h1 (fun x hx => h3 x hx s hm)) (List.Pairwise.sublist hsub h2)
          (fun a ha b hb => by
            rcases (insertS_mem out s a).1 ha with rfl | ha
            · exact hne b hb
            · exact h3 a ha b (hsub.mem hb)) (by rw [insertS_length]; omega)
        refine ⟨g1, g2, fun x hx => ?_, fun x hx => g4 x ((insertS_mem out s x).2 (.inr hx))⟩
        rcases g3 x hx with hx | hx
        · rcases (insertS_mem out s x).1 hx with rfl | hx
          · exact .inr hm
          · exact .inl hx
        · exact .inr (hsub.mem hx)
      · exact ⟨h1, h4, fun x hx => .inl hx, fun x hx => hx⟩
/-- a bench of the laws' -/
structure Bench (x : List Seat) : Prop where
  sorted : Sorted x
  pos : 1 ≤ x.length
  most : x.length ≤ 7
  who : ∀ s ∈ x, 1 ≤ s.who ∧ s.who ≤ 12
  weight : ∀ s ∈ x, 1 ≤ s.weight ∧ s.weight ≤ 40
theorem chooseS_ok (l : List Seat) : Sorted (chooseS l) ∧ (chooseS l).length ≤ 7 ∧ ∀ x ∈ chooseS l, x ∈ l ∧ seatOk x = true := by
  obtain ⟨h1, h2, h3, _⟩ := chooseLoop_ok (leftTo l l.length).length [] (leftTo l l.length) (by simp [Sorted]) (leftTo_distinct l _) (by simp) (by simp)
  refine ⟨h1, h2, fun x hx => ?_⟩
  rcases h3 x hx with h | h
  · simp at h
  · have := leftTo_sub l l.length x h
    exact ⟨List.mem_of_mem_take this.1, this.2⟩
theorem seatedS_ok (l : List Seat) : Bench (seatedS l) := by
  have h := chooseS_ok (rawBench l)
  have hr : ∀ x ∈ rawBench l, (1 ≤ x.who ∧ x.who ≤ 12) ∧ 1 ≤ x.weight ∧ x.weight ≤ 40 := by
    intro x hx
    simp only [rawBench, List.mem_map] at hx
    obtain ⟨s, _, rfl⟩ := hx
    have p0 := pickS_lo s.who 12 (by omega)
    have p1 := pickS_hi s.who 12 (by omega)
    have p2 := pickS_lo s.weight 40 (by omega)
    have p3 := pickS_hi s.weight 40 (by omega)
    simp only [rawSeat]
    omega
  unfold seatedS
  rcases hc : chooseS (rawBench l) with _ | ⟨x, r⟩
  · exact ⟨by simp [Sorted], by simp, by simp, by simp, by simp⟩
  · rw [hc] at h
    exact ⟨h.1, by simp, h.2.1, fun s hs => (hr s (h.2.2 s hs).1).1, fun s hs => (hr s (h.2.2 s hs).1).2⟩
end Go.Proofs.Ytjjkdmngmopjbaa
namespace Go.Proofs.Ytjjkdmngmopjbaa
open Go.RowKit
/-! ### sums without wraps -/
def tsum : List Seat → Int
  | [] => 0
  | s :: l => s.weight + tsum l
def wsum (named : List Int) : List Seat → Int
  | [] => 0
  | s :: l => (if s.who ∈ named then s.weight else 0) + wsum named l
theorem tsum_bd (l : List Seat) (h : ∀ s ∈ l, 1 ≤ s.weight ∧ s.weight ≤ 40) : (l.length : Int) ≤ tsum l ∧ tsum l ≤ 40 * (l.length : Int) := by
  induction l with
  | nil => simp [tsum]
  | cons s l ih =>
    have h1 := h s (by simp)
    have h2 := ih fun x hx => h x (by simp [hx])
    simp only [tsum, List.length_cons]
    omega
theorem wsum_bd (named : List Int) (l : List Seat) (h : ∀ s ∈ l, 1 ≤ s.weight ∧ s.weight ≤ 40) : 0 ≤ wsum named l ∧ wsum named l ≤ tsum l := by
  induction l with
  | nil => simp [tsum, wsum]
  | cons s l ih =>
    have h1 := h s (by simp)
    have h2 := ih fun x hx => h x (by simp [hx])
    simp only [tsum, wsum]
    split <;> omega
theorem total_fold (l : List Seat) (h : ∀ s ∈ l, 1 ≤ s.weight ∧ s.weight ≤ 40) (acc : Int) (h0 : 0 ≤ acc) (h1 : acc + 40 * (l.length : Int) ≤ 1000000) : l.foldl (fun a s => wrap64 (a + s.weight)) acc = acc + tsum l := by
  induction l generalizing acc with
  | nil => simp [tsum]
  | cons s l ih =>
    have hs := h s (by simp)
    simp only [List.length_cons] at h1
    simp only [List.foldl_cons, tsum]
    rw [IntWalk.wrap64_in _ (by omega), ih (fun x hx => h x (by simp [hx])) _ (by omega) (by omega)]
    omega
theorem weightOf_fold (named : List Int) (l : List Seat) (h : ∀ s ∈ l, 1 ≤ s.weight ∧ s.weight ≤ 40) (acc : Int) (h0 : 0 ≤ acc) (h1 : acc + 40 * (l.length : Int) ≤ 1000000) : l.foldl (fun a s => if s.who ∈ named then wrap64 (a + s.weight) else a) acc = acc + wsum named l := by
  induction l generalizing acc with
  | nil => simp [wsum]
  | cons s l ih =>
    have hs := h s (by simp)
    simp only [List.length_cons] at h1
    simp only [List.foldl_cons, wsum]
    split
    · rw [IntWalk.wrap64_in _ (by omega), ih (fun x hx => h x (by simp [hx])) _ (by omega) (by omega)]
      omega
    · rw [ih (fun x hx => h x (by simp [hx])) _ (by omega) (by omega)]
      omega
theorem Bench.total {x : List Seat} (h : Bench x) : total x = tsum x ∧ 1 ≤ tsum x ∧ tsum x ≤ 280 := by
  have h1 := tsum_bd x h.weight
  have h2 := h.pos
  have h3 := h.most
  refine ⟨?_, by omega, by omega⟩
  unfold Go.Proofs.Ytjjkdmngmopjbaa.total
  rw [total_fold x h.weight 0 (by omega) (by omega)]
  omega
theorem Bench.weightOf {x : List Seat} (h : Bench x) (named : List Int) : weightOf x named = wsum named x ∧ 0 ≤ wsum named x ∧ wsum named x ≤ tsum x := by
  have h2 := h.pos
  have h3 := h.most
  refine ⟨?_, wsum_bd named x h.weight⟩
  unfold Go.Proofs.Ytjjkdmngmopjbaa.weightOf
  rw [weightOf_fold named x h.weight 0 (by omega) (by omega)]
  omega
theorem wsum_all (named : List Int) (l : List Seat) (h : ∀ s ∈ l, s.who ∈ named) : wsum named l = tsum l := by
  induction l with
  | nil => rfl
  | cons s l ih => simp only [wsum, tsum, h s (by simp), if_true, ih fun x hx => h x (by simp [hx])]
theorem wsum_nil (l : List Seat) : wsum [] l = 0 := by
  induction l with
  | nil => rfl
  | cons s l ih => simp [wsum, ih]
theorem wsum_meet (a b : List Int) (l : List Seat) (h : ∀ s ∈ l, 1 ≤ s.weight ∧ s.weight ≤ 40) : wsum a l + wsum b l ≤ tsum l + wsum (a.filter fun x => decide (x ∈ b)) l := by
  induction l with
  | nil => simp [wsum, tsum]
  | cons s l ih =>
    have h1 := h s (by simp)
    have h2 := ih fun x hx => h x (by simp [hx])
    simp only [wsum, tsum, List.mem_filter, decide_eq_true_eq]
    by_cases ha : s.who ∈ a <;> by_cases hb : s.who ∈ b <;> simp [ha, hb] <;> omega
/-- what Quorum and Some answer of a bench -/
def quorumB (x : List Seat) (named : List Int) : Bool := decide (wrap64 (2 * total x) < wrap64 (3 * weightOf x named))
def someB (x : List Seat) (named : List Int) : Bool := decide (total x < wrap64 (3 * weightOf x named))
theorem quorumB_eq {x : List Seat} (h : Bench x) (named : List Int) : quorumB x named = decide (2 * tsum x < 3 * wsum named x) := by
  have h1 := h.total
  have h2 := h.weightOf named
  unfold quorumB
  rw [h1.1, h2.1, IntWalk.wrap64_in _ (by omega), IntWalk.wrap64_in _ (by omega)]
theorem someB_eq {x : List Seat} (h : Bench x) (named : List Int) : someB x named = decide (tsum x < 3 * wsum named x) := by
  have h1 := h.total
  have h2 := h.weightOf named
  unfold someB
  rw [h1.1, h2.1, IntWalk.wrap64_in _ (by omega)]
theorem quorum_whole {x : List Seat} (h : Bench x) : quorumB x (x.map (·.who)) = true := by
  rw [quorumB_eq h, wsum_all _ _ (fun s hs => List.mem_map.2 ⟨s, hs, rfl⟩)]
  have := h.total
  simp; omega
theorem quorum_none {x : List Seat} (h : Bench x) : quorumB x [] = false := by
  rw [quorumB_eq h, wsum_nil]
  have := h.total
  simp; omega
theorem quorum_meet {x : List Seat} (h : Bench x) (a b : List Int) (ha : quorumB x a = true) (hb : quorumB x b = true) : someB x (a.filter fun x => decide (x ∈ b)) = true := by
  rw [quorumB_eq h] at ha hb
  rw [someB_eq h]
  have := wsum_meet a b x h.weight
  simp at ha hb ⊢
  omega
end Go.Proofs.Ytjjkdmngmopjbaa
