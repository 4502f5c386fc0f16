/- Of the texts Bench2, Bench3, BenchP, Hp0, Hp1, Hp2, Hp3. -/
import Derived.Test.YtlfonmpgenoooaaProg
import Derived.Test.YtlfonmpgenoooaaG16
import Derived.Deep.RegionHeld3
import Derived.Deep.RegionLaw
import Derived.WalkKit
set_option linter.unusedSimpArgs false
set_option linter.unusedVariables false
namespace Go.Proofs.Ytlfonmpgenoooaa
open Go.RowKit
def firstOf (l : List Seat) (who : Int) (k : Nat) : Bool := (l.take k).all fun x => x.who != who
theorem firstOf_succ (l : List Seat) (who : Int) (k : Nat) (hk : k < l.length) : firstOf l who (k + 1) = (firstOf l who k && l[k].who != who) := by
 unfold firstOf; rw [List.take_succ_eq_append_getElem hk, List.all_append, List.all_cons, List.all_nil, Bool.and_true]
def leftTo (l : List Seat) : Nat → List Seat
 | 0 => []
 | k + 1 => match l[k]? with
  | none => leftTo l k
  | some s => if firstOf l s.who k && seatOk s then leftTo l k ++ [s] else leftTo l k
theorem leftTo_le (l : List Seat) (k : Nat) : (leftTo l k).length ≤ k := by
 induction k with
 | zero => simp [leftTo]
 | succ k ih =>
  unfold leftTo; split
  ·omega
  ·split
   ·simp; omega
   ·omega
theorem leftTo_succ (l : List Seat) (k : Nat) (hk : k < l.length) : leftTo l (k + 1) = if firstOf l l[k].who k && seatOk l[k] then leftTo l k ++ [l[k]] else leftTo l k := by
 rw [leftTo, List.getElem?_eq_getElem hk]
def better (x y : Seat) : Bool := decide (y.weight < x.weight) || (x.weight == y.weight && decide (x.who < y.who))
def bestTo (l : List Seat) : Nat → Nat
 | 0 => 0
 | k + 1 => match l[k]?, l[bestTo l k]? with
  | some x, some y => if better x y then k else bestTo l k
  | _, _ => bestTo l k
theorem bestTo_lt (l : List Seat) (k : Nat) (h : 0 < l.length) : bestTo l k < l.length := by
 induction k with
 | zero => simpa [bestTo] using h
 | succ k ih =>
  unfold bestTo; split
  ·rename_i x y hx hy
   split
   ·exact (List.getElem?_eq_some_iff.1 hx).1
   ·exact ih
  ·exact ih
theorem bestTo_succ (l : List Seat) (k : Nat) (hk : k < l.length) (hb : bestTo l k < l.length) : bestTo l (k + 1) = if better l[k] l[bestTo l k] then k else bestTo l k := by
 rw [bestTo, List.getElem?_eq_getElem hk, List.getElem?_eq_getElem hb]
theorem better_self (x : Seat) : better x x = false := by simp [better]
theorem bestTo_one (l : List Seat) : bestTo l 1 = 0 := by
 unfold bestTo; split
 ·split
  ·rfl
  ·rfl
 ·rfl
def chooseLoop : Nat → List Seat → List Seat → List Seat
 | 0, out, _ => out
 | f + 1, out, left => match left[bestTo left left.length]? with
  | none => out
  | some s => if out.length < 7 then chooseLoop f (insertS out s) (left.eraseIdx (bestTo left left.length)) else out
def chooseS (l : List Seat) : List Seat := chooseLoop (leftTo l l.length).length [] (leftTo l l.length)
theorem chooseLoop_step (out left : List Seat) (b : Nat) (hb : bestTo left left.length = b) (hl : b < left.length) (h7 : out.length < 7) : chooseLoop left.length out left = chooseLoop (left.length - 1) (insertS out left[b]) (left.eraseIdx b) := by
 have key : ∀ f, left.length = f + 1 → chooseLoop (f + 1) out left = chooseLoop f (insertS out left[b]) (left.eraseIdx b) := fun f hf => by
  simp only [chooseLoop, hb, List.getElem?_eq_getElem hl, if_pos h7]
 obtain ⟨f, hf⟩ : ∃ f, left.length = f + 1 := ⟨left.length - 1, by omega⟩
 have := key f hf; have e1 : left.length - 1 = f := by omega
 rw [e1]; rw [← this]
 congr 1
theorem insertS_length (l : List Seat) (s : Seat) : (insertS l s).length = l.length + 1 := by
 have := place_le l s; simp [insertS]; omega
set_option maxRecDepth 100000 in
set_option maxHeartbeats 1000000 in
theorem choose_any (l : List Seat) (A : Option Addr) (c B : Nat) (w : World) (h : Seats w B A l) (hB : B ≤ w.heap.size) (hl : l.length < 65536) :
    Calls Try.prog 5 #[.slice A l.length c] w fun e w' => ∃ v, e = .returned v ∧ w'.ownsRow w.heap.size 38 2 v (chooseS l).length (seatsCells (chooseS l)) ∧ Below w.heap.size w w' := by
  obtain ⟨i0, hi0, hz0, hz1, hz2⟩ := info_parts seatInfo
  go_enter Try.func5, Try.ntmps5
  go_wp2
  go_loopw [3, 4, 5, 6, 7] (fun v i o1 o2 o3 wr => ∃ k : Nat, k ≤ l.length ∧ i = .int .i64 k ∧ wr.ownsRow w.heap.size 38 2 v (leftTo l k).length (seatsCells (leftTo l k)) ∧ Below w.heap.size w wr) (fun _ i _ _ _ _ => l.length - (intOf i).toNat)
  case atStart => exact ⟨0, by omega, rfl, World.ownsRow_nil _ _ _ _, Below.refl _ _⟩
  case round =>
    obtain ⟨k, hk, rfl, hown, hb⟩ := hrel
    by_cases hlt : k < l.length
    · obtain ⟨b, off, rfl, hbB, hc0, hc1⟩ := Seats.at_ (h.below (hb.mono hB)) hlt
      go_wp2
      obtain ⟨wo, rfl⟩ : ∃ wo : World, wo = wr := ⟨_, rfl⟩
      go_loopw [5, 6] (fun f i wr => ∃ j : Nat, j ≤ k ∧ i = .int .i64 j ∧ f = .bool (firstOf l l[k].who j) ∧ Below wo.heap.size wo wr) (fun _ i _ => k - (intOf i).toNat)
      case atStart => exact ⟨0, by omega, rfl, rfl, Below.refl _ _⟩
      case round =>
        obtain ⟨j, hj, rfl, rfl, hbo⟩ := hrel
        have hc0' := (hbo.cell (p := ⟨b, off + k * 2, none⟩) (by have := hb.size; simp; omega)).trans hc0
        have hc1' := (hbo.cell (p := ⟨b, off + k * 2 + 1, none⟩) (by have := hb.size; simp; omega)).trans hc1
        have hsz := hb.size
        have hsz' := hbo.size
        have hb' : Below w.heap.size w wr := hb.trans (hbo.mono hsz)
        have hown' := own_below hown hbo
        clear hc0 hc1 hown
        by_cases hjk : j < k
        · obtain ⟨b', off', e, hbB', hd0, hd1⟩ := Seats.at_ (h.below (hb'.mono hB)) (show j < l.length by omega)
          simp only [Option.some.injEq, Addr.mk.injEq, and_true] at e
          obtain ⟨rfl, rfl⟩ := e
          have hi1 : (j : Int) < (l.length : Int) := by omega
          have hi2 : (k : Int) < (l.length : Int) := by omega
          have HS := Lib.hid (firstOf_succ l l[k].who j (by omega))
          cases hf : firstOf l l[k].who j
          · go_wp2
            go_quiet (fail)
            go_wp2
            go_roundw
            case rel => exact ⟨j + 1, by omega, by go_num, by rw [HS.out, hf]; rfl, hbo.drewN _⟩
            case measure => simp [intOf]; omega
          · go_wp2
            go_quiet (fail)
            go_wp2
            go_roundw
            case rel => exact ⟨j + 1, by omega, by go_num, by rw [HS.out, hf]; rfl, hbo.drewN _⟩
            case measure => simp [intOf]; omega
        · have hL := Lib.hid (leftTo_succ l k hlt)
          have hjk' : Hid (j = k) := show j = k by omega
          have hLk := leftTo_le l k
          have hoff : off + k * 2 + 1 = off + k * 2 + 1 := rfl
          clear hoff
          go_wp2_with (first
            | (go_at_call 28; refine (seatMay_any l[k] _).mono ?_; rintro e w1 ⟨rfl, hb1⟩
               have hk0 := (hb1.cell (p := ⟨b, off + k * 2, none⟩) (by simp; omega)).trans hc0'
               have hk1 := (hb1.cell (p := ⟨b, off + k * 2 + 1, none⟩) (by simp; omega)).trans hc1'
               have hb1' := hb'.trans (hb1.mono (by omega))
               have hown1 := own_below hown' hb1
               have hsz1 := hb1.size)
            | (at_builtin; refine wpList_append_any _ rfl (.tmp 45) (.tmp 50) 22 rfl w.heap.size 38 i0 _ 2 16 Try.underlying22 hi0 hz0 hz1 hz2 rfl (by omega) _ (leftTo l k).length _ (by rfl) (hown1.alloc _) (w1.heap.size + 1) _ 1 1 [.int .i64 l[k].who, .int .i64 l[k].weight] (by rfl) (Rd.laid w1 #[.int .i64 l[k].who, .int .i64 l[k].weight] 38 2 1 rfl) (fun u hu => by simp at hu; rcases hu with rfl | rfl <;> rfl) (by simp [maxLen]; omega) (by omega) (by simp; omega) ?_
               intro v2 w2 hown2 hg2 hat2
               have hb2 : Below w.heap.size w w2 := (hb1'.alloc (by omega) _).grown hg2 (by simp; omega) (own_ge hown1)))
          · have h1 : firstOf l l[k].who j = true := by assumption
            have h2 : seatOk l[k] = true := by assumption
            go_roundw
            case rel =>
              refine ⟨k + 1, by omega, by go_num, ?_, hb2⟩
              rw [hjk'.out] at h1
              rw [hL.out, h1, h2]
              simp only [Bool.and_self, if_true, List.length_append, List.length_cons, List.length_nil, seatsCells_append]
              exact hown2
            case measure => simp [intOf]; omega
          · have h2 : seatOk l[k] = false := by assumption
            go_roundw
            case rel =>
              refine ⟨k + 1, by omega, by go_num, ?_, hb1'⟩
              rw [hL.out, h2]
              simpa using hown1
            case measure => simp [intOf]; omega
          · have h1 : firstOf l l[k].who j = false := by assumption
            go_roundw
            case rel =>
              refine ⟨k + 1, by omega, by go_num, ?_, hb1'⟩
              rw [hjk'.out] at h1
              rw [hL.out, h1]
              simpa using hown1
            case measure => simp [intOf]; omega
    · clear hB
      go_wp2
      go_loopw [3, 8, 9, 10] (fun v o b i wr => ∃ (out left : List Seat), chooseS l = chooseLoop left.length out left ∧ out.length ≤ 7 ∧ left.length ≤ l.length ∧ wr.ownsRow w.heap.size 38 2 v left.length (seatsCells left) ∧ wr.ownsRow w.heap.size 38 2 o out.length (seatsCells out) ∧ Below w.heap.size w wr) (fun v _ _ _ _ => match v with | .slice _ n _ => n | _ => 0)
      case atStart =>
        have e : k = l.length := by omega
        subst e
        exact ⟨[], _, rfl, by simp, leftTo_le _ _, hown, World.ownsRow_nil _ _ _ _, hb⟩
      case round =>
        obtain ⟨out, left, hC, ho7, hleft, hownL, hownO, hb⟩ := hrel
        have HC := Lib.hid hC
        clear hC
        obtain ⟨AL, cL, rfl⟩ := own_shape hownL
        obtain ⟨AO, cO, rfl⟩ := own_shape hownO
        have hcL := own_cap hownL
        have hcO := own_cap hownO
        by_cases hcont : out.length < 7 ∧ 0 < left.length
        · obtain ⟨h7, hpos⟩ := hcont
          have hsz := hb.size
          have h7i : (out.length : Int) < 7 := by omega
          have hpi : (0 : Int) < (left.length : Int) := by omega
          go_wp2
          obtain ⟨wo, rfl⟩ : ∃ wo : World, wo = wr := ⟨_, rfl⟩
          go_loopw [9, 10] (fun b i wr => ∃ j : Nat, 1 ≤ j ∧ j ≤ left.length ∧ i = .int .i64 j ∧ b = .int .i64 (bestTo left j) ∧ Below wo.heap.size wo wr) (fun _ i _ => left.length - (intOf i).toNat)
          case atStart => exact ⟨1, by omega, by omega, rfl, by rw [bestTo_one]; rfl, Below.refl _ _⟩
          case round =>
            obtain ⟨j, hj1, hj, rfl, rfl, hbo⟩ := hrel
            have hbl := bestTo_lt left j hpos
            have hownL' := own_below hownL hbo
            have hownO' := own_below hownO hbo
            have hsz' := hbo.size
            have hb' := hb.trans (hbo.mono (by omega))
            clear hownL hownO
            obtain ⟨b, off, hAL, hbB, hd0, hd1⟩ := Seats.at_ (l := left) (Rd.of_own hownL') hbl
            subst hAL
            have hbi : (bestTo left j : Int) < (left.length : Int) := by omega
            by_cases hjl : j < left.length
            · obtain ⟨b', off', e, _, hc0, hc1⟩ := Seats.at_ (l := left) (Rd.of_own hownL') hjl
              simp only [Option.some.injEq, Addr.mk.injEq, and_true] at e
              obtain ⟨rfl, rfl⟩ := e
              have hji : (j : Int) < (left.length : Int) := by omega
              have HS := Lib.hid (bestTo_succ left j hjl hbl)
              rcases Int.lt_trichotomy left[bestTo left j].weight left[j].weight with h1 | h1 | h1
              · go_wp2
                go_quiet (fail)
                go_wp2
                go_roundw
                case rel => exact ⟨j + 1, by omega, by omega, by go_num, by rw [HS.out]; rw [if_pos (by simp [better]; omega)], hbo.drewN _⟩
                case measure => simp [intOf]; omega
              · have g1 : decide (left[bestTo left j].weight < left[j].weight) = false := by simp; omega
                have g2 : (left[j].weight == left[bestTo left j].weight) = true := by simp; omega
                have H1 := Lib.hid h1
                clear h1
                go_wp2
                go_quiet (fail)
                go_wp2
                · go_roundw
                  case rel => exact ⟨j + 1, by omega, by omega, by go_num, by rw [HS.out]; rw [if_pos (by have := H1.out; simp [better]; omega)], hbo.drewN _⟩
                  case measure => simp [intOf]; omega
                · go_roundw
                  case rel => exact ⟨j + 1, by omega, by omega, by go_num, by rw [HS.out]; rw [if_neg (by have := H1.out; simp [better]; omega)], hbo.drewN _⟩
                  case measure => simp [intOf]; omega
              · have g1 : decide (left[bestTo left j].weight < left[j].weight) = false := by simp; omega
                have g2 : (left[j].weight == left[bestTo left j].weight) = false := by simp; omega
                go_wp2
                go_quiet (fail)
                go_wp2
                go_roundw
                case rel => exact ⟨j + 1, by omega, by omega, by go_num, by rw [HS.out]; rw [if_neg (by simp [better]; omega)], hbo.drewN _⟩
                case measure => simp [intOf]; omega
            · have HJ : Hid (j = left.length) := show j = left.length by omega
              go_wp2_with (first
                | (go_at_call 29; refine (insert_any out left[bestTo left j] AO cO wr.heap.size wr (Rd.of_own hownO') (Nat.le_refl _) (by omega) hcO).mono ?_; rintro e w1 ⟨v1, rfl, hown1, hb1⟩
                   have hb1' := hb'.trans (hb1.mono (by omega))
                   have hownL1 := own_below hownL' hb1
                   have hsz1 := hb1.size))
              have hb0 : (0 : Int) ≤ (bestTo left j : Int) := by omega
              have hw0 : IntKind.i64.wrap ((bestTo left j : Int) + 1) = (bestTo left j : Int) + 1 := IntWalk.i64_in _ (by omega)
              have hw1 : (0 : Int) ≤ (bestTo left j : Int) + 1 := by omega
              have hw2 : (bestTo left j : Int) + 1 ≤ (left.length : Int) := by omega
              have hw3 : ((bestTo left j : Int) + 1).toNat = bestTo left j + 1 := by omega
              have hw4 : (bestTo left j : Int) ≤ (cL : Int) := by omega
              have hw5 : (left.length : Int) ≤ (cL : Int) := by omega
              have hownA : ∀ n, ((w1.alloc (.cells #[] 38)).drewN n).ownsRow w1.heap.size 38 2 (.slice (some ⟨w1.heap.size, 0, none⟩) 0 0) 0 [] := fun n => own_drewN (World.ownsRow_made (base := w1.heap.size) (e := 38) (size := 2) w1 #[] 0 (Nat.le_refl _) (by simp [maxLen]) (by simp)) n
              have hRL : Rd w1 w1.heap.size 2 (some ⟨b, off, none⟩) left.length (seatsCells left) := Rd.of_own hownL1
              go_region_held3 (fun _ => True) (trivial) (first
                | (refine step_append_any _ (by rfl) (.tmp 110) (.tmp 113) 22 (by rfl) w1.heap.size 38 i0 _ 2 16 Try.underlying22 hi0 hz0 hz1 hz2 rfl (by omega) (.slice (some ⟨w1.heap.size, 0, none⟩) 0 0) 0 [] (by rfl) (by exact hownA 1) w1.heap.size _ (bestTo left j) cL ((seatsCells left).take (bestTo left j * 2)) (by rfl) (by exact ((hRL.alloc (Nat.le_refl _) _).drewN 1).take (by omega)) (fun u hu => seatsCells_one left u (List.mem_of_mem_take hu)) (by simp [maxLen]; omega) (by omega) (by simp) ?_
                   intro v2 w2 hown2 hg2 hat2
                   simp only [Nat.zero_add, List.nil_append] at hown2
                   have hb2 : Below w1.heap.size w1 w2 := (((Below.refl _ w1).alloc (Nat.le_refl _) _).drewN 1).grown hg2 (by simp) (by simp [Value.ownBlock])
                   have hsz2 := hb2.size)
                | (refine step_append_any _ (by rfl) (.tmp 114) (.tmp 118) 22 (by rfl) w1.heap.size 38 i0 _ 2 16 Try.underlying22 hi0 hz0 hz1 hz2 rfl (by omega) v2 (bestTo left j) _ (by rfl) hown2 w1.heap.size _ (left.length - (bestTo left j + 1)) (cL - (bestTo left j + 1)) ((seatsCells left).drop ((bestTo left j + 1) * 2)) (by rfl) (by first | exact (hRL.below hb2).cut_lt (by omega) | exact (hRL.below hb2).cut (by omega) (by omega) | exact (hRL.below hb2).cut_all (by omega) _) (fun u hu => seatsCells_one left u (List.mem_of_mem_drop hu)) (by simp [maxLen]; omega) (by omega) (by omega) ?_
                   intro v3 w3 hown3 hg3 hat3))
              have hb3 : Below w1.heap.size w1 w3 := hb2.grown hg3 hsz2 (own_ge hown2)
              go_wp2
              go_roundw
              case rel =>
                have hC2 := chooseLoop_step out left (bestTo left j) (by rw [HJ.out]) hbl h7
                have hE : left.eraseIdx (bestTo left j) = left.take (bestTo left j) ++ left.drop (bestTo left j + 1) := List.eraseIdx_eq_take_drop_succ _ _
                have hEl : (left.eraseIdx (bestTo left j)).length = left.length - 1 := by rw [List.length_eraseIdx]; simp [hbl]
                refine ⟨insertS out left[bestTo left j], left.eraseIdx (bestTo left j), ?_, ?_, ?_, ?_, ?_, hb1'.trans (hb3.mono (by omega))⟩
                · rw [hEl, HC.out, hC2]
                · rw [insertS_length]; omega
                · rw [hEl]; omega
                · have hx := own_mono hown3 (show w.heap.size ≤ w1.heap.size by omega)
                  rw [hEl, hE, seatsCells_append, ← seatsCells_take, ← seatsCells_drop]
                  have e : left.length - 1 = bestTo left j + (left.length - (bestTo left j + 1)) := by omega
                  rw [e]
                  exact hx
                · exact own_mono (own_below hown1 hb3) (by omega)
              case measure =>
                obtain ⟨A3, c3, e3⟩ := own_shape hown3
                subst e3
                simp; omega
        · have hC2 : Hid (chooseS l = out) := by
            show chooseS l = out
            rw [HC.out]
            by_cases h7 : out.length < 7
            · have e : left = [] := by
                rcases left with _ | ⟨x, r⟩
                · rfl
                · exact absurd ⟨h7, by simp⟩ hcont
              subst e
              rfl
            · rcases left with _ | ⟨x, r⟩
              · rfl
              · simp only [List.length_cons, chooseLoop]
                split
                · rfl
                · rw [if_neg h7]
          go_wp2
          all_goals
            go_ret
            refine ⟨_, rfl, ?_, hb⟩
            rw [hC2.out]
            exact hownO
def rawSeat (s : Seat) : Seat := ⟨1 + pickS s.who 12, 1 + pickS s.weight 40⟩
def rawBench (l : List Seat) : List Seat := (l.take 64).map rawSeat
def seatedS (l : List Seat) : List Seat := match chooseS (rawBench l) with
 | [] => [⟨1, 1⟩]
 | x :: r => x :: r
theorem rawBench_snoc (l : List Seat) (k : Nat) (hk : k < l.length) : (l.take (k + 1)).map rawSeat = (l.take k).map rawSeat ++ [rawSeat l[k]] := by
 rw [List.take_succ_eq_append_getElem hk, List.map_append]; rfl
set_option maxRecDepth 100000 in
set_option maxHeartbeats 400000 in
theorem seated_any (l : List Seat) (A : Option Addr) (c B : Nat) (w : World) (h : Seats w B A l) (hB : B ≤ w.heap.size) (hl : l.length ≤ 4096) (hwide : Wide l) :
    Calls Try.prog 11 #[.slice A l.length c] w fun e w' => ∃ v, e = .returned v ∧ w'.ownsRow w.heap.size 38 2 v (seatedS l).length (seatsCells (seatedS l)) ∧ Below w.heap.size w w' := by
  obtain ⟨i0, hi0, hz0, hz1, hz2⟩ := info_parts seatInfo
  go_enter Try.func11, Try.ntmps11
  go_wp2
  go_loopw [3, 4] (fun v i wr => ∃ k : Nat, k ≤ l.length ∧ k ≤ 64 ∧ i = .int .i64 k ∧ wr.ownsRow w.heap.size 38 2 v k (seatsCells ((l.take k).map rawSeat)) ∧ Below w.heap.size w wr) (fun _ i _ => l.length - (intOf i).toNat)
  case atStart => exact ⟨0, by omega, by omega, rfl, World.ownsRow_nil _ _ _ _, Below.refl _ _⟩
  case round =>
    obtain ⟨k, hk, hk64, rfl, hown, hb⟩ := hrel
    have hsz := hb.size
    by_cases hcont : k < l.length ∧ k < 64
    · obtain ⟨hlt, h64⟩ := hcont
      obtain ⟨b, off, rfl, hbB, hc0, hc1⟩ := Seats.at_ (h.below (hb.mono hB)) hlt
      obtain ⟨b', off', e, _, hd0, hd1⟩ := Seats.at_ h hlt
      simp only [Option.some.injEq, Addr.mk.injEq, and_true] at e
      obtain ⟨rfl, rfl⟩ := e
      have hw := hwide l[k] (List.getElem_mem hlt)
      have hli : (k : Int) < (l.length : Int) := by omega
      have h64i : (k : Int) < 64 := by omega
      have p0 := pickS_lo l[k].who 12 (by omega)
      have p1 := pickS_hi l[k].who 12 (by omega)
      have p2 := pickS_lo l[k].weight 40 (by omega)
      have p3 := pickS_hi l[k].weight 40 (by omega)
      have e1 : IntKind.i64.wrap (1 + pickS l[k].who 12) = 1 + pickS l[k].who 12 := IntWalk.i64_in _ (by omega)
      have e2 : IntKind.i64.wrap (1 + pickS l[k].weight 40) = 1 + pickS l[k].weight 40 := IntWalk.i64_in _ (by omega)
      have HS := Lib.hid (rawBench_snoc l k hlt)
      go_wp2
      go_region_held3 (fun w' => w'.cell? ⟨b, off + k * 2, none⟩ = some (.int .i64 l[k].who) ∧ w'.cell? ⟨b, off + k * 2 + 1, none⟩ = some (.int .i64 l[k].weight)) (go_keep)
        (first
          | (go_at_call 32; refine (pick_any _ _ _ (by omega) (by omega)).mono ?_; rintro e w' ⟨rfl, rfl⟩)
          | (refine step_append_any _ (by rfl) (.tmp 15) (.tmp 31) 22 (by rfl) w.heap.size 38 i0 _ 2 16 Try.underlying22 hi0 hz0 hz1 hz2 rfl (by omega) _ k _ (by rfl) (by exact own_drewN (hown.alloc _) 1) (wr.heap.size + 1) _ 1 1 [.int .i64 (1 + pickS l[k].who 12), .int .i64 (1 + pickS l[k].weight 40)] (by rfl) (by exact (Rd.laid wr #[.int .i64 (1 + pickS l[k].who 12), .int .i64 (1 + pickS l[k].weight 40)] 38 2 1 rfl).drewN 1) (fun u hu => by simp at hu; rcases hu with rfl | rfl <;> rfl) (by simp [maxLen]; omega) (by omega) (by simp; omega) ?_
             intro v2 w2 hown2 hg2 hat2
             have hb2 : Below w.heap.size w w2 := ((hb.alloc (by omega) _).drewN 1).grown hg2 (by simp; omega) (own_ge hown)
             have hx0 := (hb2.cell (p := ⟨b, off + k * 2, none⟩) (by simp; omega)).trans hd0
             have hx1 := (hb2.cell (p := ⟨b, off + k * 2 + 1, none⟩) (by simp; omega)).trans hd1))
      go_wp2
      go_roundw
      case rel =>
        refine ⟨k + 1, by omega, by omega, by go_num, ?_, hb2⟩
        rw [HS.out, seatsCells_append]
        exact hown2
      case measure => simp [intOf]; omega
    · have hR : Hid (rawBench l = (l.take k).map rawSeat ∧ (rawBench l).length = k) := by
        have e : l.take 64 = l.take k := by
          by_cases h : k < l.length
          · have : k = 64 := by omega
            rw [this]
          · rw [List.take_of_length_le (show l.length ≤ 64 by omega), List.take_of_length_le (show l.length ≤ k by omega)]
        refine ⟨by unfold rawBench; rw [e], ?_⟩
        unfold rawBench
        rw [e]; simp; omega
      obtain ⟨A1, c1, rfl⟩ := own_shape hown
      have hRd : Seats wr wr.heap.size A1 (rawBench l) := by
        show Rd wr wr.heap.size 2 A1 (rawBench l).length (seatsCells (rawBench l))
        rw [hR.out.2, hR.out.1]
        exact Rd.of_own hown
      obtain ⟨m, hm⟩ : ∃ m, m = rawBench l := ⟨_, rfl⟩
      rw [← hm] at hRd
      have hml : m.length = k := by rw [hm]; exact hR.out.2
      have hcs : Calls Try.prog 5 #[.slice A1 k c1] wr fun e w' => ∃ v, e = .returned v ∧ w'.ownsRow wr.heap.size 38 2 v (chooseS m).length (seatsCells (chooseS m)) ∧ Below wr.heap.size wr w' := by
        have := choose_any m A1 c1 wr.heap.size wr hRd (Nat.le_refl _) (by omega)
        rwa [hml] at this
      have HC := Lib.hid hcs
      have HM := Lib.hid hm
      have h2 : (l.length : Int) ≤ k ∨ (64 : Int) ≤ k := by omega
      clear hcs hm hml hRd hown hcont
      rcases h2 with h2 | h2
      all_goals
        go_wp2_with (first
          | (go_at_call 5; refine (HC.out).mono ?_; rintro e w1 ⟨v1, rfl, hown1, hb1⟩
             obtain ⟨A2, c2, rfl⟩ := own_shape hown1))
      all_goals
        have hbz : Below w.heap.size w w1 := hb.trans (hb1.mono hsz)
        first
          | (have hz : (((chooseS m).length : Int) == 0) = true := by assumption
             have hz' : chooseS m = [] := by simpa using hz
             have hS : seatedS l = [⟨1, 1⟩] := by unfold seatedS; rw [← HM.out, hz']
             go_ret
             refine ⟨_, rfl, ?_, hbz.alloc hbz.size _⟩
             rw [hS]
             exact World.ownsRow_lit w1 #[.int .i64 1, .int .i64 1] 1 hbz.size (by simp [maxLen]) rfl)
          | (have hz : (((chooseS m).length : Int) == 0) = false := by assumption
             have hS : seatedS l = chooseS m := by
               unfold seatedS; rw [← HM.out]
               rcases hc : chooseS m with _ | ⟨x, r⟩
               · simp [hc] at hz
               · rfl
             go_ret
             refine ⟨_, rfl, ?_, hbz⟩
             rw [hS]
             exact own_mono hown1 hsz)
end Go.Proofs.Ytlfonmpgenoooaa
namespace Go.Proofs.Ytlfonmpgenoooaa
theorem leftTo_sub (l : List Seat) (k : Nat) : ∀ x ∈ leftTo l k, x ∈ l.take k ∧ seatOk x = true := by
 induction k with
 | zero => intro x hx; simp [leftTo] at hx
 | succ k ih =>
  intro x hx; have hs : ∀ y, y ∈ l.take k → y ∈ l.take (k + 1) := fun y hy => by
   obtain ⟨i, hi, e⟩ := List.getElem_of_mem hy; simp at hi; simp at e; rw [List.mem_take_iff_getElem]; exact ⟨i, by omega, e⟩
  unfold leftTo at hx; split at hx
  ·exact ⟨hs x (ih x hx).1, (ih x hx).2⟩
  ·rename_i s hk
   split at hx
   ·rename_i hc
    simp only [List.mem_append, List.mem_singleton] at hx
    rcases hx with hx | rfl
    ·exact ⟨hs x (ih x hx).1, (ih x hx).2⟩
    ·simp only [Bool.and_eq_true] at hc; obtain ⟨hl, e⟩ := List.getElem?_eq_some_iff.1 hk; refine ⟨?_, hc.2⟩; rw [List.mem_take_iff_getElem]; exact ⟨k, by omega, e⟩
   ·exact ⟨hs x (ih x hx).1, (ih x hx).2⟩
theorem leftTo_distinct (l : List Seat) (k : Nat) : (leftTo l k).Pairwise (fun a b => a.who ≠ b.who) := by
 induction k with
 | zero => simp [leftTo]
 | succ k ih =>
  unfold leftTo; split
  ·exact ih
  ·rename_i s hk
   split
   ·rename_i hc
    rw [List.pairwise_append]; refine ⟨ih, by simp, fun a ha b hb => ?_⟩; simp at hb; subst hb; simp only [Bool.and_eq_true, firstOf, List.all_eq_true] at hc; have := hc.1 a (leftTo_sub l k a ha).1; simpa using this
   ·exact ih
theorem insertS_eq (l : List Seat) (s : Seat) : insertS l s = l.takeWhile (fun x => decide (x.who < s.who)) ++ s :: l.dropWhile (fun x => decide (x.who < s.who)) := by
 have h1 : l.take (place l s) = l.takeWhile (fun x => decide (x.who < s.who)) := by
  unfold place
  induction l with
  | nil => rfl
  | cons x l ih => by_cases h : x.who < s.who <;> simp [h]; exact ih
 have h2 : l.drop (place l s) = l.dropWhile (fun x => decide (x.who < s.who)) := by
  clear h1; unfold place
  induction l with
  | nil => rfl
  | cons x l ih => by_cases h : x.who < s.who <;> simp [h]; exact ih
 unfold insertS; rw [h1, h2]
theorem insertS_mem (l : List Seat) (s x : Seat) : x ∈ insertS l s ↔ x = s ∨ x ∈ l := by
 unfold insertS; have := List.take_append_drop (place l s) l; constructor
 ·intro h; simp only [List.mem_append, List.mem_cons] at h
  rcases h with h | h | h
  ·exact .inr (List.mem_of_mem_take h)
  ·exact .inl h
  ·exact .inr (List.mem_of_mem_drop h)
 ·intro h; simp only [List.mem_append, List.mem_cons]
  rcases h with h | h
  ·exact .inr (.inl h)
  ·rw [← this] at h
   rcases List.mem_append.1 h with h | h
   ·exact .inl h
   ·exact .inr (.inr h)
def Sorted (l : List Seat) : Prop := l.Pairwise (fun a b => a.who < b.who)
theorem takeWhile_lt (l : List Seat) (s : Seat) : ∀ x ∈ l.takeWhile (fun x => decide (x.who < s.who)), x.who < s.who := by
 induction l with
 | nil => simp
 | cons y l ih =>
  intro x hx
  by_cases h : y.who < s.who
  ·simp [h] at hx
   rcases hx with rfl | hx
   ·exact h
   ·exact ih x hx
  ·simp [h] at hx
theorem dropWhile_gt (l : List Seat) (s : Seat) (hl : Sorted l) (hne : ∀ x ∈ l, x.who ≠ s.who) : ∀ x ∈ l.dropWhile (fun x => decide (x.who < s.who)), s.who < x.who := by
 induction l with
 | nil => simp
 | cons y l ih =>
  intro x hx; have hl' := List.pairwise_cons.1 hl
  by_cases h : y.who < s.who
  ·simp [h] at hx; exact ih hl'.2 (fun x hx => hne x (by simp [hx])) x hx
  ·simp [h] at hx; have hy := hne y (by simp)
   rcases hx with rfl | hx
   ·omega
   ·have := hl'.1 x hx; omega
theorem insertS_sorted (l : List Seat) (s : Seat) (hl : Sorted l) (hne : ∀ x ∈ l, x.who ≠ s.who) : Sorted (insertS l s) := by
 rw [insertS_eq]; have hs : Sorted (l.dropWhile (fun x => decide (x.who < s.who))) := List.Pairwise.sublist (List.dropWhile_sublist _) hl; have ht : Sorted (l.takeWhile (fun x => decide (x.who < s.who))) := List.Pairwise.sublist (List.takeWhile_sublist _) hl; unfold Sorted; rw [List.pairwise_append]; refine ⟨ht, List.pairwise_cons.2 ⟨dropWhile_gt l s hl hne, hs⟩, fun a ha b hb => ?_⟩; have h1 := takeWhile_lt l s a ha; simp only [List.mem_cons] at hb
 rcases hb with rfl | hb
 ·exact h1
 ·have := dropWhile_gt l s hl hne b hb; omega
theorem chooseLoop_ok : ∀ (f : Nat) (out left : List Seat), Sorted out → left.Pairwise (fun a b => a.who ≠ b.who) → (∀ a ∈ out, ∀ b ∈ left, a.who ≠ b.who) → out.length ≤ 7 →
  Sorted (chooseLoop f out left) ∧ (chooseLoop f out left).length ≤ 7 ∧ (∀ x ∈ chooseLoop f out left, x ∈ out ∨ x ∈ left) ∧ (∀ x ∈ out, x ∈ chooseLoop f out left) := by
 intro f
 induction f with
 | zero => intro out left h1 _ _ h4; exact ⟨h1, h4, fun x hx => .inl hx, fun x hx => hx⟩
 | succ f ih =>
  intro out left h1 h2 h3 h4; unfold chooseLoop; split
  ·exact ⟨h1, h4, fun x hx => .inl hx, fun x hx => hx⟩
  ·rename_i s hs
   split
   ·rename_i h7
    obtain ⟨hl, e⟩ := List.getElem?_eq_some_iff.1 hs; have hm : s ∈ left := e ▸ List.getElem_mem hl; have hsub := List.eraseIdx_sublist left (bestTo left left.length); have hne : ∀ x ∈ left.eraseIdx (bestTo left left.length), s.who ≠ x.who := by
     intro x hx; rw [List.mem_eraseIdx_iff_getElem] at hx; obtain ⟨i, hi, hne, rfl⟩ := hx; rw [← e]; rw [List.pairwise_iff_getElem] at h2
     rcases Nat.lt_or_gt_of_ne hne with hlt | hlt
     ·exact (h2 i _ hi hl hlt).symm
     ·exact h2 _ i hl hi hlt
    obtain ⟨g1, g2, g3, g4⟩ := ih (insertS out s) (left.eraseIdx (bestTo left left.length)) (insertS_sorted out s h1 (fun x hx => h3 x hx s hm)) (List.Pairwise.sublist hsub h2)
     (fun a ha b hb => by
      rcases (insertS_mem out s a).1 ha with rfl | ha
      ·exact hne b hb
      ·exact h3 a ha b (hsub.mem hb)) (by rw [insertS_length]; omega)
    refine ⟨g1, g2, fun x hx => ?_, fun x hx => g4 x ((insertS_mem out s x).2 (.inr hx))⟩
    rcases g3 x hx with hx | hx
    ·rcases (insertS_mem out s x).1 hx with rfl | hx
     ·exact .inr hm
     ·exact .inl hx
    ·exact .inr (hsub.mem hx)
   ·exact ⟨h1, h4, fun x hx => .inl hx, fun x hx => hx⟩
structure Bench (x : List Seat) : Prop where
 sorted : Sorted x
 pos : 1 ≤ x.length
 most : x.length ≤ 7
 who : ∀ s ∈ x, 1 ≤ s.who ∧ s.who ≤ 12
 weight : ∀ s ∈ x, 1 ≤ s.weight ∧ s.weight ≤ 40
theorem chooseS_ok (l : List Seat) : Sorted (chooseS l) ∧ (chooseS l).length ≤ 7 ∧ ∀ x ∈ chooseS l, x ∈ l ∧ seatOk x = true := by
 obtain ⟨h1, h2, h3, _⟩ := chooseLoop_ok (leftTo l l.length).length [] (leftTo l l.length) (by simp [Sorted]) (leftTo_distinct l _) (by simp) (by simp); refine ⟨h1, h2, fun x hx => ?_⟩
 rcases h3 x hx with h | h
 ·simp at h
 ·have := leftTo_sub l l.length x h; exact ⟨List.mem_of_mem_take this.1, this.2⟩
theorem seatedS_ok (l : List Seat) : Bench (seatedS l) := by
 have h := chooseS_ok (rawBench l); have hr : ∀ x ∈ rawBench l, (1 ≤ x.who ∧ x.who ≤ 12) ∧ 1 ≤ x.weight ∧ x.weight ≤ 40 := by
  intro x hx; simp only [rawBench, List.mem_map] at hx; obtain ⟨s, _, rfl⟩ := hx; have p0 := pickS_lo s.who 12 (by omega); have p1 := pickS_hi s.who 12 (by omega); have p2 := pickS_lo s.weight 40 (by omega); have p3 := pickS_hi s.weight 40 (by omega); simp only [rawSeat]; omega
 unfold seatedS
 rcases hc : chooseS (rawBench l) with _ | ⟨x, r⟩
 ·exact ⟨by simp [Sorted], by simp, by simp, by simp, by simp⟩
 ·rw [hc] at h; exact ⟨h.1, by simp, h.2.1, fun s hs => (hr s (h.2.2 s hs).1).1, fun s hs => (hr s (h.2.2 s hs).1).2⟩
end Go.Proofs.Ytlfonmpgenoooaa
namespace Go.Proofs.Ytlfonmpgenoooaa
open Go.RowKit
def tsum : List Seat → Int
 | [] => 0
 | s :: l => s.weight + tsum l
def wsum (named : List Int) : List Seat → Int
 | [] => 0
 | s :: l => (if s.who ∈ named then s.weight else 0) + wsum named l
theorem tsum_bd (l : List Seat) (h : ∀ s ∈ l, 1 ≤ s.weight ∧ s.weight ≤ 40) : (l.length : Int) ≤ tsum l ∧ tsum l ≤ 40 * (l.length : Int) := by
 induction l with
 | nil => simp [tsum]
 | cons s l ih =>
  have h1 := h s (by simp); have h2 := ih fun x hx => h x (by simp [hx])
  simp only [tsum, List.length_cons]; omega
theorem wsum_bd (named : List Int) (l : List Seat) (h : ∀ s ∈ l, 1 ≤ s.weight ∧ s.weight ≤ 40) : 0 ≤ wsum named l ∧ wsum named l ≤ tsum l := by
 induction l with
 | nil => simp [tsum, wsum]
 | cons s l ih =>
  have h1 := h s (by simp); have h2 := ih fun x hx => h x (by simp [hx])
  simp only [tsum, wsum]; split <;> omega
theorem total_fold (l : List Seat) (h : ∀ s ∈ l, 1 ≤ s.weight ∧ s.weight ≤ 40) (acc : Int) (h0 : 0 ≤ acc) (h1 : acc + 40 * (l.length : Int) ≤ 1000000) : l.foldl (fun a s => wrap64 (a + s.weight)) acc = acc + tsum l := by
 induction l generalizing acc with
 | nil => simp [tsum]
 | cons s l ih =>
  have hs := h s (by simp); simp only [List.length_cons] at h1; simp only [List.foldl_cons, tsum]; rw [IntWalk.wrap64_in _ (by omega), ih (fun x hx => h x (by simp [hx])) _ (by omega) (by omega)]; omega
theorem weightOf_fold (named : List Int) (l : List Seat) (h : ∀ s ∈ l, 1 ≤ s.weight ∧ s.weight ≤ 40) (acc : Int) (h0 : 0 ≤ acc) (h1 : acc + 40 * (l.length : Int) ≤ 1000000) : l.foldl (fun a s => if s.who ∈ named then wrap64 (a + s.weight) else a) acc = acc + wsum named l := by
 induction l generalizing acc with
 | nil => simp [wsum]
 | cons s l ih =>
  have hs := h s (by simp); simp only [List.length_cons] at h1; simp only [List.foldl_cons, wsum]; split
  ·rw [IntWalk.wrap64_in _ (by omega), ih (fun x hx => h x (by simp [hx])) _ (by omega) (by omega)]; omega
  ·rw [ih (fun x hx => h x (by simp [hx])) _ (by omega) (by omega)]; omega
theorem Bench.total {x : List Seat} (h : Bench x) : total x = tsum x ∧ 1 ≤ tsum x ∧ tsum x ≤ 280 := by
 have h1 := tsum_bd x h.weight; have h2 := h.pos; have h3 := h.most; refine ⟨?_, by omega, by omega⟩; unfold Go.Proofs.Ytlfonmpgenoooaa.total; rw [total_fold x h.weight 0 (by omega) (by omega)]; omega
theorem Bench.weightOf {x : List Seat} (h : Bench x) (named : List Int) : weightOf x named = wsum named x ∧ 0 ≤ wsum named x ∧ wsum named x ≤ tsum x := by
 have h2 := h.pos; have h3 := h.most; refine ⟨?_, wsum_bd named x h.weight⟩; unfold Go.Proofs.Ytlfonmpgenoooaa.weightOf; rw [weightOf_fold named x h.weight 0 (by omega) (by omega)]; omega
end Go.Proofs.Ytlfonmpgenoooaa
namespace Go.Proofs.Ytlfonmpgenoooaa
open Go
def seatZ : Seat := ⟨0, 0⟩
def at7 (l : List Seat) (k : Nat) : Seat := l.getD k seatZ
def sw (l : List Seat) (i j : Nat) : List Seat := (l.set i (at7 l j)).set j (at7 l i)
theorem sw_len (l : List Seat) (i j : Nat) : (sw l i j).length = l.length := by simp [sw]
theorem at_sw (l : List Seat) {i j : Nat} (hi : i < l.length) (hj : j < l.length) (k : Nat) : at7 (sw l i j) k = if k = j then at7 l i else if k = i then at7 l j else at7 l k := by
 unfold at7 sw; rw [List.getD_eq_getElem?_getD, List.getElem?_set, List.length_set]
 by_cases h1 : k = j
 ·subst h1; rw [if_pos rfl, if_pos hj, if_pos rfl]; rfl
 ·rw [if_neg (fun h => h1 h.symm), if_neg h1, List.getElem?_set]
  by_cases h2 : k = i
  ·subst h2; rw [if_pos rfl, if_pos hi, if_pos rfl]; rfl
  ·rw [if_neg (fun h => h2 h.symm), if_neg h2, List.getD_eq_getElem?_getD]
theorem better_asymm {x y : Seat} (h : better x y = true) : better y x = false := by
 unfold better at *; simp only [Bool.or_eq_true, decide_eq_true_eq, Bool.and_eq_true, beq_iff_eq] at h; rw [Bool.eq_false_iff]; intro h'; simp only [Bool.or_eq_true, decide_eq_true_eq, Bool.and_eq_true, beq_iff_eq] at h'; omega
theorem worse_trans {x y z : Seat} (h1 : better x y = false) (h2 : better y z = false) : better x z = false := by
 unfold better at *; rw [Bool.eq_false_iff] at *; intro h'; simp only [ne_eq, Bool.or_eq_true, decide_eq_true_eq, Bool.and_eq_true, beq_iff_eq] at h1 h2 h'; omega
def Hp (l : List Seat) (n : Nat) : Prop := ∀ k, 0 < k → k < n → better (at7 l ((k - 1) / 2)) (at7 l k) = false
def upL : Nat → List Seat → Nat → List Seat
 | 0, l, _ => l
 | f + 1, l, j => if 0 < j ∧ better (at7 l ((j - 1) / 2)) (at7 l j) = true then upL f (sw l ((j - 1) / 2) j) ((j - 1) / 2) else l
def downL : Nat → List Seat → Nat → Nat → List Seat
 | 0, l, _, _ => l
 | f + 1, l, i, n =>
  if 2 * i + 1 < n then
   let j := if 2 * i + 2 < n ∧ better (at7 l (2 * i + 1)) (at7 l (2 * i + 2)) = true then 2 * i + 2 else 2 * i + 1
   if better (at7 l i) (at7 l j) = true then downL f (sw l i j) j n else l
  else l
theorem upL_len : ∀ (f : Nat) (l : List Seat) (j : Nat), (upL f l j).length = l.length
 | 0, _, _ => rfl
 | f + 1, l, j => by
  unfold upL; split
  ·rw [upL_len, sw_len]
  ·rfl
theorem downL_len : ∀ (f : Nat) (l : List Seat) (i n : Nat), (downL f l i n).length = l.length
 | 0, _, _, _ => rfl
 | f + 1, l, i, n => by
  unfold downL; split
  ·dsimp only; generalize (if 2 * i + 2 < n ∧ better (at7 l (2 * i + 1)) (at7 l (2 * i + 2)) = true then 2 * i + 2 else 2 * i + 1) = j; split
   ·rw [downL_len, sw_len]
   ·rfl
  ·rfl
def UpOk (l : List Seat) (j : Nat) : Prop := (∀ k, 0 < k → k < l.length → k ≠ j → better (at7 l ((k - 1) / 2)) (at7 l k) = false) ∧ ∀ k, 0 < k → k < l.length → (k - 1) / 2 = j → 0 < j → better (at7 l ((j - 1) / 2)) (at7 l k) = false
theorem up_heap : ∀ (f : Nat) (l : List Seat) (j : Nat), j < l.length → j ≤ f → UpOk l j → Hp (upL f l j) l.length
 | 0, l, j, _, hf, h => fun k h0 h1 => h.1 k h0 h1 (by omega)
 | f + 1, l, j, hj, hf, h => by
  unfold upL
  by_cases hc : 0 < j ∧ better (at7 l ((j - 1) / 2)) (at7 l j) = true
  ·rw [if_pos hc]; obtain ⟨j0, hb⟩ := hc; have hp : (j - 1) / 2 < j := by omega
   have hl := up_heap f (sw l ((j - 1) / 2) j) ((j - 1) / 2) (by rw [sw_len]; omega) (by omega) ?_
   ·rw [sw_len] at hl; exact hl
   have A := at_sw l (i := (j - 1) / 2) (j := j) (by omega) hj; have hba := better_asymm hb; rw [UpOk, sw_len]; refine ⟨fun k k0 k1 kp => ?_, fun k k0 k1 kp p0 => ?_⟩
   ·rw [A, A]
    by_cases e1 : k = j
    ·rw [if_pos e1, e1, if_neg (by omega), if_pos rfl]; exact hba
    ·rw [if_neg e1, if_neg kp]
     by_cases e2 : (k - 1) / 2 = j
     ·rw [if_pos e2]; exact h.2 k k0 k1 e2 j0
     ·rw [if_neg e2]
      by_cases e3 : (k - 1) / 2 = (j - 1) / 2
      ·rw [if_pos e3]; have := h.1 k k0 k1 e1; rw [e3] at this; exact worse_trans hba this
      ·rw [if_neg e3]; exact h.1 k k0 k1 e1
   ·rw [A, A]; rw [if_neg (by omega), if_neg (by omega)]; have hpp := h.1 ((j - 1) / 2) p0 (by omega) (by omega)
    by_cases e1 : k = j
    ·rw [if_pos e1]; exact hpp
    ·rw [if_neg e1, if_neg (by omega)]; have := h.1 k k0 k1 e1; rw [kp] at this; exact worse_trans hpp this
  ·rw [if_neg hc]; intro k h0 h1
   by_cases e : k = j
   ·subst e; rw [Bool.eq_false_iff]; exact fun hb => hc ⟨h0, hb⟩
   ·exact h.1 k h0 h1 e
def DownOk (l : List Seat) (i n : Nat) : Prop := (∀ k, 0 < k → k < n → (k - 1) / 2 ≠ i → better (at7 l ((k - 1) / 2)) (at7 l k) = false) ∧ ∀ k, 0 < k → k < n → (k - 1) / 2 = i → 0 < i → better (at7 l ((i - 1) / 2)) (at7 l k) = false
theorem down_heap : ∀ (f : Nat) (l : List Seat) (i n : Nat), n ≤ l.length → n ≤ i + f → DownOk l i n → Hp (downL f l i n) n
 | 0, l, i, n, _, hf, h => fun k h0 h1 => h.1 k h0 h1 (by omega)
 | f + 1, l, i, n, hn, hf, h => by
  unfold downL
  by_cases hc : 2 * i + 1 < n
  ·rw [if_pos hc]; dsimp only; have hj : ∃ j, (if 2 * i + 2 < n ∧ better (at7 l (2 * i + 1)) (at7 l (2 * i + 2)) = true then 2 * i + 2 else 2 * i + 1) = j ∧ (j - 1) / 2 = i ∧ i < j ∧ j < n ∧ ∀ k, 0 < k → k < n → (k - 1) / 2 = i → better (at7 l j) (at7 l k) = false := by
    refine ⟨_, rfl, ?_⟩; split
    ·rename_i hq
     refine ⟨by omega, by omega, hq.1, fun k k0 k1 kp => ?_⟩; have hk : k = 2 * i + 1 ∨ k = 2 * i + 2 := by omega
     rcases hk with rfl | rfl
     ·exact better_asymm hq.2
     ·exact better_self _
    ·rename_i hq
     refine ⟨by omega, by omega, hc, fun k k0 k1 kp => ?_⟩; have hk : k = 2 * i + 1 ∨ k = 2 * i + 2 := by omega
     rcases hk with rfl | rfl
     ·exact better_self _
     ·rw [Bool.eq_false_iff]; exact fun hb => hq ⟨k1, hb⟩
   obtain ⟨j, ej, jp, ij, jn, jm⟩ := hj; rw [ej]
   by_cases hb : better (at7 l i) (at7 l j) = true
   ·rw [if_pos hb]; refine down_heap f (sw l i j) j n (by rw [sw_len]; omega) (by omega) ?_; have A := at_sw l (i := i) (j := j) (by omega) (by omega); refine ⟨fun k k0 k1 kp => ?_, fun k k0 k1 kp p0 => ?_⟩
    ·rw [A, A, if_neg kp]
     by_cases e1 : (k - 1) / 2 = i
     ·rw [if_pos e1]
      by_cases e2 : k = j
      ·rw [if_pos e2]; exact better_asymm hb
      ·rw [if_neg e2, if_neg (by omega)]; exact jm k k0 k1 e1
     ·rw [if_neg e1]
      by_cases e2 : k = j
      ·omega
      ·rw [if_neg e2]
       by_cases e3 : k = i
       ·rw [if_pos e3, e3]; exact h.2 j (by omega) jn jp (by omega)
       ·rw [if_neg e3]; exact h.1 k k0 k1 e1
    ·rw [A, A, jp, if_neg (by omega), if_pos rfl, if_neg (by omega), if_neg (by omega)]; have := h.1 k k0 k1 (by omega); rw [kp] at this; exact this
   ·rw [if_neg hb]; intro k h0 h1
    by_cases e : (k - 1) / 2 = i
    ·have h3 : better (at7 l i) (at7 l j) = false := by rw [Bool.eq_false_iff]; exact hb
     rw [e]; exact worse_trans h3 (jm k h0 h1 e)
    ·exact h.1 k h0 h1 e
  ·rw [if_neg hc]; intro k h0 h1; exact h.1 k h0 h1 (by omega)
theorem heap_top {l : List Seat} {n : Nat} (h : Hp l n) : ∀ k, k < n → better (at7 l 0) (at7 l k) = false := by
 intro k
 induction k using Nat.strongRecOn with
 | _ k ih =>
  intro hk
  by_cases h0 : k = 0
  ·rw [h0]; exact better_self _
  ·exact worse_trans (ih ((k - 1) / 2) (by omega) (by omega)) (h k (by omega) hk)
instance seatDec : DecidableEq Seat := fun a b => decidable_of_iff (a.who = b.who ∧ a.weight = b.weight) ⟨fun h => by cases a; cases b; simp_all, fun h => by rw [h]; exact ⟨rfl, rfl⟩⟩
theorem at7_get {l : List Seat} {k : Nat} (h : k < l.length) : at7 l k = l[k] := by
 unfold at7; rw [List.getD_eq_getElem?_getD, List.getElem?_eq_getElem h]; rfl
theorem sw_perm {l : List Seat} {i j : Nat} (hi : i < l.length) (hj : j < l.length) : (sw l i j).Perm l := by
 rw [List.perm_iff_count]; intro a; have hj' : j < (l.set i l[j]).length := by rw [List.length_set]; exact hj
 unfold sw; rw [at7_get hi, at7_get hj, List.count_set hj', List.count_set hi, List.getElem_set]; have c1 : l[i] = a → 0 < l.count a := fun h => List.count_pos_iff.2 (h ▸ List.getElem_mem hi)
 have c2 : l[j] = a → 0 < l.count a := fun h => List.count_pos_iff.2 (h ▸ List.getElem_mem hj)
 by_cases e : i = j
 ·subst e; rw [if_pos rfl]
  by_cases h : l[i] = a
  ·have := c1 h; simp only [beq_iff_eq, h, if_pos]; omega
  ·simp only [beq_iff_eq, h, if_false]; omega
 ·rw [if_neg e]
  by_cases h1 : l[i] = a <;> by_cases h2 : l[j] = a <;> simp only [beq_iff_eq, h1, h2, if_true, if_false]
  ·have := c1 h1; omega
  ·have := c1 h1; omega
  ·have := c2 h2; omega
  ·omega
theorem upL_perm : ∀ (f : Nat) (l : List Seat) (j : Nat), j < l.length → (upL f l j).Perm l
 | 0, _, _, _ => List.Perm.refl _
 | f + 1, l, j, hj => by
  unfold upL; split
  ·exact (upL_perm f _ _ (by rw [sw_len]; omega)).trans (sw_perm (by omega) hj)
  ·exact List.Perm.refl _
theorem downL_perm : ∀ (f : Nat) (l : List Seat) (i n : Nat), i < n → n ≤ l.length → (downL f l i n).Perm l
 | 0, _, _, _, _, _ => List.Perm.refl _
 | f + 1, l, i, n, hi, hn => by
  unfold downL; split
  ·rename_i hc
   dsimp only; have hj : (if 2 * i + 2 < n ∧ better (at7 l (2 * i + 1)) (at7 l (2 * i + 2)) = true then 2 * i + 2 else 2 * i + 1) < n := by
    split
    ·rename_i h; exact h.1
    ·exact hc
   generalize (if 2 * i + 2 < n ∧ better (at7 l (2 * i + 1)) (at7 l (2 * i + 2)) = true then 2 * i + 2 else 2 * i + 1) = j at hj; split
   ·exact (downL_perm f _ _ _ hj (by rw [sw_len]; exact hn)).trans (sw_perm (by omega) (by omega))
   ·exact List.Perm.refl _
  ·exact List.Perm.refl _
theorem downL_from : ∀ (f : Nat) (l : List Seat) (i n k : Nat), i < n → n ≤ k → n ≤ l.length → at7 (downL f l i n) k = at7 l k
 | 0, _, _, _, _, _, _, _ => rfl
 | f + 1, l, i, n, k, hi, hk, hn => by
  unfold downL; split
  ·rename_i hc
   dsimp only; have hj : (if 2 * i + 2 < n ∧ better (at7 l (2 * i + 1)) (at7 l (2 * i + 2)) = true then 2 * i + 2 else 2 * i + 1) < n := by
    split
    ·rename_i h; exact h.1
    ·exact hc
   generalize (if 2 * i + 2 < n ∧ better (at7 l (2 * i + 1)) (at7 l (2 * i + 2)) = true then 2 * i + 2 else 2 * i + 1) = j at hj; split
   ·rw [downL_from f _ _ _ _ hj hk (by rw [sw_len]; exact hn), at_sw l (by omega) (by omega), if_neg (by omega), if_neg (by omega)]
   ·rfl
  ·rfl
def pushL (l : List Seat) (s : Seat) : List Seat := upL l.length (l ++ [s]) l.length
def popL (l : List Seat) : List Seat := (downL (l.length - 1) (sw l 0 (l.length - 1)) 0 (l.length - 1)).take (l.length - 1)
theorem push_ok {l : List Seat} (h : Hp l l.length) (s : Seat) : (pushL l s).Perm (s :: l) ∧ Hp (pushL l s) (pushL l s).length ∧ (pushL l s).length = l.length + 1 := by
 have hl : (l ++ [s]).length = l.length + 1 := by rw [List.length_append]; rfl
 have hlt : l.length < (l ++ [s]).length := by omega
 have hp : (pushL l s).length = l.length + 1 := by unfold pushL; rw [upL_len, hl]
 refine ⟨(upL_perm _ _ _ hlt).trans List.perm_append_comm, ?_, hp⟩; rw [hp, ← hl]; have ha : ∀ k, k < l.length → at7 (l ++ [s]) k = at7 l k := fun k hk => by
  rw [at7_get (by omega), at7_get hk, List.getElem_append_left hk]
 refine up_heap _ _ _ hlt (Nat.le_refl _) ⟨fun k k0 k1 kj => ?_, fun k k0 k1 kp _ => ?_⟩
 ·rw [ha _ (by omega), ha _ (by omega)]; exact h k k0 (by omega)
 ·omega
theorem pop_ok {l : List Seat} (h : Hp l l.length) (hn : 2 ≤ l.length) : ((at7 l 0) :: popL l).Perm l ∧ Hp (popL l) (popL l).length ∧ (popL l).length = l.length - 1 ∧ at7 (downL (l.length - 1) (sw l 0 (l.length - 1)) 0 (l.length - 1)) (l.length - 1) = at7 l 0 := by
 obtain ⟨n, hl⟩ : ∃ n, l.length = n + 1 := ⟨l.length - 1, by omega⟩
 unfold popL; rw [hl, Nat.add_sub_cancel]; have A := at_sw l (i := 0) (j := n) (by omega) (by omega); have hsl := sw_len l 0 n; generalize hd : downL n (sw l 0 n) 0 n = D; have hD : D.length = n + 1 := by rw [← hd, downL_len, sw_len, hl]
 have hDp : D.Perm l := by rw [← hd]; exact (downL_perm _ _ _ _ (by omega) (by omega)).trans (sw_perm (by omega) (by omega))
 have hDn : at7 D n = at7 l 0 := by rw [← hd, downL_from _ _ _ _ _ (by omega) (Nat.le_refl _) (by omega), A, if_pos rfl]
 have hDh : Hp D n := by
  rw [← hd]; refine down_heap _ _ _ _ (by omega) (by omega) ⟨fun k k0 k1 kp => ?_, fun k k0 k1 kp p0 => absurd p0 (Nat.lt_irrefl 0)⟩; rw [A, A, if_neg (by omega), if_neg (by omega), if_neg (by omega), if_neg (by omega)]; exact h k k0 (by omega)
 have hsp : D = D.take n ++ [at7 D n] := by
  rw [at7_get (by omega)]; have := List.take_append_drop n D; rw [List.drop_eq_getElem_cons (by omega), List.drop_of_length_le (by omega)] at this; exact this.symm
 have htl : (D.take n).length = n := by rw [List.length_take]; omega
 refine ⟨?_, ?_, htl, hDn⟩
 ·refine List.Perm.trans ?_ hDp; rw [← hDn]
  conv => rhs; rw [hsp]
  exact List.perm_append_comm (l₁ := [at7 D n])
 ·rw [htl]; intro k k0 k1; have ht : ∀ k, k < n → at7 (D.take n) k = at7 D k := fun k hk => by
   rw [at7_get (by omega), at7_get (by omega), List.getElem_take]
  rw [ht _ (by omega), ht _ k1]; exact hDh k k0 k1
def Best (V H : List Seat) : Prop := ∃ T, (H ++ T).Perm V ∧ (∀ h ∈ H, ∀ t ∈ T, better t h = false) ∧ H.length ≤ 7 ∧ (T ≠ [] → H.length = 7)
def stepL (H : List Seat) (s : Seat) : List Seat := if 7 < (pushL H s).length then popL (pushL H s) else pushL H s
theorem step_best {V H : List Seat} (hb : Best V H) (hh : Hp H H.length) (s : Seat) : Best (V ++ [s]) (stepL H s) ∧ Hp (stepL H s) (stepL H s).length := by
 obtain ⟨T, h1, h2, h3, h4⟩ := hb; obtain ⟨p1, p2, p3⟩ := push_ok hh s; unfold stepL
 by_cases h7 : 7 < (pushL H s).length
 ·rw [if_pos h7]; obtain ⟨q1, q2, q3, _⟩ := pop_ok p2 (by omega); refine ⟨⟨at7 (pushL H s) 0 :: T, ?_, fun h hh t ht => ?_, by omega, fun _ => by omega⟩, q2⟩
  ·refine (List.perm_middle).trans ?_; refine (List.Perm.append_right T q1).trans ?_; refine (List.Perm.append_right T p1).trans ?_; refine List.Perm.trans (List.Perm.cons s h1) (List.perm_append_comm : ([s] ++ V).Perm (V ++ [s]))
  ·have top : ∀ x ∈ pushL H s, better (at7 (pushL H s) 0) x = false := fun x hx => by
    obtain ⟨k, hk, rfl⟩ := List.getElem_of_mem hx; rw [← at7_get hk]; exact heap_top p2 k hk
   have hm : h ∈ pushL H s := q1.subset (List.mem_cons_of_mem _ hh)
   rcases List.mem_cons.1 ht with rfl | ht'
   ·exact top h hm
   ·have hx : at7 (pushL H s) 0 ∈ pushL H s := by rw [at7_get (by omega)]; exact List.getElem_mem _
    rcases List.mem_cons.1 (p1.subset hm) with rfl | hm'
    ·rcases List.mem_cons.1 (p1.subset hx) with e | e
     ·exact (by
       by_cases hH : h ∈ H
       ·exact h2 h hH t ht'
       ·exfalso; have hc := List.perm_iff_count.1 q1 h; have hc2 := List.perm_iff_count.1 p1 h; rw [e, List.count_cons_self] at hc; rw [List.count_cons_self, List.count_eq_zero.2 hH] at hc2; have := List.count_pos_iff.2 hh; omega)
     ·exact worse_trans (h2 _ e t ht') (top h hm)
    ·exact h2 h hm' t ht'
 ·rw [if_neg h7]; have hT : T = [] := by
   cases T with
   | nil => rfl
   | cons t T => have := h4 (by simp); omega
  subst hT; rw [List.append_nil] at h1; refine ⟨⟨[], ?_, fun _ _ _ ht => (by cases ht), by omega, fun h => absurd rfl h⟩, p2⟩; rw [List.append_nil]; exact p1.trans ((List.Perm.cons s h1).trans (List.perm_append_comm : ([s] ++ V).Perm (V ++ [s])))
theorem better_total {x y : Seat} (h : x.who ≠ y.who) (h1 : better x y = false) (h2 : better y x = false) : False := by
 unfold better at *; rw [Bool.eq_false_iff] at *; simp only [ne_eq, Bool.or_eq_true, decide_eq_true_eq, Bool.and_eq_true, beq_iff_eq] at h1 h2; omega
theorem nodup_le {l : List Seat} : ∀ {m : List Seat}, l.Nodup → (∀ x ∈ l, x ∈ m) → l.length ≤ m.length := by
 induction l with
 | nil => intro m _ _; exact Nat.zero_le _
 | cons a l ih =>
  intro m hd hs; have ha := hs a (List.mem_cons_self ..); have := ih (m := m.erase a) (List.nodup_cons.1 hd).2 (fun x hx => (List.mem_erase_of_ne (fun e => (List.nodup_cons.1 hd).1 (by rw [← e]; exact hx))).2 (hs x (List.mem_cons_of_mem _ hx))); rw [List.length_erase_of_mem ha] at this; have := List.length_pos_of_mem ha; rw [List.length_cons]; omega
theorem who_nodup {l : List Seat} (h : l.Pairwise fun a b => a.who ≠ b.who) : l.Nodup := List.Pairwise.imp (fun h e => h (by rw [e])) h
theorem best_mem {V H O : List Seat} (hV : V.Pairwise fun a b => a.who ≠ b.who) (h : Best V H) (g : Best V O) : ∀ x ∈ H, x ∈ O := by
 obtain ⟨T, h1, h2, h3, h4⟩ := h; obtain ⟨L, g1, g2, g3, g4⟩ := g; have hn := (h1.nodup_iff).2 (who_nodup hV); have gn := (g1.nodup_iff).2 (who_nodup hV); have hHn := (List.nodup_append.1 hn).1; have gOn := (List.nodup_append.1 gn).1; intro x hx; apply Classical.byContradiction; intro hxO; have hxV : x ∈ V := h1.subset (List.mem_append_left _ hx); have hxL : x ∈ L := by
  rcases List.mem_append.1 (g1.symm.subset hxV) with h | h
  ·exact absurd h hxO
  ·exact h
 have gl := g4 (List.ne_nil_of_mem hxL); have ho : ∃ o ∈ O, o ∉ H := by
  apply Classical.byContradiction; intro hno; have hsub : ∀ y ∈ x :: O, y ∈ H := fun y hy => by
   rcases List.mem_cons.1 hy with rfl | hy
   ·exact hx
   ·exact Classical.byContradiction fun hc => hno ⟨y, hy, hc⟩
  have := nodup_le (List.nodup_cons.2 ⟨hxO, gOn⟩) hsub; rw [List.length_cons] at this; omega
 obtain ⟨o, oO, oH⟩ := ho; have oV : o ∈ V := g1.subset (List.mem_append_left _ oO); have oT : o ∈ T := by
  rcases List.mem_append.1 (h1.symm.subset oV) with h | h
  ·exact absurd h oH
  ·exact h
 have hne : x.who ≠ o.who := by
  have hxo : x ≠ o := fun e => hxO (e ▸ oO)
  obtain ⟨i, hi, rfl⟩ := List.getElem_of_mem hxV; obtain ⟨j, hj, rfl⟩ := List.getElem_of_mem oV; rw [List.pairwise_iff_getElem] at hV; have hij : i ≠ j := fun e => hxo (by subst e; rfl)
  rcases Nat.lt_or_gt_of_ne hij with h | h
  ·exact hV i j hi hj h
  ·exact (hV j i hj hi h).symm
 exact better_total hne (g2 o oO x hxL) (h2 x hx o oT)
theorem best_perm {V H O : List Seat} (hV : V.Pairwise fun a b => a.who ≠ b.who) (h : Best V H) (g : Best V O) : H.Perm O := by
 have hn : H.Nodup := by
  obtain ⟨T, h1, _⟩ := h; exact (List.nodup_append.1 ((h1.nodup_iff).2 (who_nodup hV))).1
 have gn : O.Nodup := by
  obtain ⟨T, h1, _⟩ := g; exact (List.nodup_append.1 ((h1.nodup_iff).2 (who_nodup hV))).1
 exact (List.perm_ext_iff_of_nodup hn gn).2 fun a => ⟨best_mem hV h g a, best_mem hV g h a⟩
theorem bestTo_ok (l : List Seat) (h : 0 < l.length) : ∀ n, n ≤ l.length → ∀ k, k < n → better (at7 l k) (at7 l (bestTo l n)) = false
 | 0, _, k, hk => absurd hk (Nat.not_lt_zero _)
 | n + 1, hn, k, hk => by
  have hb := bestTo_lt l n h; have ih := bestTo_ok l h n (by omega); rw [bestTo_succ l n (by omega) hb]; rw [← at7_get (l := l) (k := n) (by omega), ← at7_get hb]
  by_cases hq : better (at7 l n) (at7 l (bestTo l n)) = true
  ·rw [if_pos hq]
   by_cases e : k = n
   ·rw [e]; exact better_self _
   ·exact worse_trans (ih k (by omega)) (better_asymm hq)
  ·rw [if_neg hq]
   by_cases e : k = n
   ·rw [e]; rw [Bool.eq_false_iff]; exact hq
   ·exact ih k (by omega)
theorem insertS_perm (l : List Seat) (s : Seat) : (insertS l s).Perm (s :: l) := by
 unfold insertS; refine List.perm_middle.trans ?_; rw [List.take_append_drop]
theorem erase_perm {l : List Seat} {i : Nat} (h : i < l.length) : (l[i] :: l.eraseIdx i).Perm l := by
 rw [List.eraseIdx_eq_take_drop_succ]; refine List.perm_middle.symm.trans ?_; rw [← List.drop_eq_getElem_cons h, List.take_append_drop]
theorem chooseLoop_best : ∀ (f : Nat) (out left : List Seat), left.length ≤ f → (∀ o ∈ out, ∀ x ∈ left, better x o = false) → out.length ≤ 7 →
  ∃ T, (chooseLoop f out left ++ T).Perm (out ++ left) ∧ (∀ h ∈ chooseLoop f out left, ∀ t ∈ T, better t h = false) ∧ (chooseLoop f out left).length ≤ 7 ∧ (T ≠ [] → (chooseLoop f out left).length = 7)
 | 0, out, left, hf, h1, h2 => by
  have : left = [] := List.eq_nil_of_length_eq_zero (by omega); subst this; exact ⟨[], List.Perm.refl _, fun _ _ _ ht => (by cases ht), h2, fun h => absurd rfl h⟩
 | f + 1, out, left, hf, h1, h2 => by
  unfold chooseLoop; cases hl : left[bestTo left left.length]? with
  | none =>
   have : left = [] := by
    apply Classical.byContradiction; intro hne; have hp := List.length_pos_iff.2 hne; have := bestTo_lt left left.length hp; rw [List.getElem?_eq_getElem this] at hl; cases hl
   subst this; exact ⟨[], List.Perm.refl _, fun _ _ _ ht => (by cases ht), h2, fun h => absurd rfl h⟩
  | some s =>
   dsimp only; obtain ⟨hb, hs⟩ := List.getElem?_eq_some_iff.1 hl; have hp : 0 < left.length := by omega
   have hsm : s ∈ left := hs ▸ List.getElem_mem hb
   by_cases h7 : out.length < 7
   ·rw [if_pos h7]; have hsub := List.eraseIdx_sublist left (bestTo left left.length); have hpe : (s :: left.eraseIdx (bestTo left left.length)).Perm left := by
     rw [← hs]; exact erase_perm hb
    have hbst : ∀ x ∈ left, better x s = false := fun x hx => by
     obtain ⟨k, hk, rfl⟩ := List.getElem_of_mem hx; have := bestTo_ok left hp left.length (Nat.le_refl _) k hk; rw [at7_get hk, at7_get hb, hs] at this; exact this
    obtain ⟨T, t1, t2, t3, t4⟩ := chooseLoop_best f (insertS out s) (left.eraseIdx (bestTo left left.length)) (by rw [List.length_eraseIdx_of_lt hb]; omega) (fun o ho x hx => by
     rcases (insertS_mem out s o).1 ho with rfl | ho
     ·exact hbst x (hsub.mem hx)
     ·exact h1 o ho x (hsub.mem hx)) (by rw [insertS_length]; omega)
    refine ⟨T, t1.trans ?_, t2, t3, t4⟩; refine (List.Perm.append_right _ (insertS_perm out s)).trans ?_; refine List.Perm.trans ?_ (List.Perm.append_left out hpe); exact (List.perm_middle (a := s) (l₁ := out)).symm
   ·rw [if_neg h7]; exact ⟨left, List.Perm.refl _, h1, h2, fun _ => by omega⟩
theorem choose_best (l : List Seat) : Best (leftTo l l.length) (chooseS l) := by
 obtain ⟨T, t1, t2, t3, t4⟩ := chooseLoop_best (leftTo l l.length).length [] (leftTo l l.length) (Nat.le_refl _) (fun _ h => by cases h) (Nat.zero_le _); exact ⟨T, t1, t2, t3, t4⟩
theorem sorted_perm : ∀ {a b : List Seat}, Sorted a → Sorted b → a.Perm b → a = b
 | [], b, _, _, h => (List.nil_perm.1 h).symm
 | x :: a, [], _, _, h => by have := h.length_eq; cases this
 | x :: a, y :: b, ha, hb, h => by
  have hx := List.pairwise_cons.1 ha; have hy := List.pairwise_cons.1 hb; have e : x = y := by
   rcases List.mem_cons.1 (h.subset (List.mem_cons_self ..)) with e | e
   ·exact e
   ·rcases List.mem_cons.1 (h.symm.subset (List.mem_cons_self ..)) with e2 | e2
    ·exact e2.symm
    ·have h1 := hx.1 y e2; have h2 := hy.1 x e; omega
  subst e; rw [sorted_perm hx.2 hy.2 h.cons_inv]
def heapTo (l : List Seat) : Nat → List Seat
 | 0 => []
 | k + 1 => match l[k]? with
  | some s => if firstOf l s.who k && seatOk s then stepL (heapTo l k) s else heapTo l k
  | none => heapTo l k
theorem heapTo_succ (l : List Seat) (k : Nat) (hk : k < l.length) : heapTo l (k + 1) = if firstOf l l[k].who k && seatOk l[k] then stepL (heapTo l k) l[k] else heapTo l k := by
 rw [heapTo, List.getElem?_eq_getElem hk]
theorem heapTo_best (l : List Seat) : ∀ k, k ≤ l.length → Best (leftTo l k) (heapTo l k) ∧ Hp (heapTo l k) (heapTo l k).length
 | 0, _ => ⟨⟨[], List.Perm.refl _, fun _ h => (by cases h), Nat.zero_le _, fun h => absurd rfl h⟩, fun _ _ h => absurd h (Nat.not_lt_zero _)⟩
 | k + 1, hk => by
  obtain ⟨h1, h2⟩ := heapTo_best l k (by omega); rw [heapTo_succ l k hk, leftTo_succ l k hk]; split
  ·exact step_best h1 h2 _
  ·exact ⟨h1, h2⟩
theorem heap_len (l : List Seat) (k : Nat) (hk : k ≤ l.length) : (heapTo l k).length ≤ 7 := by
 obtain ⟨⟨T, _, _, h, _⟩, _⟩ := heapTo_best l k hk; exact h
theorem choose_same (l h : List Seat) (hs : h.Pairwise fun a b => a.who ≤ b.who) (hp : h.Perm (heapTo l l.length)) : h = chooseS l := by
 have hV := leftTo_distinct l l.length; have hpo := hp.trans (best_perm hV (heapTo_best l l.length (Nat.le_refl _)).1 (choose_best l)); have hO := (chooseS_ok l).1; have hne : h.Pairwise fun a b => a.who ≠ b.who := by
  have : (chooseS l).Pairwise fun a b => a.who ≠ b.who := List.Pairwise.imp (fun h => by omega) hO
  exact (List.Perm.pairwise_iff (fun h => Ne.symm h) hpo).2 this
 refine sorted_perm ?_ hO hpo; exact List.Pairwise.imp (fun h => by omega) (List.Pairwise.and hs hne)
def innerL : Nat → List Seat → List Seat
 | 0, l => l
 | j + 1, l => if (at7 l (j + 1)).who < (at7 l j).who then innerL j (sw l j (j + 1)) else l
def sortTo (l : List Seat) : Nat → List Seat
 | 0 => l
 | k + 1 => innerL k (sortTo l k)
theorem innerL_len : ∀ (j : Nat) (l : List Seat), (innerL j l).length = l.length
 | 0, _ => rfl
 | j + 1, l => by
  unfold innerL; split
  ·rw [innerL_len, sw_len]
  ·rfl
theorem sortTo_len (l : List Seat) : ∀ k, (sortTo l k).length = l.length
 | 0 => rfl
 | k + 1 => by rw [sortTo, innerL_len, sortTo_len]
theorem innerL_perm : ∀ (j : Nat) (l : List Seat), j < l.length → (innerL j l).Perm l
 | 0, _, _ => List.Perm.refl _
 | j + 1, l, hj => by
  unfold innerL; split
  ·exact (innerL_perm j _ (by rw [sw_len]; omega)).trans (sw_perm (by omega) hj)
  ·exact List.Perm.refl _
theorem sortTo_perm (l : List Seat) : ∀ k, k ≤ l.length → (sortTo l k).Perm l
 | 0, _ => List.Perm.refl _
 | k + 1, hk => (innerL_perm k _ (by rw [sortTo_len]; omega)).trans (sortTo_perm l k (by omega))
def SortedTo (l : List Seat) (n : Nat) : Prop := ∀ p q, p < q → q < n → (at7 l p).who ≤ (at7 l q).who
def InOk (l : List Seat) (j i : Nat) : Prop := (∀ p q, p < q → q ≤ i → p ≠ j → q ≠ j → (at7 l p).who ≤ (at7 l q).who) ∧ ∀ q, j < q → q ≤ i → (at7 l j).who ≤ (at7 l q).who
theorem innerL_ok : ∀ (j : Nat) (l : List Seat) (i : Nat), j ≤ i → i < l.length → InOk l j i → SortedTo (innerL j l) (i + 1)
 | 0, l, i, _, _, h => fun p q hpq hq => by
  show (at7 l p).who ≤ (at7 l q).who
  by_cases e : p = 0
  ·subst e; exact h.2 q (by omega) (by omega)
  ·exact h.1 p q hpq (by omega) e (by omega)
 | j + 1, l, i, hj, hi, h => by
  unfold innerL
  by_cases hc : (at7 l (j + 1)).who < (at7 l j).who
  ·rw [if_pos hc]; refine innerL_ok j _ i (by omega) (by rw [sw_len]; exact hi) ?_; have A := at_sw l (i := j) (j := j + 1) (by omega) (by omega); refine ⟨fun p q hpq hq hp hq' => ?_, fun q hq1 hq2 => ?_⟩
   ·rw [A, A, if_neg hp, if_neg hq']
    by_cases e1 : q = j + 1
    ·rw [if_pos e1, if_neg (by omega)]; exact h.1 p j (by omega) (by omega) (by omega) (by omega)
    ·rw [if_neg e1]
     by_cases e2 : p = j + 1
     ·rw [if_pos e2]; exact h.1 j q (by omega) hq (by omega) e1
     ·rw [if_neg e2]; exact h.1 p q hpq hq e2 e1
   ·rw [A, A, if_neg (by omega), if_pos rfl, if_neg (by omega : ¬ q = j)]
    by_cases e1 : q = j + 1
    ·rw [if_pos e1]; omega
    ·rw [if_neg e1]; exact h.2 q (by omega) hq2
  ·rw [if_neg hc]; intro p q hpq hq
   by_cases e1 : p = j + 1
   ·subst e1; exact h.2 q hpq (by omega)
   ·by_cases e2 : q = j + 1
    ·subst e2
     by_cases e3 : p = j
     ·subst e3; omega
     ·have := h.1 p j (by omega) (by omega) e1 (by omega); omega
    ·exact h.1 p q hpq (by omega) e1 e2
theorem sortTo_ok (l : List Seat) : ∀ k, k ≤ l.length → SortedTo (sortTo l k) k
 | 0, _ => fun _ _ _ h => absurd h (Nat.not_lt_zero _)
 | k + 1, hk => by
  have ih := sortTo_ok l k (by omega); exact innerL_ok k _ k (Nat.le_refl _) (by rw [sortTo_len]; omega) ⟨fun p q hpq hq _ hq' => ih p q hpq (by omega), fun q h1 h2 => by omega⟩
theorem sortTo_same (l : List Seat) : sortTo (heapTo l l.length) (heapTo l l.length).length = chooseS l := by
 generalize hh : heapTo l l.length = h; refine choose_same l _ ?_ (by rw [hh]; exact sortTo_perm h _ (Nat.le_refl _)); rw [List.pairwise_iff_getElem]; intro p q hp hq hpq; have := sortTo_ok h h.length (Nat.le_refl _) p q hpq (by rw [sortTo_len] at hq; exact hq); rw [at7_get hp, at7_get hq] at this; exact this
def cntTo (l : List Seat) (who : Int) (k : Nat) : Nat := ((l.take k).filter fun x => x.who == who).length
theorem cntTo_zero (l : List Seat) (who : Int) (k : Nat) : cntTo l who k = 0 ↔ firstOf l who k = true := by
 unfold cntTo firstOf; rw [List.length_eq_zero_iff, List.filter_eq_nil_iff, List.all_eq_true]; constructor
 ·intro h x hx; have := h x hx; simpa using this
 ·intro h x hx; have := h x hx; simpa using this
end Go.Proofs.Ytlfonmpgenoooaa
