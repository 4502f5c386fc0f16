/- What the reference's Choose computes. -/
import Derived.Test.YtjmkcndjjfokiaaProg
import Derived.Test.YtjmkcndjjfokiaaBench1
import Derived.Deep.RegionHeld3
import Derived.Deep.RegionLaw
namespace Go.Proofs.Ytjmkcndjjfokiaa
open Go.RowKit
def firstOf (l : List Seat) (who : Int) (k : Nat) : Bool := (l.take k).all fun x => x.who != who
theorem firstOf_succ (l : List Seat) (who : Int) (k : Nat) (hk : k < l.length) : firstOf l who (k + 1) = (firstOf l who k && l[k].who != who) := by
  unfold firstOf
  rw [List.take_succ_eq_append_getElem hk, List.all_append, List.all_cons, List.all_nil, Bool.and_true]
def leftTo (l : List Seat) : Nat → List Seat
  | 0 => []
  | k + 1 => match l[k]? with
    | none => leftTo l k
    | some s => if firstOf l s.who k && seatOk s then leftTo l k ++ [s] else leftTo l k
theorem leftTo_le (l : List Seat) (k : Nat) : (leftTo l k).length ≤ k := by
  induction k with
  | zero => simp [leftTo]
  | succ k ih =>
    unfold leftTo
    split
    · omega
    · split
      · simp; omega
      · omega
theorem leftTo_succ (l : List Seat) (k : Nat) (hk : k < l.length) : leftTo l (k + 1) = if firstOf l l[k].who k && seatOk l[k] then leftTo l k ++ [l[k]] else leftTo l k := by
  rw [leftTo, List.getElem?_eq_getElem hk]
def better (x y : Seat) : Bool := decide (y.weight < x.weight) || (x.weight == y.weight && decide (x.who < y.who))
def bestTo (l : List Seat) : Nat → Nat
  | 0 => 0
  | k + 1 => match l[k]?, l[bestTo l k]? with
    | some x, some y => if better x y then k else bestTo l k
    | _, _ => bestTo l k
theorem bestTo_lt (l : List Seat) (k : Nat) (h : 0 < l.length) : bestTo l k < l.length := by
  induction k with
  | zero => simpa [bestTo] using h
  | succ k ih =>
    unfold bestTo
    split
    · rename_i x y hx hy
      split
      · exact (List.getElem?_eq_some_iff.1 hx).1
      · exact ih
    · exact ih
theorem bestTo_succ (l : List Seat) (k : Nat) (hk : k < l.length) (hb : bestTo l k < l.length) : bestTo l (k + 1) = if better l[k] l[bestTo l k] then k else bestTo l k := by
  rw [bestTo, List.getElem?_eq_getElem hk, List.getElem?_eq_getElem hb]
theorem better_self (x : Seat) : better x x = false := by simp [better]
theorem bestTo_one (l : List Seat) : bestTo l 1 = 0 := by
  unfold bestTo
  split
  · split
    · rfl
    · rfl
  · rfl
def chooseLoop : Nat → List Seat → List Seat → List Seat
  | 0, out, _ => out
  | f + 1, out, left => match left[bestTo left left.length]? with
    | none => out
    | some s => if out.length < 7 then chooseLoop f (insertS out s) (left.eraseIdx (bestTo left left.length)) else out
def chooseS (l : List Seat) : List Seat := chooseLoop (leftTo l l.length).length [] (leftTo l l.length)
theorem chooseLoop_step (out left : List Seat) (b : Nat) (hb : bestTo left left.length = b) (hl : b < left.length) (h7 : out.length < 7) : chooseLoop left.length out left = chooseLoop (left.length - 1) (insertS out left[b]) (left.eraseIdx b) := by
  have key : ∀ f, left.length = f + 1 → chooseLoop (f + 1) out left = chooseLoop f (insertS out left[b]) (left.eraseIdx b) := fun f hf => by
    simp only [chooseLoop, hb, List.getElem?_eq_getElem hl, if_pos h7]
  obtain ⟨f, hf⟩ : ∃ f, left.length = f + 1 := ⟨left.length - 1, by omega⟩
  have := key f hf
  have e1 : left.length - 1 = f := by omega
  rw [e1]
  rw [← this]
  congr 1
theorem insertS_length (l : List Seat) (s : Seat) : (insertS l s).length = l.length + 1 := by
  have := place_le l s
  simp [insertS]; omega
set_option maxRecDepth 100000 in
set_option maxHeartbeats 1000000 in
theorem choose_any (l : List Seat) (A : Option Addr) (c B : Nat) (w : World) (h : Seats w B A l) (hB : B ≤ w.heap.size) (hl : l.length < 65536) :
    Calls Try.prog 93 #[.slice A l.length c] w fun e w' => ∃ v, e = .returned v ∧ w'.ownsRow w.heap.size 165 2 v (chooseS l).length (seatsCells (chooseS l)) ∧ Below w.heap.size w w' := by
  obtain ⟨i0, hi0, hz0, hz1, hz2⟩ := info_parts seatInfo
  go_enter Try.func93, Try.ntmps93
  go_wp2
  go_loopw [3, 4, 5, 6, 7] (fun v i o1 o2 o3 wr => ∃ k : Nat, k ≤ l.length ∧ i = .int .i64 k ∧ wr.ownsRow w.heap.size 165 2 v (leftTo l k).length (seatsCells (leftTo l k)) ∧ Below w.heap.size w wr) (fun _ i _ _ _ _ => l.length - (intOf i).toNat)
  case atStart => exact ⟨0, by omega, rfl, World.ownsRow_nil _ _ _ _, Below.refl _ _⟩
  case round =>
    obtain ⟨k, hk, rfl, hown, hb⟩ := hrel
    by_cases hlt : k < l.length
    · obtain ⟨b, off, rfl, hbB, hc0, hc1⟩ := Seats.at_ (h.below (hb.mono hB)) hlt
      go_wp2
      obtain ⟨wo, rfl⟩ : ∃ wo : World, wo = wr := ⟨_, rfl⟩
      go_loopw [5, 6] (fun f i wr => ∃ j : Nat, j ≤ k ∧ i = .int .i64 j ∧ f = .bool (firstOf l l[k].who j) ∧ Below wo.heap.size wo wr) (fun _ i _ => k - (intOf i).toNat)
      case atStart => exact ⟨0, by omega, rfl, rfl, Below.refl _ _⟩
      case round =>
        obtain ⟨j, hj, rfl, rfl, hbo⟩ := hrel
        have hc0' := (hbo.cell (p := ⟨b, off + k * 2, none⟩) (by have := hb.size; simp; omega)).trans hc0
        have hc1' := (hbo.cell (p := ⟨b, off + k * 2 + 1, none⟩) (by have := hb.size; simp; omega)).trans hc1
        have hsz := hb.size
        have hsz' := hbo.size
        have hb' : Below w.heap.size w wr := hb.trans (hbo.mono hsz)
        have hown' := own_below hown hbo
        clear hc0 hc1 hown
        by_cases hjk : j < k
        · obtain ⟨b', off', e, hbB', hd0, hd1⟩ := Seats.at_ (h.below (hb'.mono hB)) (show j < l.length by omega)
          simp only [Option.some.injEq, Addr.mk.injEq, and_true] at e
          obtain ⟨rfl, rfl⟩ := e
          have hi1 : (j : Int) < (l.length : Int) := by omega
          have hi2 : (k : Int) < (l.length : Int) := by omega
          have HS := Lib.hid (firstOf_succ l l[k].who j (by omega))
          cases hf : firstOf l l[k].who j
          · go_wp2
            go_quiet (fail)
            go_wp2
            go_roundw
            case rel => exact ⟨j + 1, by omega, by go_num, by rw [HS.out, hf]; rfl, hbo.drewN _⟩
            case measure => simp [intOf]; omega
          · go_wp2
            go_quiet (fail)
            go_wp2
            go_roundw
            case rel => exact ⟨j + 1, by omega, by go_num, by rw [HS.out, hf]; rfl, hbo.drewN _⟩
            case measure => simp [intOf]; omega
        · have hL := Lib.hid (leftTo_succ l k hlt)
          have hjk' : Hid (j = k) := show j = k by omega
          have hLk := leftTo_le l k
          have hoff : off + k * 2 + 1 = off + k * 2 + 1 := rfl
          clear hoff
          go_wp2_with (first
            | (go_at_call 153; refine (seatMay_any l[k] _).mono ?_; rintro e w1 ⟨rfl, hb1⟩
               have hk0 := (hb1.cell (p := ⟨b, off + k * 2, none⟩) (by simp; omega)).trans hc0'
               have hk1 := (hb1.cell (p := ⟨b, off + k * 2 + 1, none⟩) (by simp; omega)).trans hc1'
               have hb1' := hb'.trans (hb1.mono (by omega))
               have hown1 := own_below hown' hb1
               have hsz1 := hb1.size)
            | (at_builtin; refine wpList_append_any _ rfl (.tmp 45) (.tmp 50) 51 rfl w.heap.size 165 i0 _ 2 16 Try.underlying51 hi0 hz0 hz1 hz2 rfl (by omega) _ (leftTo l k).length _ (by rfl) (hown1.alloc _) (w1.heap.size + 1) _ 1 1 [.int .i64 l[k].who, .int .i64 l[k].weight] (by rfl) (Rd.laid w1 #[.int .i64 l[k].who, .int .i64 l[k].weight] 165 2 1 rfl) (fun u hu => by simp at hu; rcases hu with rfl | rfl <;> rfl) (by simp [maxLen]; omega) (by omega) (by simp; omega) ?_
               intro v2 w2 hown2 hg2 hat2
               have hb2 : Below w.heap.size w w2 := (hb1'.alloc (by omega) _).grown hg2 (by simp; omega) (own_ge hown1)))
          · have h1 : firstOf l l[k].who j = true := by assumption
            have h2 : seatOk l[k] = true := by assumption
            go_roundw
            case rel =>
              refine ⟨k + 1, by omega, by go_num, ?_, hb2⟩
              rw [hjk'.out] at h1
              rw [hL.out, h1, h2]
              simp only [Bool.and_self, if_true, List.length_append, List.length_cons, List.length_nil, seatsCells_append]
              exact hown2
            case measure => simp [intOf]; omega
          · have h2 : seatOk l[k] = false := by assumption
            go_roundw
            case rel =>
              refine ⟨k + 1, by omega, by go_num, ?_, hb1'⟩
              rw [hL.out, h2]
              simpa using hown1
            case measure => simp [intOf]; omega
          · have h1 : firstOf l l[k].who j = false := by assumption
            go_roundw
            case rel =>
              refine ⟨k + 1, by omega, by go_num, ?_, hb1'⟩
              rw [hjk'.out] at h1
              rw [hL.out, h1]
              simpa using hown1
            case measure => simp [intOf]; omega
    · clear hB
      go_wp2
      go_loopw [3, 8, 9, 10] (fun v o b i wr => ∃ (out left : List Seat), chooseS l = chooseLoop left.length out left ∧ out.length ≤ 7 ∧ left.length ≤ l.length ∧ wr.ownsRow w.heap.size 165 2 v left.length (seatsCells left) ∧ wr.ownsRow w.heap.size 165 2 o out.length (seatsCells out) ∧ Below w.heap.size w wr) (fun v _ _ _ _ => match v with | .slice _ n _ => n | _ => 0)
      case atStart =>
        have e : k = l.length := by omega
        subst e
        exact ⟨[], _, rfl, by simp, leftTo_le _ _, hown, World.ownsRow_nil _ _ _ _, hb⟩
      case round =>
        obtain ⟨out, left, hC, ho7, hleft, hownL, hownO, hb⟩ := hrel
        have HC := Lib.hid hC
        clear hC
        obtain ⟨AL, cL, rfl⟩ := own_shape hownL
        obtain ⟨AO, cO, rfl⟩ := own_shape hownO
        have hcL := own_cap hownL
        have hcO := own_cap hownO
        by_cases hcont : out.length < 7 ∧ 0 < left.length
        · obtain ⟨h7, hpos⟩ := hcont
          have hsz := hb.size
          have h7i : (out.length : Int) < 7 := by omega
          have hpi : (0 : Int) < (left.length : Int) := by omega
          go_wp2
          obtain ⟨wo, rfl⟩ : ∃ wo : World, wo = wr := ⟨_, rfl⟩
          go_loopw [9, 10] (fun b i wr => ∃ j : Nat, 1 ≤ j ∧ j ≤ left.length ∧ i = .int .i64 j ∧ b = .int .i64 (bestTo left j) ∧ Below wo.heap.size wo wr) (fun _ i _ => left.length - (intOf i).toNat)
          case atStart => exact ⟨1, by omega, by omega, rfl, by rw [bestTo_one]; rfl, Below.refl _ _⟩
          case round =>
            obtain ⟨j, hj1, hj, rfl, rfl, hbo⟩ := hrel
            have hbl := bestTo_lt left j hpos
            have hownL' := own_below hownL hbo
            have hownO' := own_below hownO hbo
            have hsz' := hbo.size
            have hb' := hb.trans (hbo.mono (by omega))
            clear hownL hownO
            obtain ⟨b, off, hAL, hbB, hd0, hd1⟩ := Seats.at_ (l := left) (Rd.of_own hownL') hbl
            subst hAL
            have hbi : (bestTo left j : Int) < (left.length : Int) := by omega
            by_cases hjl : j < left.length
            · obtain ⟨b', off', e, _, hc0, hc1⟩ := Seats.at_ (l := left) (Rd.of_own hownL') hjl
              simp only [Option.some.injEq, Addr.mk.injEq, and_true] at e
              obtain ⟨rfl, rfl⟩ := e
              have hji : (j : Int) < (left.length : Int) := by omega
              have HS := Lib.hid (bestTo_succ left j hjl hbl)
              rcases Int.lt_trichotomy left[bestTo left j].weight left[j].weight with h1 | h1 | h1
              · go_wp2
                go_quiet (fail)
                go_wp2
                go_roundw
                case rel => exact ⟨j + 1, by omega, by omega, by go_num, by rw [HS.out]; rw [if_pos (by simp [better]; omega)], hbo.drewN _⟩
                case measure => simp [intOf]; omega
              · have g1 : decide (left[bestTo left j].weight < left[j].weight) = false := by simp; omega
                have g2 : (left[j].weight == left[bestTo left j].weight) = true := by simp; omega
                have H1 := Lib.hid h1
                clear h1
                go_wp2
                go_quiet (fail)
                go_wp2
                · go_roundw
                  case rel => exact ⟨j + 1, by omega, by omega, by go_num, by rw [HS.out]; rw [if_pos (by have := H1.out; simp [better]; omega)], hbo.drewN _⟩
                  case measure => simp [intOf]; omega
                · go_roundw
                  case rel => exact ⟨j + 1, by omega, by omega, by go_num, by rw [HS.out]; rw [if_neg (by have := H1.out; simp [better]; omega)], hbo.drewN _⟩
                  case measure => simp [intOf]; omega
              · have g1 : decide (left[bestTo left j].weight < left[j].weight) = false := by simp; omega
                have g2 : (left[j].weight == left[bestTo left j].weight) = false := by simp; omega
                go_wp2
                go_quiet (fail)
                go_wp2
                go_roundw
                case rel => exact ⟨j + 1, by omega, by omega, by go_num, by rw [HS.out]; rw [if_neg (by simp [better]; omega)], hbo.drewN _⟩
                case measure => simp [intOf]; omega
            · have HJ : Hid (j = left.length) := show j = left.length by omega
              go_wp2_with (first
                | (go_at_call 154; refine (insert_any out left[bestTo left j] AO cO wr.heap.size wr (Rd.of_own hownO') (Nat.le_refl _) (by omega) hcO).mono ?_; rintro e w1 ⟨v1, rfl, hown1, hb1⟩
                   have hb1' := hb'.trans (hb1.mono (by omega))
                   have hownL1 := own_below hownL' hb1
                   have hsz1 := hb1.size))
              have hb0 : (0 : Int) ≤ (bestTo left j : Int) := by omega
              have hw0 : IntKind.i64.wrap ((bestTo left j : Int) + 1) = (bestTo left j : Int) + 1 := IntWalk.i64_in _ (by omega)
              have hw1 : (0 : Int) ≤ (bestTo left j : Int) + 1 := by omega
              have hw2 : (bestTo left j : Int) + 1 ≤ (left.length : Int) := by omega
              have hw3 : ((bestTo left j : Int) + 1).toNat = bestTo left j + 1 := by omega
              have hw4 : (bestTo left j : Int) ≤ (cL : Int) := by omega
              have hw5 : (left.length : Int) ≤ (cL : Int) := by omega
              have hownA : ∀ n, ((w1.alloc (.cells #[] 165)).drewN n).ownsRow w1.heap.size 165 2 (.slice (some ⟨w1.heap.size, 0, none⟩) 0 0) 0 [] := fun n => own_drewN (World.ownsRow_made (base := w1.heap.size) (e := 165) (size := 2) w1 #[] 0 (Nat.le_refl _) (by simp [maxLen]) (by simp)) n
              have hRL : Rd w1 w1.heap.size 2 (some ⟨b, off, none⟩) left.length (seatsCells left) := Rd.of_own hownL1
              go_region_held3 (fun _ => True) (trivial) (first
                | (refine step_append_any _ (by rfl) (.tmp 110) (.tmp 113) 51 (by rfl) w1.heap.size 165 i0 _ 2 16 Try.underlying51 hi0 hz0 hz1 hz2 rfl (by omega) (.slice (some ⟨w1.heap.size, 0, none⟩) 0 0) 0 [] (by rfl) (by exact hownA 1) w1.heap.size _ (bestTo left j) cL ((seatsCells left).take (bestTo left j * 2)) (by rfl) (by exact ((hRL.alloc (Nat.le_refl _) _).drewN 1).take (by omega)) (fun u hu => seatsCells_one left u (List.mem_of_mem_take hu)) (by simp [maxLen]; omega) (by omega) (by simp) ?_
                   intro v2 w2 hown2 hg2 hat2
                   simp only [Nat.zero_add, List.nil_append] at hown2
                   have hb2 : Below w1.heap.size w1 w2 := (((Below.refl _ w1).alloc (Nat.le_refl _) _).drewN 1).grown hg2 (by simp) (by simp [Value.ownBlock])
                   have hsz2 := hb2.size)
                | (refine step_append_any _ (by rfl) (.tmp 114) (.tmp 118) 51 (by rfl) w1.heap.size 165 i0 _ 2 16 Try.underlying51 hi0 hz0 hz1 hz2 rfl (by omega) v2 (bestTo left j) _ (by rfl) hown2 w1.heap.size _ (left.length - (bestTo left j + 1)) (cL - (bestTo left j + 1)) ((seatsCells left).drop ((bestTo left j + 1) * 2)) (by rfl) (by first | exact (hRL.below hb2).cut_lt (by omega) | exact (hRL.below hb2).cut (by omega) (by omega) | exact (hRL.below hb2).cut_all (by omega) _) (fun u hu => seatsCells_one left u (List.mem_of_mem_drop hu)) (by simp [maxLen]; omega) (by omega) (by omega) ?_
                   intro v3 w3 hown3 hg3 hat3))
              have hb3 : Below w1.heap.size w1 w3 := hb2.grown hg3 hsz2 (own_ge hown2)
              go_wp2
              go_roundw
              case rel =>
                have hC2 := chooseLoop_step out left (bestTo left j) (by rw [HJ.out]) hbl h7
                have hE : left.eraseIdx (bestTo left j) = left.take (bestTo left j) ++ left.drop (bestTo left j + 1) := List.eraseIdx_eq_take_drop_succ _ _
                have hEl : (left.eraseIdx (bestTo left j)).length = left.length - 1 := by rw [List.length_eraseIdx]; simp [hbl]
                refine ⟨insertS out left[bestTo left j], left.eraseIdx (bestTo left j), ?_, ?_, ?_, ?_, ?_, hb1'.trans (hb3.mono (by omega))⟩
                · rw [hEl, HC.out, hC2]
                · rw [insertS_length]; omega
                · rw [hEl]; omega
                · have hx := own_mono hown3 (show w.heap.size ≤ w1.heap.size by omega)
                  rw [hEl, hE, seatsCells_append, ← seatsCells_take, ← seatsCells_drop]
                  have e : left.length - 1 = bestTo left j + (left.length - (bestTo left j + 1)) := by omega
                  rw [e]
                  exact hx
                · exact own_mono (own_below hown1 hb3) (by omega)
              case measure =>
                obtain ⟨A3, c3, e3⟩ := own_shape hown3
                subst e3
                simp; omega
        · have hC2 : Hid (chooseS l = out) := by
            show chooseS l = out
            rw [HC.out]
            by_cases h7 : out.length < 7
            · have e : left = [] := by
                rcases left with _ | ⟨x, r⟩
                · rfl
                · exact absurd ⟨h7, by simp⟩ hcont
              subst e
              rfl
            · rcases left with _ | ⟨x, r⟩
              · rfl
              · simp only [List.length_cons, chooseLoop]
                split
                · rfl
                · rw [if_neg h7]
          go_wp2
          all_goals
            go_ret
            refine ⟨_, rfl, ?_, hb⟩
            rw [hC2.out]
            exact hownO
end Go.Proofs.Ytjmkcndjjfokiaa
