/- The digest of a tree, and which of its items begin with a text, by the reference. -/
import Derived.Test.YtjjkdmngmopjbaaProg
import Derived.Test.YtjjkdmngmopjbaaTe1
set_option linter.unusedSimpArgs false
set_option linter.unusedVariables false
namespace Go.Proofs.Ytjjkdmngmopjbaa
open Go.RowKit
/-- what the reference's walks need of a tree, or of none -/
def GoodO (t : Option Tr) : Prop := ∀ u, t = some u → GoodT u
set_option maxRecDepth 100000 in
theorem rrootT_any (wd : Int) (t : Option Tr) (hg : GoodO t) (A : Option Addr) (n c B : Nat) (w : World) (hn : (Tr.oitems t).length = n) (hl : ItR w B A (Tr.oitems t)) (hB : B ≤ w.heap.size) (hc : n ≤ c) (hcm : c ≤ maxLen) :
    Calls Try.prog 20 #[rtreeV wd (.slice A n c)] w fun e w' => e = .returned (.int .u64 (rootT wd t)) ∧ Below w.heap.size w w' := by
  unfold rtreeV
  have hX : Blk (w.alloc (.cells #[.int .i64 wd, .slice A n c] 57)) w.heap.size 57 #[.int .i64 wd, .slice A n c] := Blk.new _ _ _
  have hB0 : Below w.heap.size w (w.alloc (.cells #[.int .i64 wd, .slice A n c] 57)) := (Below.refl _ _).alloc (Nat.le_refl _) _
  have c0 := (hX.cell 0).trans (show _ = some (Value.int .i64 wd) from rfl)
  have c1 := (hX.cell 1).trans (show _ = some (Value.slice A n c) from rfl)
  have hl0 : ItR _ B A _ := Rd.below hl (hB0.mono hB)
  have hsz := hX.lt
  clear hl
  cases t with
  | none =>
    have hn0 : n = 0 := by rw [← hn]; rfl
    subst hn0
    clear hl0 hn
    have HD : Hid (rootT wd none = ofS wd 5 []) := rfl
    generalize rootT wd none = D at *
    generalize hw0 : w.alloc (.cells #[.int .i64 wd, .slice A 0 c] 57) = w0 at *
    go_enter Try.func20, Try.ntmps20
    go_wp2_with fail
    clear hw0
    refine (rwholeNo_any 0 _).mono ?_
    rintro e w1 ⟨x, rfl, ⟨A', c', rfl, hs', hf'⟩, hb1⟩
    have hX1 := (hX.below hb1 hsz).alloc (.cells #[.int .i64 5, .slice A' 0 c'] 106)
    have d0 := (hX1.cell 0).trans (show _ = some (Value.int .i64 wd) from rfl)
    have d1 := ((hX.below hb1 hsz).cell 0).trans (show _ = some (Value.int .i64 wd) from rfl)
    go_wp2_with fail
    refine (rimageDigest_any wd 5 [] A' c' w1.heap.size _ (by exact Rd.alloc hs' (Nat.le_refl _) _) (by simp) (by simp [maxLen]) (by intro p hp; simp at hp)).mono ?_
    rintro e w2 ⟨rfl, hb2⟩
    go_wp2_with fail
    rw [← HD.out]
    go_ret
    exact ⟨rfl, hB0.trans (((hb1.alloc hb1.size _).trans (hb2.mono (by have := hb1.size; simp; omega))).mono hB0.size)⟩
  | some t =>
    have hg : GoodT t := hg t rfl
    have hn1 : t.items.length = n := hn
    have hl1 : ItR _ B A t.items := hl0
    have hp := t.items_pos
    have hd := digT_bd wd t
    have hD := (rtop_all wd t hg).2 n A c B
    have HD : Hid (rootT wd (some t) = ofS wd 5 [be (digT wd t) 8]) := rfl
    have hne : ((n : Int) == 0) = false := beq_eq_false_iff_ne.2 (by omega)
    have hne2 : decide ((n : Int) = 0) = false := decide_eq_false (by omega)
    clear hl0 hn
    generalize rootT wd (some t) = D at *
    generalize digT wd t = x at *
    generalize hw0 : w.alloc (.cells #[.int .i64 wd, .slice A n c] 57) = w0 at *
    go_enter Try.func20, Try.ntmps20
    go_wp2_with fail
    clear hw0
    refine (hD _ hn1 hl1 (by omega) hc hcm).mono ?_
    rintro e w1 ⟨rfl, hb1⟩
    clear hD
    have d0 := ((hX.below hb1 hsz).cell 0).trans (show _ = some (Value.int .i64 wd) from rfl)
    go_wp2_with fail
    refine (rwholeYes_any x _ hd.1 hd.2).mono ?_
    rintro e w2 ⟨v, rfl, ⟨A', c', rfl, hs', hf'⟩, hb2⟩
    have hb12 := hb1.trans (hb2.mono hb1.size)
    have hX2 := (hX.below hb12 hsz).alloc (.cells #[.int .i64 5, .slice A' 1 c'] 106)
    have d1 := (hX2.cell 0).trans (show _ = some (Value.int .i64 wd) from rfl)
    have d2 := ((hX.below hb12 hsz).cell 0).trans (show _ = some (Value.int .i64 wd) from rfl)
    go_wp2_with fail
    refine (rimageDigest_any wd 5 [be x 8] A' c' w2.heap.size _ (by exact Rd.alloc hs' (Nat.le_refl _) _) (by simp) (by simp [maxLen]) (short1 x)).mono ?_
    rintro e w3 ⟨rfl, hb3⟩
    go_wp2_with fail
    rw [← HD.out]
    go_ret
    exact ⟨rfl, hB0.trans (((hb12.alloc hb12.size _).trans (hb3.mono (by have := hb12.size; simp; omega))).mono hB0.size)⟩
set_option maxRecDepth 100000 in
theorem begins_any (s p : Key) (w : World) :
    Calls Try.prog 65 #[.string (bs s), .string (bs p)] w fun e w' => e = .returned (.bool (preB p s)) ∧ w = w' := by
  by_cases h : p.length ≤ s.length
  · have hi : decide ((p.length : Int) ≤ (s.length : Int)) = true := decide_eq_true (by omega)
    have hi2 : (p.length : Int) ≤ (s.length : Int) := by omega
    have he := Lib.hid (take_pre p s h)
    have hx := bs_extract s p.length
    generalize preB p s = b at *
    go_enter Try.func65, Try.ntmps65
    go_wp2_with fail
    go_ret
    exact ⟨ret_bool (by rw [← he.out]), rfl⟩
  · have hi : decide ((p.length : Int) ≤ (s.length : Int)) = false := decide_eq_false (by omega)
    have he := short_pre p s h
    generalize preB p s = b at *
    subst he
    go_enter Try.func65, Try.ntmps65
    go_wp2_with fail
    go_ret
    exact ⟨rfl, rfl⟩
theorem someL_snoc (k : Key) (most : Int) (l : List Ent) (i : Nat) (hi : i < l.length) : someL k most (l.take (i + 1)) = someL k most (l.take i) ++ (if preB k l[i].1 && (decide (most < 0) || decide (((someL k most (l.take i)).length : Int) < most)) then [l[i]] else []) := by
  have e : preL k (l.take (i + 1)) = preL k (l.take i) ++ (if preB k l[i].1 then [l[i]] else []) := by
    rw [List.take_succ_eq_append_getElem hi, preL_append]
    congr 1
    unfold preL
    rw [List.filter_cons]
    split <;> simp
  unfold someL
  by_cases hm : most < 0
  · rw [if_pos hm, if_pos hm, e]
    simp [hm]
  · rw [if_neg hm, if_neg hm, e]
    generalize preL k (l.take i) = a
    obtain ⟨m, rfl⟩ : ∃ m : Nat, most = (m : Int) := ⟨most.toNat, by omega⟩
    simp only [Int.toNat_natCast]
    cases preB k l[i].1
    · simp
    · have d : decide ((m : Int) < 0) = false := decide_eq_false hm
      rw [d]
      by_cases hlt : a.length < m
      · have hl2 : (a.take m).length = a.length := by rw [List.length_take]; omega
        have d2 : decide (((a.take m).length : Int) < (m : Int)) = true := decide_eq_true (by omega)
        simp only [d2, Int.toNat_natCast, if_true, Bool.false_or, Bool.true_and]
        rw [List.take_of_length_le (l := a) (by omega), List.take_of_length_le (by simp; omega)]
      · have hl2 : (a.take m).length = m := by rw [List.length_take]; omega
        have d2 : decide (((a.take m).length : Int) < (m : Int)) = false := decide_eq_false (by omega)
        simp only [d2, Int.toNat_natCast, if_true, Bool.false_or, Bool.true_and, Bool.false_eq_true, if_false, List.append_nil]
        rw [List.take_append_of_le_length (by omega)]
theorem someL_len (k : Key) (most : Int) (l : List Ent) : (someL k most l).length ≤ l.length := by
  have h : (preL k l).length ≤ l.length := List.length_filter_le _ _
  unfold someL
  split
  · exact h
  · rw [List.length_take]; omega
set_option maxRecDepth 100000 in
set_option maxHeartbeats 2000000 in
theorem rsome_any (wd : Int) (k : Key) (most : Int) (A : Option Addr) (l : List Ent) (c B : Nat) (w : World) (hl : ItR w B A l) (hB : B ≤ w.heap.size) (hlen : l.length ≤ 1000000000) :
    Calls Try.prog 22 #[rtreeV wd (.slice A l.length c), .string (bs k), .int .i64 most] w fun e w' => ∃ v, e = .returned v ∧ w'.ownsRow w.heap.size 132 2 v (someL k most l).length (itemCells (someL k most l)) ∧ Below w.heap.size w w' := by
  unfold rtreeV
  have hX : Blk (w.alloc (.cells #[.int .i64 wd, .slice A l.length c] 57)) w.heap.size 57 #[.int .i64 wd, .slice A l.length c] := Blk.new _ _ _
  have hB0 : Below w.heap.size w (w.alloc (.cells #[.int .i64 wd, .slice A l.length c] 57)) := (Below.refl _ _).alloc (Nat.le_refl _) _
  have hl0 : ItR _ B A _ := Rd.below hl (hB0.mono hB)
  have hsz : w.heap.size + 1 = (w.alloc (.cells #[.int .i64 wd, .slice A l.length c] 57)).heap.size := by simp
  have hsz1 : w.heap.size + 1 ≤ (w.alloc (.cells #[.int .i64 wd, .slice A l.length c] 57)).heap.size := by omega
  obtain ⟨i0, hi0, hz0, hz1, hz2⟩ := info_parts itemInfo
  clear hl hsz
  generalize hw0 : w.alloc (.cells #[.int .i64 wd, .slice A l.length c] 57) = w0 at *
  go_enter Try.func22, Try.ntmps22
  go_wp2_with fail
  clear hw0
  go_loopw [7, 8, 9] (fun v z _ wr => ∃ i : Nat, z = .int .i64 (i : Int) ∧ i ≤ l.length ∧ wr.ownsRow (w.heap.size + 1) 132 2 v (someL k most (l.take i)).length (itemCells (someL k most (l.take i))) ∧ Below (w.heap.size + 1) w0 wr) (fun _ z _ _ => l.length - (intOf z).toNat)
  case atStart =>
    refine ⟨0, rfl, by omega, ?_, Below.refl _ _⟩
    have e : someL k most (l.take 0) = [] := by unfold someL preL; simp
    rw [e]
    exact World.ownsRow_nil _ _ _ _
  case round =>
    obtain ⟨i, rfl, hi, hrow, hb⟩ := hrel
    have hX2 := hX.below hb (by omega)
    have c1 := (hX2.cell 1).trans (show _ = some (Value.slice A l.length c) from rfl)
    have hz := hb.size
    by_cases hlt : i < l.length
    · have hii : (i : Int) < (l.length : Int) := by omega
      have HS := Lib.hid (someL_snoc k most l i hlt)
      have hol := someL_len k most (l.take i)
      rw [List.length_take] at hol
      generalize someL k most (l.take i) = O at *
      generalize hO2 : someL k most (l.take (i + 1)) = O2 at *
      have HO2 := Lib.hid hO2
      clear hO2
      have hl2 : ItR wr B A l := Rd.below hl0 (hb.mono (by omega))
      obtain ⟨xb, xo, rfl, hxb, x0, x1⟩ := hl2.at_ hlt
      generalize l[i] = x at *
      obtain ⟨xk, xv⟩ := x
      dsimp only at x0 x1 HS
      obtain ⟨rA, rc, rfl⟩ := own_shape hrow
      go_wp2_with fail
      refine (begins_any xk k _).mono ?_
      rintro e w1 ⟨rfl, rfl⟩
      generalize preB k xk = pb at *
      obtain ⟨T, hT⟩ : ∃ T, T = (pb && (decide (most < 0) || decide ((O.length : Int) < most))) := ⟨_, rfl⟩
      rw [← hT] at HS
      go_upto_region 6 with fail
      go_cut [35] from 10 to 43 (fun t wx => t = .bool T ∧ wx = wr)
      case first =>
        cases pb
        · have hT2 : T = false := by rw [hT]; rfl
          clear hT
          subst hT2
          go_wp2_with fail
          go_meet
          case rel => exact ⟨rfl, rfl⟩
        · by_cases hm : most < 0
          · have hm1 : decide (most < 0) = true := decide_eq_true hm
            have hT2 : T = true := by rw [hT, hm1]; rfl
            clear hT
            subst hT2
            go_wp2_with fail
            go_meet
            case rel => exact ⟨rfl, rfl⟩
          · have hm1 : decide (most < 0) = false := decide_eq_false hm
            have hT2 : decide ((O.length : Int) < most) = T := by rw [hT, hm1]; simp
            clear hT
            go_wp2_with fail
            go_meet
            case rel => exact ⟨by rw [← hT2], rfl⟩
      case rest =>
        obtain ⟨rfl, rfl⟩ := hcut
        clear hT
        cases T
        · have HS2 : Hid (O2 = O) := by
            show _ = _
            have := HS.out
            simpa using this
          clear HS
          go_wp2_with fail
          go_roundw
          case rel => exact ⟨i + 1, by go_num, by omega, by rw [HO2.out, HS2.out]; exact hrow, hb⟩
          case measure => simp [intOf]; omega
        · have HS2 : Hid (O2 = O ++ [(xk, xv)]) := by
            show _ = _
            have := HS.out
            simpa using this
          clear HS
          go_wp2_with (at_builtin; refine wpList_append_any _ rfl (.tmp 36) (.tmp 42) 55 rfl (w.heap.size + 1) 132 i0 _ 2 32 Try.underlying55 hi0 hz0 hz1 hz2 rfl (by omega) _ O.length _ (by rfl) (hrow.alloc _) (wc.heap.size + 1) _ 1 1 [.string (bs xk), .string (bs xv)] (by rfl) (Rd.laid wc #[.string (bs xk), .string (bs xv)] 132 2 1 rfl) (fun u hu => by simp at hu; rcases hu with rfl | rfl <;> rfl) (by simp [maxLen]; omega) (by omega) (by simp; omega) ?_; intro v' w9 hown' hgrow _; have hb9 := (hb.alloc (by omega) (.cells #[.string (bs xk), .string (bs xv)] 132)).grown hgrow (by simp; omega) (own_ge hrow))
          go_roundw
          case rel => exact ⟨i + 1, by go_num, by omega, by rw [HO2.out, HS2.out]; simpa [itemCells_append, itemCells] using hown', hb9⟩
          case measure => simp [intOf]; omega
    · have hii : ¬ (i : Int) < (l.length : Int) := by omega
      have hil : i = l.length := by omega
      rw [List.take_of_length_le (by omega)] at hrow
      clear hil
      obtain ⟨rA, rc, rfl⟩ := own_shape hrow
      have hrow2 := own_mono hrow (Nat.le_succ w.heap.size)
      go_wp2_with fail
      go_ret
      exact ⟨.slice rA (someL k most l).length rc, rfl, hrow2, hB0.trans (hb.mono (by omega))⟩
end Go.Proofs.Ytjjkdmngmopjbaa
