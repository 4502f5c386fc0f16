/- What the reference's up makes: the images on the way up. -/
import Derived.Test.YtjmkcndjjfokiaaProg
import Derived.Test.YtjmkcndjjfokiaaHold3
namespace Go.Proofs.Ytjmkcndjjfokiaa
open Go.RowKit
set_option maxRecDepth 100000 in
set_option maxHeartbeats 1000000 in
theorem up_no (wd : Int) (s : List UInt8) (n a : Int) (len c : Nat) (A : Option Addr) (w : World) (h : a < 0 ∨ n ≤ a ∨ 1099511627775 < n) :
    Calls Try.prog 88 #[.int .i64 wd, .string (bs s), .agg #[.int .i64 n, .int .i64 a, .slice A len c]] w fun e w' => e = .returned (.tuple #[.slice none 0 0, .bool false]) ∧ Below w.heap.size w w' := by
  by_cases h0 : a < 0
  · go_enter Try.func88, Try.ntmps88
    go_wp2
    exact bodyPost_ret (v := .tuple #[.slice none 0 0, .bool false]) (by simp [results, Try.results88, go_sem]) rfl ⟨rfl, (Below.refl _ _).alloc (Nat.le_refl _) _⟩
  · by_cases h1 : n ≤ a
    · go_enter Try.func88, Try.ntmps88
      go_wp2
      exact bodyPost_ret (v := .tuple #[.slice none 0 0, .bool false]) (by simp [results, Try.results88, go_sem]) rfl ⟨rfl, (Below.refl _ _).alloc (Nat.le_refl _) _⟩
    · have h2 : 1099511627775 < n := by omega
      go_enter Try.func88, Try.ntmps88
      go_wp2
      exact bodyPost_ret (v := .tuple #[.slice none 0 0, .bool false]) (by simp [results, Try.results88, go_sem]) rfl ⟨rfl, (Below.refl _ _).alloc (Nat.le_refl _) _⟩
/-- the first loop of up leaves the ways -/
def UpAns (w : World) (wd : Int) (s : List UInt8) (n : Nat) (ways : List Bool) (ds : List Int) (e : Ending) (w' : World) : Prop :=
  if ways.length = ds.length then ∃ v xs, e = .returned (.tuple #[v, .bool true]) ∧ w'.ownsRow w.heap.size 45 2 v (ds.length + 2) xs ∧ Imgs w.heap.size w' v.ownBlock xs (imgsS wd s n ways ds) ∧ Below w.heap.size w w'
  else e = .returned (.tuple #[.slice none 0 0, .bool false]) ∧ Below w.heap.size w w'
set_option maxRecDepth 100000 in
set_option maxHeartbeats 8000000 in
theorem up_any (wd : Int) (s : List UInt8) (hs : s.length ≤ maxLen) (n a : Nat) (ds : List Int) (A : Option Addr) (c B : Nat) (w : World) (hr : Rd w B 1 A ds.length (digs ds)) (hB : B ≤ w.heap.size) (ha : a < n) (hn : n ≤ 1099511627775) (ways : List Bool) (hwy : riteF n n a = ways) (hwl : ways.length ≤ 1099511627775) (hd : ∀ d ∈ ds, 0 ≤ d ∧ d < 18446744073709551616) (hdl : ds.length ≤ maxLen) :
    Calls Try.prog 88 #[.int .i64 wd, .string (bs s), .agg #[.int .i64 (n : Int), .int .i64 (a : Int), .slice A ds.length c]] w (UpAns w wd s n ways ds) := by
  have hcl := clims_len wd (ofS wd 0 [s]) ways ds
  have hdl2 := hdl
  unfold maxLen at hdl2
  obtain ⟨i0, hi0, hz0, hz1, hz2⟩ := info_parts boolInfo
  have hnegs : ¬ (a : Int) < 0 := by omega
  have hnge : ¬ (n : Int) ≤ (a : Int) := by omega
  have hnmx : ¬ (1099511627775 : Int) < (n : Int) := by omega
  have hcap := hwl
  go_enter Try.func88, Try.ntmps88
  go_wp2_with fail
  go_loopw [8, 9, 10, 11] (fun z x y _ wr => ∃ (lo hi f : Nat) (pre : List Bool) (v : Value), x = .int .i64 (lo : Int) ∧ y = .int .i64 (hi : Int) ∧ v = z ∧ lo ≤ a ∧ a < hi ∧ hi ≤ n ∧ hi - lo ≤ f ∧ pre.length + f ≤ n ∧ pre ++ riteF f (hi - lo) (a - lo) = ways ∧ wr.ownsRow (w.heap.size + 1) 4 1 v pre.length (boos pre) ∧ Blk wr w.heap.size 37 #[.int .i64 (n : Int), .int .i64 (a : Int), .slice A ds.length c] ∧ Below w.heap.size w wr) (fun _ x y _ _ => (intOf y).toNat - (intOf x).toNat)
  case atStart => exact ⟨0, n, n, [], _, rfl, rfl, rfl, by omega, ha, Nat.le_refl _, by omega, by simp, by simpa using hwy, World.ownsRow_nil _ _ _ _, Blk.new _ _ _, (Below.refl _ _).alloc (Nat.le_refl _) _⟩
  case round =>
    obtain ⟨lo, hi, f, pre, v, rfl, rfl, rfl, h3, h4, h5, h6, h8, h7, hown, hblk, hb⟩ := hrel
    have H7 := Lib.hid h7
    clear h7
    have k1 := (hblk.cell 1).trans (show _ = some (Value.int .i64 (a : Int)) from rfl)
    have hw0 : IntKind.i64.wrap ((hi : Int) - (lo : Int)) = ((hi - lo : Nat) : Int) := by rw [IntWalk.i64_in _ (by omega)]; omega
    by_cases hgo : 1 < hi - lo
    · as_aux_lemma =>
      have hgi : (1 : Int) < ((hi - lo : Nat) : Int) := by omega
      have hhb := halfS_bd (hi - lo) (by omega)
      have hL := riteF_left f (hi - lo) (a - lo) h6 (by omega)
      have hR := riteF_right f (hi - lo) (a - lo) h6 (by omega)
      have hsp := split_any (hi - lo)
      generalize halfS (hi - lo) = q at *
      have hw1 : IntKind.i64.wrap ((lo : Int) + (q : Int)) = ((lo + q : Nat) : Int) := by rw [IntWalk.i64_in _ (by omega)]; omega
      by_cases hlt : a - lo < q
      · have hlti : ¬ ((lo + q : Nat) : Int) ≤ (a : Int) := by omega
        have hdec : decide (lo + q ≤ a) = false := decide_eq_false (by omega)
        have hdec2 : decide ((lo : Int) + (q : Int) ≤ (a : Int)) = false := decide_eq_false (by omega)
        have HL := Lib.hid (hL hlt)
        clear hL hR
        go_wp2_with fail
        refine (hsp _ (by omega) (by omega)).mono ?_
        rintro e w1 ⟨rfl, rfl⟩
        go_wp2_with (first
          | (at_builtin; refine wpList_append_any _ rfl (.tmp 47) (.tmp 52) 230 rfl (w.heap.size + 1) 4 i0 _ 1 1 Try.underlying230 hi0 hz0 hz1 hz2 rfl (by omega) v pre.length _ (by rfl) (hown.alloc _) (wr.heap.size + 1) _ 1 1 [.bool false] (by rfl) (Rd.laid wr #[.bool false] 4 1 1 rfl) (fun u hu => by simp at hu; subst hu; rfl) (by simp [maxLen]; omega) (by omega) (by have := hblk.lt; simp; omega) ?_
             intro v3 w3 hown3 hg3 hat3
             have hb3 : Below w.heap.size w w3 := (hb.alloc hb.size _).grown hg3 (by have := hb.size; simp; omega) (fun k hk => by have := own_ge hown k hk; omega)
             have hblk3 := (hblk.alloc (.cells #[.bool false] 4)).grown hg3 (fun e => by have := own_ge hown _ e.symm; omega)
             have k13 := (hblk3.cell 1).trans (show _ = some (Value.int .i64 (a : Int)) from rfl)))
        go_wp2_with fail
        go_roundw
        case rel =>
          refine ⟨lo, (lo + q), f - 1, pre ++ [false], v3, by first | rfl | go_num, by first | rfl | go_num, rfl, by omega, by omega, by omega, by omega, by simp; omega, ?_, ?_, hblk3, hb3⟩
          · rw [← H7.out, HL.out, List.append_assoc, show (lo + q) - lo = q by omega, show a - lo = a - lo by omega]; rfl
          · rw [boos_snoc, show (pre ++ [false]).length = pre.length + 1 by simp]
            exact hown3
        case measure => first | (simp [intOf]; done) | (simp [intOf]; omega)
      · have hlti : ((lo + q : Nat) : Int) ≤ (a : Int) := by omega
        have hdec : decide (lo + q ≤ a) = true := decide_eq_true (by omega)
        have hdec2 : decide ((lo : Int) + (q : Int) ≤ (a : Int)) = true := decide_eq_true (by omega)
        have HL := Lib.hid (hR hlt)
        clear hL hR
        go_wp2_with fail
        refine (hsp _ (by omega) (by omega)).mono ?_
        rintro e w1 ⟨rfl, rfl⟩
        go_wp2_with (first
          | (at_builtin; refine wpList_append_any _ rfl (.tmp 47) (.tmp 52) 230 rfl (w.heap.size + 1) 4 i0 _ 1 1 Try.underlying230 hi0 hz0 hz1 hz2 rfl (by omega) v pre.length _ (by rfl) (hown.alloc _) (wr.heap.size + 1) _ 1 1 [.bool true] (by rfl) (Rd.laid wr #[.bool true] 4 1 1 rfl) (fun u hu => by simp at hu; subst hu; rfl) (by simp [maxLen]; omega) (by omega) (by have := hblk.lt; simp; omega) ?_
             intro v3 w3 hown3 hg3 hat3
             have hb3 : Below w.heap.size w w3 := (hb.alloc hb.size _).grown hg3 (by have := hb.size; simp; omega) (fun k hk => by have := own_ge hown k hk; omega)
             have hblk3 := (hblk.alloc (.cells #[.bool true] 4)).grown hg3 (fun e => by have := own_ge hown _ e.symm; omega)
             have k13 := (hblk3.cell 1).trans (show _ = some (Value.int .i64 (a : Int)) from rfl)))
        go_wp2_with fail
        go_roundw
        case rel =>
          refine ⟨(lo + q), hi, f - 1, pre ++ [true], v3, by first | rfl | go_num, by first | rfl | go_num, rfl, by omega, by omega, by omega, by omega, by simp; omega, ?_, ?_, hblk3, hb3⟩
          · rw [← H7.out, HL.out, List.append_assoc, show hi - (lo + q) = hi - lo - q by omega, show a - (lo + q) = a - lo - q by omega]; rfl
          · rw [boos_snoc, show (pre ++ [true]).length = pre.length + 1 by simp]
            exact hown3
        case measure => first | (simp [intOf]; done) | (simp [intOf]; omega)
    · have hgi : ¬ (1 : Int) < ((hi - lo : Nat) : Int) := by omega
      have hp : ways = pre := by rw [← H7.out, riteF_end _ _ _ (by omega)]; simp
      subst hp
      obtain ⟨A1, c1, rfl⟩ := own_shape hown
      have hway0 := Rd.of_own hown
      have k2 := (hblk.cell 2).trans (show _ = some (Value.slice A ds.length c) from rfl)
      by_cases hlen : ways.length = ds.length
      · have hlni : (ways.length : Int) = (ds.length : Int) := by omega
        as_aux_lemma =>
        rw [hlen] at hown hway0 hcap
        obtain ⟨i0, hi0, hz0, hz1, hz2⟩ := info_parts imgInfo
        have hshs : Short [s] := fun p hp => by simp at hp; subst hp; exact hs
        have hslaid : Strs ((wr.alloc (.cells #[.string (bs s)] 9)).alloc (.cells #[.int .i64 0, .slice (some ⟨wr.heap.size, 0, none⟩) 1 1] 45)) ((wr.alloc (.cells #[.string (bs s)] 9)).alloc (.cells #[.int .i64 0, .slice (some ⟨wr.heap.size, 0, none⟩) 1 1] 45)).heap.size (some ⟨wr.heap.size, 0, none⟩) [s] :=
          Rd.more (Rd.alloc (Strs.laid (w := wr) (t := 9) [s]) (by simp) _) (by simp)
        have hrow : ((wr.alloc (.cells #[.string (bs s)] 9)).alloc (.cells #[.int .i64 0, .slice (some ⟨wr.heap.size, 0, none⟩) 1 1] 45)).ownsRow wr.heap.size 45 2 (.slice (some ⟨wr.heap.size + 1, 0, none⟩) 1 1) 1 [.int .i64 0, .slice (some ⟨wr.heap.size, 0, none⟩) 1 1] :=
          ⟨rfl, .inr ⟨wr.heap.size + 1, 1, #[.int .i64 0, .slice (some ⟨wr.heap.size, 0, none⟩) 1 1], rfl, by omega, by have := heap_alloc_new (wr.alloc (.cells #[.string (bs s)] 9)) (.cells #[.int .i64 0, .slice (some ⟨wr.heap.size, 0, none⟩) 1 1] 45); simpa using this, Nat.le_refl _, by simp [maxLen], rfl, rfl⟩⟩
        have himg0 : Imgs wr.heap.size ((wr.alloc (.cells #[.string (bs s)] 9)).alloc (.cells #[.int .i64 0, .slice (some ⟨wr.heap.size, 0, none⟩) 1 1] 45)) (some (wr.heap.size + 1)) [.int .i64 0, .slice (some ⟨wr.heap.size, 0, none⟩) 1 1] [(0, [s])] :=
          ⟨rfl, ⟨some ⟨wr.heap.size, 0, none⟩, 1, rfl, hslaid, from_some (Nat.le_refl _), fun _ b off e hbe => by simp only [Option.some.injEq, Addr.mk.injEq, and_true] at e hbe; omega⟩, trivial⟩
        have hS2 : Strs (((wr.alloc (.cells #[.string (bs s)] 9)).alloc (.cells #[.int .i64 0, .slice (some ⟨wr.heap.size, 0, none⟩) 1 1] 45)).alloc (.cells #[.string (bs s)] 9)) (wr.heap.size + 3) (some ⟨wr.heap.size + 2, 0, none⟩) [s] := by
          have := Strs.laid (w := (wr.alloc (.cells #[.string (bs s)] 9)).alloc (.cells #[.int .i64 0, .slice (some ⟨wr.heap.size, 0, none⟩) 1 1] 45)) (t := 9) [s]
          simpa using this
        go_wp2_with fail
        refine (rof_any wd 0 [s] (some ⟨wr.heap.size + 2, 0, none⟩) 1 (wr.heap.size + 3) _ hS2 (by simp) (by simp [maxLen]) hshs).mono ?_
        rintro e w2 ⟨rfl, hb2⟩
        have hb20 : Below wr.heap.size wr w2 := ((((Below.refl _ _).alloc (Nat.le_refl _) _).alloc (by simp) _).alloc (by simp; omega) _).trans (hb2.mono (by simp; omega))
        have hown2 := own_below (hrow.alloc (.cells #[.string (bs s)] 9)) hb2
        have himg2 := (himg0.below ((Below.refl _ _).alloc (Nat.le_refl _) (.cells #[.string (bs s)] 9))).below hb2
        have hblk2 := hblk.below hb20 hblk.lt
        have hway2 := Rd.below hway0 hb20
        have hbel2 := hb.trans (hb20.mono hb.size)
        have hz20 := hb20.size
        have hwB := hblk.lt
        clear hslaid hrow himg0 hS2 hb2 hown hway0 hblk hb20 k1 k2
        generalize hB2 : wr.heap.size = B2 at *
        have HB2 := Lib.hid hB2
        clear hB2
        go_wp2_with fail
        go_loopw [12, 13, 14, 15, 16, 17] (fun v d i _ _ _ wr => ∃ (j m : Nat) (xs : List Value) (q D : Int) (v' : Value), i = .int .i64 q ∧ q = (j : Int) - 1 ∧ j ≤ ds.length ∧ d = .int .u64 D ∧ D = climb wd (ofS wd 0 [s]) (ways.drop j) (ds.drop j) ∧ v' = v ∧ m = ((0, [s]) :: clims wd (ofS wd 0 [s]) (ways.drop j) (ds.drop j) : List ImgP).length ∧ wr.ownsRow B2 45 2 v' m xs ∧ Imgs B2 wr v'.ownBlock xs ((0, [s]) :: clims wd (ofS wd 0 [s]) (ways.drop j) (ds.drop j)) ∧ Rd wr B2 1 A1 ds.length (boos ways) ∧ Blk wr w.heap.size 37 #[.int .i64 (n : Int), .int .i64 (a : Int), .slice A ds.length c] ∧ Below w.heap.size w wr ∧ B2 ≤ wr.heap.size) (fun _ _ i _ _ _ _ => (intOf i + 1).toNat)
        case atStart =>
          refine ⟨ds.length, 1, _, (ds.length : Int) - 1, _, _, by go_num, rfl, Nat.le_refl _, rfl, ?_, rfl, ?_, hown2, ?_, hway2, hblk2, hbel2, hz20⟩
          · rw [← hlen, List.drop_length]; simp [climb]
          · rw [← hlen, List.drop_length]; simp [clims]
          · rw [← hlen, List.drop_length]; simp only [clims]; exact himg2
        case round =>
          obtain ⟨j, m, xs, q, D, v, rfl, hq, hj, rfl, hdg, rfl, hm, hown, himg, hways, hblk, hbel, hB2⟩ := hrel
          have k2 := (hblk.cell 2).trans (show _ = some (Value.slice A ds.length c) from rfl)
          have k0 := (hblk.cell 0).trans (show _ = some (Value.int .i64 (n : Int)) from rfl)
          have hml : m ≤ ds.length + 1 := by
            have h2 := clims_len wd (ofS wd 0 [s]) (ways.drop j) (ds.drop j)
            simp at h2 hm
            omega
          have hcb := climb_bd wd (ofS wd 0 [s]) (by have := ofS_bd wd 0 [s]; omega) (ways.drop j) (ds.drop j)
          rw [← hdg] at hcb
          have HDG := Lib.hid hdg
          have HMM := Lib.hid hm
          have HLE := Lib.hid hlen
          have hl1 : ways.length ≤ ds.length := by omega
          have hl2 : ds.length ≤ ways.length := by omega
          have hways' : Rd wr B2 1 A1 ways.length (boos ways) := by rw [hlen]; exact hways
          have hr8 := fun W => reight_any D W hcb.1 hcb.2
          by_cases hj0 : 0 < j
          · obtain ⟨k, rfl⟩ : ∃ k, j = k + 1 := ⟨j - 1, by omega⟩
            have hq2 : q = (k : Int) := by omega
            clear hq
            subst hq2
            have hge : (0 : Int) ≤ (k : Int) := by omega
            have hk1 : k < ways.length := by omega
            have hk2 : k < ds.length := by omega
            have HC := Lib.hid (clims_step wd (ofS wd 0 [s]) ways ds k hk1 hk2)
            have HD := Lib.hid (climb_step wd (ofS wd 0 [s]) ways ds k hk1 hk2)
            rw [← hdg] at HC HD
            have hmx : m ≤ 1 + (clims wd (ofS wd 0 [s]) (ways.drop (k + 1)) (ds.drop (k + 1))).length := by rw [hm]; simp; omega
            have hmy : 1 + (clims wd (ofS wd 0 [s]) (ways.drop (k + 1)) (ds.drop (k + 1))).length ≤ m := by rw [hm]; simp; omega
            obtain ⟨bw, ow, rfl, hbw, kw⟩ := boos_at hways' hk1
            obtain ⟨bd, od, rfl, hbd, kd⟩ := digs_at (Rd.below hr (hbel.mono hB)) hk2
            have hdk := hd ds[k] (List.getElem_mem hk2)
            generalize ds[k] = dk at *
            have hr9 := fun W => reight_any dk W hdk.1 hdk.2
            have hki : (k : Int) < (ds.length : Int) := by omega
            clear hlen hways' hwy hdg hm
            go_wp2_with fail
            refine (hr8 _).mono ?_
            rintro e w3 ⟨rfl, hb3⟩
            have kd3 : w3.cell? ⟨bd, od + k, none⟩ = some (.int .u64 dk) := (hb3.cell (p := ⟨bd, od + k, none⟩) (by have := hbel.size; simp; omega)).trans kd
            have k23 := ((hblk.below hb3 hblk.lt).cell 2).trans (show _ = some (Value.slice (some ⟨bd, od, none⟩) ds.length c) from rfl)
            go_wp2_with fail
            refine (hr9 _).mono ?_
            rintro e w4 ⟨rfl, hb4⟩
            have hb34 := hb3.trans (hb4.mono hb3.size)
            have hz34 := hb34.size
            have kwa : (w4.alloc (.cells #[.string (bs (be D 8)), .string (bs (be dk 8))] 9)).cell? ⟨bw, ow + k, none⟩ = some (.bool ways[k]) := ((hb34.alloc (by omega) (.cells #[.string (bs (be D 8)), .string (bs (be dk 8))] 9)).cell (p := ⟨bw, ow + k, none⟩) (by simp; omega)).trans kw
            generalize hwk : ways[k] = wk at *
            cases wk
            · simp only [pairS, Bool.false_eq_true, if_false] at HC HD
              as_aux_lemma =>
              go_upto_region 24 with fail
              have hst : Strs (w4.alloc (.cells #[.string (bs (be D 8)), .string (bs (be dk 8))] 9)) (w4.alloc (.cells #[.string (bs (be D 8)), .string (bs (be dk 8))] 9)).heap.size (some ⟨w4.heap.size, 0, none⟩) [be D 8, be dk 8] := by
                have h9 := Strs.laid (w := w4) (t := 9) [be D 8, be dk 8]
                have h10 := Rd.more h9 (show _ ≤ (w4.alloc (.cells #[.string (bs (be D 8)), .string (bs (be dk 8))] 9)).heap.size by simp)
                simpa [Strs] using h10
              have hb5 : Below wr.heap.size wr (w4.alloc (.cells #[.string (bs (be D 8)), .string (bs (be dk 8))] 9)) := hb34.alloc (by omega) _
              have hz5 : wr.heap.size ≤ w4.heap.size ∧ w4.heap.size < (w4.alloc (.cells #[.string (bs (be D 8)), .string (bs (be dk 8))] 9)).heap.size ∧ (w4.alloc (.cells #[.string (bs (be D 8)), .string (bs (be dk 8))] 9)).heap.size = w4.heap.size + 1 := by simp; omega
              have hown5 := own_below hown hb5
              have himg5 := himg.below hb5
              have hblk5 := hblk.below hb5 hblk.lt
              have hw5 := Rd.below hways (hb5.mono hB2)
              have hbel5 := hbel.trans (hb5.mono hbel.size)
              have hww5 : (w4.alloc (.cells #[.string (bs (be D 8)), .string (bs (be dk 8))] 9)).cell? ⟨bw, ow + k, none⟩ = some (.bool false) := (hb5.cell (p := ⟨bw, ow + k, none⟩) (by simp; omega)).trans kw
              have himg6 := (himg5.below ((Below.refl _ _).alloc (Nat.le_refl _) (.cells #[.int .i64 1, .slice (some ⟨w4.heap.size, 0, none⟩) 2 2] 45))).snoc (im := (1, [be D 8, be dk 8])) (t := .int .i64 1) (v := .slice (some ⟨w4.heap.size, 0, none⟩) 2 2) rfl (IsImg.entry (B := wr.heap.size) (ps := [be D 8, be dk 8]) (Rd.more (Rd.alloc hst (Nat.le_refl _) _) (by simp)) (from_some (by omega)) (by omega) (fun g hg => by have := (hown.lt g hg).2; omega))
              have hst5a : Strs ((w4.alloc (.cells #[.string (bs (be D 8)), .string (bs (be dk 8))] 9)).alloc (.cells #[.int .i64 1, .slice (some ⟨w4.heap.size, 0, none⟩) 2 2] 45)) ((w4.alloc (.cells #[.string (bs (be D 8)), .string (bs (be dk 8))] 9)).alloc (.cells #[.int .i64 1, .slice (some ⟨w4.heap.size, 0, none⟩) 2 2] 45)).heap.size (some ⟨w4.heap.size, 0, none⟩) [be D 8, be dk 8] := Rd.more (Rd.alloc hst (Nat.le_refl _) _) (by simp)
              have hlaid : Rd ((w4.alloc (.cells #[.string (bs (be D 8)), .string (bs (be dk 8))] 9)).alloc (.cells #[.int .i64 1, .slice (some ⟨w4.heap.size, 0, none⟩) 2 2] 45)) (w4.heap.size + 1 + 1) 2 (some ⟨w4.heap.size + 1, 0, none⟩) 1 [.int .i64 1, .slice (some ⟨w4.heap.size, 0, none⟩) 2 2] := by
                have := Rd.laid (w4.alloc (.cells #[.string (bs (be D 8)), .string (bs (be dk 8))] 9)) #[.int .i64 1, .slice (some ⟨w4.heap.size, 0, none⟩) 2 2] 45 2 1 rfl
                simpa using this
              go_wp2_with (first
                | (at_builtin; refine wpList_append_any _ rfl (.tmp 99) (.tmp 102) 159 rfl B2 45 i0 _ 2 32 Try.underlying159 hi0 hz0 hz1 hz2 rfl (by omega) v m _ (by rfl) (hown5.alloc _) (w4.heap.size + 1 + 1) _ 1 1 [.int .i64 1, .slice (some ⟨w4.heap.size, 0, none⟩) 2 2] (by rfl) hlaid (fun u hu => by simp at hu; rcases hu with rfl | rfl <;> rfl) (by simp [maxLen]; omega) (by omega) (by simp; omega) ?_
                   intro v6 w6 hown6 hg6 hat6
                   have himg7 := himg6.step hg6 hat6
                   have hblk6 := (hblk5.alloc (.cells #[.int .i64 1, .slice (some ⟨w4.heap.size, 0, none⟩) 2 2] 45)).grown hg6 (fun e => by have := own_ge hown _ e.symm; omega)
                   have hw6 := Rd.grown (Rd.alloc hw5 (by omega) (.cells #[.int .i64 1, .slice (some ⟨w4.heap.size, 0, none⟩) 2 2] 45)) hg6 (by simp; omega) (own_ge hown)
                   have hbel6 : Below w.heap.size w w6 := (hbel5.alloc hbel5.size (.cells #[.int .i64 1, .slice (some ⟨w4.heap.size, 0, none⟩) 2 2] 45)).grown hg6 (by have := hbel5.size; simp; omega) (fun k hk => by have := own_ge hown k hk; omega)
                   have hz6 := hg6.size
                   have hst6 := Strs.stays hst5a hg6 (fun _ b' off' e hbe => by
                     simp only [Option.some.injEq, Addr.mk.injEq, and_true] at e
                     have := (hown.lt b' hbe.symm).2
                     omega)))
              go_wp2_with fail
              refine (rof_any wd 1 [be D 8, be dk 8] (some ⟨w4.heap.size, 0, none⟩) 2 w6.heap.size w6 hst6 (Nat.le_refl _) (by simp [maxLen]) (be2_short _ _)).mono ?_
              rintro e w7 ⟨rfl, hb7⟩
              rw [← HD.out]
              go_wp2_with fail
              go_roundw
              case rel => exact ⟨k, m + 1, _, (k : Int) - 1, climb wd (ofS wd 0 [s]) (ways.drop k) (ds.drop k), v6, by go_num, rfl, by omega, rfl, rfl, rfl, by rw [HC.out]; simp; omega, own_below hown6 hb7, by rw [HC.out, ← List.cons_append]; exact himg7.below hb7, Rd.below hw6 (hb7.mono (by simp at hz6; omega)), hblk6.below hb7 hblk6.lt, hbel6.trans (hb7.mono hbel6.size), by have := hb7.size; simp at hz6; omega⟩
              case measure => first | (simp [intOf]; done) | (simp [intOf]; omega)
            · simp only [pairS, if_true] at HC HD
              as_aux_lemma =>
              go_upto_region 24 with fail
              have hst : Strs ((w4.alloc (.cells #[.string (bs (be D 8)), .string (bs (be dk 8))] 9)).alloc (.cells #[.string (bs (be dk 8)), .string (bs (be D 8))] 9)) ((w4.alloc (.cells #[.string (bs (be D 8)), .string (bs (be dk 8))] 9)).alloc (.cells #[.string (bs (be dk 8)), .string (bs (be D 8))] 9)).heap.size (some ⟨(w4.heap.size + 1), 0, none⟩) [be dk 8, be D 8] := by
                have h9 := Strs.laid (w := (w4.alloc (.cells #[.string (bs (be D 8)), .string (bs (be dk 8))] 9))) (t := 9) [be dk 8, be D 8]
                have h10 := Rd.more h9 (show _ ≤ ((w4.alloc (.cells #[.string (bs (be D 8)), .string (bs (be dk 8))] 9)).alloc (.cells #[.string (bs (be dk 8)), .string (bs (be D 8))] 9)).heap.size by simp)
                simpa [Strs] using h10
              have hb5 : Below wr.heap.size wr ((w4.alloc (.cells #[.string (bs (be D 8)), .string (bs (be dk 8))] 9)).alloc (.cells #[.string (bs (be dk 8)), .string (bs (be D 8))] 9)) := (hb34.alloc (by omega) _).alloc (by simp; omega) _
              have hz5 : wr.heap.size ≤ (w4.heap.size + 1) ∧ (w4.heap.size + 1) < ((w4.alloc (.cells #[.string (bs (be D 8)), .string (bs (be dk 8))] 9)).alloc (.cells #[.string (bs (be dk 8)), .string (bs (be D 8))] 9)).heap.size ∧ ((w4.alloc (.cells #[.string (bs (be D 8)), .string (bs (be dk 8))] 9)).alloc (.cells #[.string (bs (be dk 8)), .string (bs (be D 8))] 9)).heap.size = (w4.heap.size + 1) + 1 := by simp; omega
              have hown5 := own_below hown hb5
              have himg5 := himg.below hb5
              have hblk5 := hblk.below hb5 hblk.lt
              have hw5 := Rd.below hways (hb5.mono hB2)
              have hbel5 := hbel.trans (hb5.mono hbel.size)
              have hww5 : ((w4.alloc (.cells #[.string (bs (be D 8)), .string (bs (be dk 8))] 9)).alloc (.cells #[.string (bs (be dk 8)), .string (bs (be D 8))] 9)).cell? ⟨bw, ow + k, none⟩ = some (.bool true) := (hb5.cell (p := ⟨bw, ow + k, none⟩) (by simp; omega)).trans kw
              have himg6 := (himg5.below ((Below.refl _ _).alloc (Nat.le_refl _) (.cells #[.int .i64 1, .slice (some ⟨(w4.heap.size + 1), 0, none⟩) 2 2] 45))).snoc (im := (1, [be dk 8, be D 8])) (t := .int .i64 1) (v := .slice (some ⟨(w4.heap.size + 1), 0, none⟩) 2 2) rfl (IsImg.entry (B := wr.heap.size) (ps := [be dk 8, be D 8]) (Rd.more (Rd.alloc hst (Nat.le_refl _) _) (by simp)) (from_some (by omega)) (by omega) (fun g hg => by have := (hown.lt g hg).2; omega))
              have hst5a : Strs (((w4.alloc (.cells #[.string (bs (be D 8)), .string (bs (be dk 8))] 9)).alloc (.cells #[.string (bs (be dk 8)), .string (bs (be D 8))] 9)).alloc (.cells #[.int .i64 1, .slice (some ⟨(w4.heap.size + 1), 0, none⟩) 2 2] 45)) (((w4.alloc (.cells #[.string (bs (be D 8)), .string (bs (be dk 8))] 9)).alloc (.cells #[.string (bs (be dk 8)), .string (bs (be D 8))] 9)).alloc (.cells #[.int .i64 1, .slice (some ⟨(w4.heap.size + 1), 0, none⟩) 2 2] 45)).heap.size (some ⟨(w4.heap.size + 1), 0, none⟩) [be dk 8, be D 8] := Rd.more (Rd.alloc hst (Nat.le_refl _) _) (by simp)
              have hlaid : Rd (((w4.alloc (.cells #[.string (bs (be D 8)), .string (bs (be dk 8))] 9)).alloc (.cells #[.string (bs (be dk 8)), .string (bs (be D 8))] 9)).alloc (.cells #[.int .i64 1, .slice (some ⟨(w4.heap.size + 1), 0, none⟩) 2 2] 45)) ((w4.heap.size + 1) + 1 + 1) 2 (some ⟨(w4.heap.size + 1) + 1, 0, none⟩) 1 [.int .i64 1, .slice (some ⟨(w4.heap.size + 1), 0, none⟩) 2 2] := by
                have := Rd.laid ((w4.alloc (.cells #[.string (bs (be D 8)), .string (bs (be dk 8))] 9)).alloc (.cells #[.string (bs (be dk 8)), .string (bs (be D 8))] 9)) #[.int .i64 1, .slice (some ⟨(w4.heap.size + 1), 0, none⟩) 2 2] 45 2 1 rfl
                simpa using this
              go_wp2_with (first
                | (at_builtin; refine wpList_append_any _ rfl (.tmp 99) (.tmp 102) 159 rfl B2 45 i0 _ 2 32 Try.underlying159 hi0 hz0 hz1 hz2 rfl (by omega) v m _ (by rfl) (hown5.alloc _) ((w4.heap.size + 1) + 1 + 1) _ 1 1 [.int .i64 1, .slice (some ⟨(w4.heap.size + 1), 0, none⟩) 2 2] (by rfl) hlaid (fun u hu => by simp at hu; rcases hu with rfl | rfl <;> rfl) (by simp [maxLen]; omega) (by omega) (by simp; omega) ?_
                   intro v6 w6 hown6 hg6 hat6
                   have himg7 := himg6.step hg6 hat6
                   have hblk6 := (hblk5.alloc (.cells #[.int .i64 1, .slice (some ⟨(w4.heap.size + 1), 0, none⟩) 2 2] 45)).grown hg6 (fun e => by have := own_ge hown _ e.symm; omega)
                   have hw6 := Rd.grown (Rd.alloc hw5 (by omega) (.cells #[.int .i64 1, .slice (some ⟨(w4.heap.size + 1), 0, none⟩) 2 2] 45)) hg6 (by simp; omega) (own_ge hown)
                   have hbel6 : Below w.heap.size w w6 := (hbel5.alloc hbel5.size (.cells #[.int .i64 1, .slice (some ⟨(w4.heap.size + 1), 0, none⟩) 2 2] 45)).grown hg6 (by have := hbel5.size; simp; omega) (fun k hk => by have := own_ge hown k hk; omega)
                   have hz6 := hg6.size
                   have hst6 := Strs.stays hst5a hg6 (fun _ b' off' e hbe => by
                     simp only [Option.some.injEq, Addr.mk.injEq, and_true] at e
                     have := (hown.lt b' hbe.symm).2
                     omega)))
              go_wp2_with fail
              refine (rof_any wd 1 [be dk 8, be D 8] (some ⟨(w4.heap.size + 1), 0, none⟩) 2 w6.heap.size w6 hst6 (Nat.le_refl _) (by simp [maxLen]) (be2_short _ _)).mono ?_
              rintro e w7 ⟨rfl, hb7⟩
              rw [← HD.out]
              go_wp2_with fail
              go_roundw
              case rel => exact ⟨k, m + 1, _, (k : Int) - 1, climb wd (ofS wd 0 [s]) (ways.drop k) (ds.drop k), v6, by go_num, rfl, by omega, rfl, rfl, rfl, by rw [HC.out]; simp; omega, own_below hown6 hb7, by rw [HC.out, ← List.cons_append]; exact himg7.below hb7, Rd.below hw6 (hb7.mono (by simp at hz6; omega)), hblk6.below hb7 hblk6.lt, hbel6.trans (hb7.mono hbel6.size), by have := hb7.size; simp at hz6; omega⟩
              case measure => first | (simp [intOf]; done) | (simp [intOf]; omega)
          · have hj1 : j = 0 := by omega
            subst hj1
            have hq2 : q = -1 := by omega
            clear hq
            subst hq2
            have hneg : ¬ (0 : Int) ≤ -1 := by decide
            have HI : Hid (imgsS wd s n ways ds = ((0, [s]) :: clims wd (ofS wd 0 [s]) ways ds) ++ [(2, [be n 5, be (climb wd (ofS wd 0 [s]) ways ds) 8])]) := rfl
            have hmd : m = ds.length + 1 := by
              have h2 := clims_full wd (ofS wd 0 [s]) ways ds hlen
              simp only [List.drop_zero, List.length_cons] at hm
              omega
            simp only [List.drop_zero] at himg hdg
            rw [← hdg] at HI
            have HMD := Lib.hid hmd
            have hmc1 : m ≤ ds.length + 1 := by omega
            clear hmd hlen hways' hwy hdg hm
            go_wp2_with fail
            refine (rfive_any n _).mono ?_
            rintro e w3 ⟨rfl, hb3⟩
            go_wp2_with fail
            refine (hr8 _).mono ?_
            rintro e w4 ⟨rfl, hb4⟩
            have hb34 := hb3.trans (hb4.mono hb3.size)
            have hz34 := hb34.size
            have hst : Strs (w4.alloc (.cells #[.string (bs (be n 5)), .string (bs (be D 8))] 9)) (w4.alloc (.cells #[.string (bs (be n 5)), .string (bs (be D 8))] 9)).heap.size (some ⟨w4.heap.size, 0, none⟩) [be n 5, be D 8] := by
              have h9 := Strs.laid (w := w4) (t := 9) [be n 5, be D 8]
              exact Rd.more h9 (by simp)
            have hb5 : Below wr.heap.size wr (w4.alloc (.cells #[.string (bs (be n 5)), .string (bs (be D 8))] 9)) := hb34.alloc (by omega) _
            have hown5 := own_below hown hb5
            have himg5 := himg.below hb5
            have hbel5 := hbel.trans (hb5.mono hbel.size)
            have himg6 := (himg5.below ((Below.refl _ _).alloc (Nat.le_refl _) (.cells #[.int .i64 2, .slice (some ⟨w4.heap.size, 0, none⟩) 2 2] 45))).snoc (im := (2, [be n 5, be D 8])) (t := .int .i64 2) (v := .slice (some ⟨w4.heap.size, 0, none⟩) 2 2) rfl (IsImg.entry (B := wr.heap.size) (ps := [be n 5, be D 8]) (Rd.more (Rd.alloc hst (Nat.le_refl _) _) (by simp)) (from_some (by omega)) (by omega) (fun g hg => by have := (hown.lt g hg).2; omega))
            have hlaid : Rd ((w4.alloc (.cells #[.string (bs (be n 5)), .string (bs (be D 8))] 9)).alloc (.cells #[.int .i64 2, .slice (some ⟨w4.heap.size, 0, none⟩) 2 2] 45)) (w4.heap.size + 1 + 1) 2 (some ⟨w4.heap.size + 1, 0, none⟩) 1 [.int .i64 2, .slice (some ⟨w4.heap.size, 0, none⟩) 2 2] := by
              have := Rd.laid (w4.alloc (.cells #[.string (bs (be n 5)), .string (bs (be D 8))] 9)) #[.int .i64 2, .slice (some ⟨w4.heap.size, 0, none⟩) 2 2] 45 2 1 rfl
              simpa using this
            go_wp2_with (first
              | (at_builtin; refine wpList_append_any _ rfl (.tmp 112) (.tmp 117) 159 rfl B2 45 i0 _ 2 32 Try.underlying159 hi0 hz0 hz1 hz2 rfl (by omega) v m _ (by rfl) (hown5.alloc _) (w4.heap.size + 1 + 1) _ 1 1 [.int .i64 2, .slice (some ⟨w4.heap.size, 0, none⟩) 2 2] (by rfl) hlaid (fun u hu => by simp at hu; rcases hu with rfl | rfl <;> rfl) (by simp [maxLen]; omega) (by omega) (by simp; omega) ?_
                 intro v6 w6 hown6 hg6 hat6
                 have himg7 := himg6.step hg6 hat6
                 have hbel6 : Below w.heap.size w w6 := (hbel5.alloc hbel5.size (.cells #[.int .i64 2, .slice (some ⟨w4.heap.size, 0, none⟩) 2 2] 45)).grown hg6 (by have := hbel5.size; simp; omega) (fun k hk => by have := own_ge hown k hk; omega)))
            go_wp2_with fail
            exact bodyPost_ret (v := .tuple #[v6, .bool true]) (by simp [results, Try.results88, go_sem]) rfl (by unfold UpAns; rw [if_pos HLE.out]; exact ⟨v6, _, rfl, by rw [HMD.out] at hown6; exact own_mono hown6 (by omega), by rw [HI.out]; exact himg7.weak (by omega), hbel6⟩)
      · have hlni : ¬ (ways.length : Int) = (ds.length : Int) := by omega
        as_aux_lemma =>
        go_wp2_with fail
        exact bodyPost_ret (v := .tuple #[.slice none 0 0, .bool false]) (by simp [results, Try.results88, go_sem]) rfl (by unfold UpAns; rw [if_neg hlen]; exact ⟨rfl, hb⟩)
end Go.Proofs.Ytjmkcndjjfokiaa
