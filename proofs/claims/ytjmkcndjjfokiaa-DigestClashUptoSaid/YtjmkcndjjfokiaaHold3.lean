/- What digest.images makes: the images on the way up. -/
import Derived.Test.YtjmkcndjjfokiaaProg
import Derived.Test.YtjmkcndjjfokiaaHold2
import Derived.Test.YtjmkcndjjfokiaaDig6
import Derived.Deep.RegionLaw
namespace Go.Proofs.Ytjmkcndjjfokiaa
open Go.RowKit
theorem be2_short (a b : Int) : Short [be a 8, be b 8] := by
  intro p hp
  simp at hp
  rcases hp with rfl | rfl <;> exact be8_short _
set_option maxRecDepth 100000 in
theorem images_no (wd : Int) (s : List UInt8) (n a : Int) (len c : Nat) (A : Option Addr) (w : World) (h : a < 0 ∨ n ≤ a ∨ 1099511627775 < n) :
    Calls Try.prog 87 #[.int .i64 wd, .string (bs s), .agg #[.int .i64 n, .int .i64 a, .slice A len c]] w fun e w' => e = .returned (.tuple #[.slice none 0 0, .bool false]) ∧ Below w.heap.size w w' := by
  go_enter Try.func87, Try.ntmps87
  go_wp2_with fail
  refine (rights_no n a _ h).mono ?_
  rintro e w1 ⟨rfl, rfl⟩
  go_wp2_with fail
  exact bodyPost_ret (v := .tuple #[.slice none 0 0, .bool false]) (by simp [results, Try.results87, go_sem]) rfl ⟨rfl, (Below.refl _ _).alloc (Nat.le_refl _) _⟩
set_option maxRecDepth 100000 in
theorem images_odd (wd : Int) (s : List UInt8) (n a : Nat) (len c : Nat) (A : Option Addr) (w : World) (ha : a < n) (hn : n ≤ 1099511627775) (hlen : (riteF n n a).length ≠ len) (hl : len ≤ maxLen) :
    Calls Try.prog 87 #[.int .i64 wd, .string (bs s), .agg #[.int .i64 (n : Int), .int .i64 (a : Int), .slice A len c]] w fun e w' => e = .returned (.tuple #[.slice none 0 0, .bool false]) ∧ Below w.heap.size w w' := by
  have hr := fun W => rights_any n a W ha hn
  generalize riteF n n a = ways at *
  go_enter Try.func87, Try.ntmps87
  go_wp2_with fail
  refine (hr _).mono ?_
  rintro e w1 ⟨v, rfl, hown, hb1⟩
  obtain ⟨A1, c1, rfl⟩ := own_shape hown
  have hblk := blk_laid hb1 (by simp)
  have k2 := (hblk.cell 2).trans (show _ = some (Value.slice A len c) from rfl)
  have hne : ¬ ((ways.length : Int) = (len : Int)) := by omega
  go_wp2_with fail
  exact bodyPost_ret (v := .tuple #[.slice none 0 0, .bool false]) (by simp [results, Try.results87, go_sem]) rfl ⟨rfl, ((Below.refl _ _).alloc (Nat.le_refl _) _).trans (hb1.mono (by simp))⟩
set_option maxRecDepth 100000 in
set_option maxHeartbeats 4000000 in
theorem images_any (wd : Int) (s : List UInt8) (hs : s.length ≤ maxLen) (n a : Nat) (ds : List Int) (A : Option Addr) (c B : Nat) (w : World) (hr : Rd w B 1 A ds.length (digs ds)) (hB : B ≤ w.heap.size) (ha : a < n) (hn : n ≤ 1099511627775) (ways : List Bool) (hwy : riteF n n a = ways) (hlen : ways.length = ds.length) (hwl : ways.length ≤ 1099511627775) (hd : ∀ d ∈ ds, 0 ≤ d ∧ d < 18446744073709551616) :
    Calls Try.prog 87 #[.int .i64 wd, .string (bs s), .agg #[.int .i64 (n : Int), .int .i64 (a : Int), .slice A ds.length c]] w fun e w' => ∃ v xs, e = .returned (.tuple #[v, .bool true]) ∧ w'.ownsRow w.heap.size 45 2 v (ds.length + 2) xs ∧ Imgs w.heap.size w' v.ownBlock xs (imgsS wd s n ways ds) ∧ Below w.heap.size w w' := by
  have hrt := fun W => rights_any n a W ha hn
  rw [hwy] at hrt
  have hcl := clims_len wd (ofS wd 0 [s]) ways ds
  obtain ⟨i0, hi0, hz0, hz1, hz2⟩ := info_parts imgInfo
  go_enter Try.func87, Try.ntmps87
  go_wp2_with fail
  refine (hrt _).mono ?_
  rintro e w2 ⟨v2, rfl, hown2, hb2⟩
  obtain ⟨A1, c1, rfl⟩ := own_shape hown2
  have hblk2 := blk_laid hb2 (by simp)
  have hw2 := Rd.of_own hown2
  have hbel2 : Below w.heap.size w w2 := ((Below.refl _ _).alloc (Nat.le_refl _) _).trans (hb2.mono (by simp))
  have k2 := (hblk2.cell 2).trans (show _ = some (Value.slice A ds.length c) from rfl)
  have hsz2 := hb2.size
  simp at hsz2
  clear hown2 hb2 hrt
  have hc1 : ways.length ≤ c1 ∨ True := .inr trivial
  rw [hlen] at hw2 hwl ⊢
  go_wp2_with fail
  refine (dleaf_any s _).mono ?_
  rintro e w3 ⟨x, rfl, ⟨A2, c2, rfl, hs3, hf3⟩, hb3⟩
  have hsz3 := hb3.size
  have hblk3 := hblk2.below hb3 hblk2.lt
  have hw3 := Rd.below hw2 hb3
  have hbel3 := hbel2.trans (hb3.mono hbel2.size)
  generalize hB2 : w2.heap.size = B2 at *
  have HB2 := Lib.hid hB2
  clear hB2
  have hown3 : (w3.alloc (.cells #[.int .i64 0, .slice A2 1 c2] 45)).ownsRow B2 45 2 (.slice (some ⟨w3.heap.size, 0, none⟩) 1 1) 1 [.int .i64 0, .slice A2 1 c2] :=
    ⟨rfl, .inr ⟨w3.heap.size, 1, #[.int .i64 0, .slice A2 1 c2], rfl, hsz3, heap_alloc_new w3 _, Nat.le_refl _, by simp [maxLen], rfl, rfl⟩⟩
  have himg3 : Imgs B2 (w3.alloc (.cells #[.int .i64 0, .slice A2 1 c2] 45)) (some w3.heap.size) [.int .i64 0, .slice A2 1 c2] [(0, [s])] := by
    refine ⟨rfl, ⟨A2, c2, rfl, Rd.more (Rd.alloc hs3 (Nat.le_refl _) _) (by simp), hf3, fun _ b off e hbe => ?_⟩, trivial⟩
    obtain ⟨b', off', e', hb', _⟩ := hs3.2 (by simp)
    rw [e] at e'
    simp only [Option.some.injEq, Addr.mk.injEq, and_true] at e' hbe
    omega
  have hshs : Short [s] := fun p hp => by simp at hp; subst hp; exact hs
  go_wp2_with fail
  go_loopw [10, 11, 12] (fun v i _ wr => ∃ (j m : Nat) (xs : List Value) (pre : List ImgP) (tag : Int) (ps : List (List UInt8)) (q : Int), i = .int .i64 q ∧ q = (j : Int) - 1 ∧ j ≤ ds.length ∧ m = pre.length + 1 ∧ pre ++ [(tag, ps)] = (0, [s]) :: clims wd (ofS wd 0 [s]) (ways.drop j) (ds.drop j) ∧ ofS wd tag ps = climb wd (ofS wd 0 [s]) (ways.drop j) (ds.drop j) ∧ ps.length ≤ maxLen ∧ Short ps ∧ wr.ownsRow B2 45 2 v m xs ∧ Imgs B2 wr v.ownBlock xs (pre ++ [(tag, ps)]) ∧ Rd wr B2 1 A1 ds.length (boos ways) ∧ Blk wr w.heap.size 37 #[.int .i64 (n : Int), .int .i64 (a : Int), .slice A ds.length c] ∧ Below w.heap.size w wr ∧ B2 ≤ wr.heap.size) (fun _ i _ _ => (intOf i + 1).toNat)
  case atStart =>
    refine ⟨ds.length, 1, _, [], 0, [s], (ds.length : Int) - 1, by go_num, rfl, Nat.le_refl _, rfl, ?_, ?_, by simp [maxLen], hshs, hown3, himg3, Rd.alloc hw3 (by omega) _, hblk3.alloc _, hbel3.alloc hbel3.size _, by simp; omega⟩
    · rw [← hlen, List.drop_length]; simp [clims]
    · rw [← hlen, List.drop_length]; simp [climb]
  case round =>
    obtain ⟨j, m, xs, pre, tag, ps, q, rfl, hq, hj, hm, hpre, hdg, hpl, hpsh, hown, himg, hways, hblk, hbel, hB2⟩ := hrel
    have hpre := Lib.hid hpre
    have k2 := (hblk.cell 2).trans (show _ = some (Value.slice A ds.length c) from rfl)
    have k0 := (hblk.cell 0).trans (show _ = some (Value.int .i64 (n : Int)) from rfl)
    have hml : m ≤ ds.length + 1 := by
      have h1 := congrArg List.length hpre.out
      have h2 := clims_len wd (ofS wd 0 [s]) (ways.drop j) (ds.drop j)
      simp at h1 h2
      omega
    obtain ⟨b, off, cap, A3, c3, rfl, hmc, hcm, g0, g1, hs0⟩ := Imgs.last hown hm himg
    have hcm2 := hcm
    unfold maxLen at hcm2
    have hw1 : IntKind.i64.wrap ((m : Int) - 1) = ((m - 1 : Nat) : Int) := by rw [IntWalk.i64_in _ (by omega)]; omega
    have hm1 : ((m - 1 : Nat) : Int) < (m : Int) := by omega
    have hcb := climb_bd wd (ofS wd 0 [s]) (by have := ofS_bd wd 0 [s]; omega) (ways.drop j) (ds.drop j)
    have hof := fun W g1 => ofImage_any wd tag ps A3 c3 wr.heap.size W g1
    rw [hdg] at hof
    have HDG := Lib.hid hdg
    have hma : m ≤ pre.length + 1 := by omega
    have hmb : pre.length + 1 ≤ m := by omega
    have HMM := Lib.hid hm
    have HLE := Lib.hid hlen
    have hl1 : ways.length ≤ ds.length := by omega
    have hl2 : ds.length ≤ ways.length := by omega
    have hways' : Rd wr B2 1 A1 ways.length (boos ways) := by rw [hlen]; exact hways
    clear hdg hm hcl
    by_cases hj0 : 0 < j
    · obtain ⟨k, rfl⟩ : ∃ k, j = k + 1 := ⟨j - 1, by omega⟩
      have hq2 : q = (k : Int) := by omega
      clear hq
      subst hq2
      have hge : (0 : Int) ≤ (k : Int) := by omega
      have hk1 : k < ways.length := by omega
      have hk2 : k < ds.length := by omega
      have HC := Lib.hid (clims_step wd (ofS wd 0 [s]) ways ds k hk1 hk2)
      have HD := Lib.hid (climb_step wd (ofS wd 0 [s]) ways ds k hk1 hk2)
      generalize climb wd (ofS wd 0 [s]) (ways.drop (k + 1)) (ds.drop (k + 1)) = D at *
      obtain ⟨bw, ow, rfl, hbw, kw⟩ := boos_at hways' hk1
      obtain ⟨bd, od, rfl, hbd, kd⟩ := digs_at (Rd.below hr (hbel.mono hB)) hk2
      have hdk := hd ds[k] (List.getElem_mem hk2)
      generalize ds[k] = dk at *
      have hki : (k : Int) < (ds.length : Int) := by omega
      clear hlen hways' hwy
      go_wp2_with fail
      refine (hof _ hs0 (Nat.le_refl _) hpl hpsh).mono ?_
      rintro e w3 ⟨rfl, hb3⟩
      have kw3 : w3.cell? ⟨bw, ow + k, none⟩ = some (.bool ways[k]) := (hb3.cell (p := ⟨bw, ow + k, none⟩) (by simp; omega)).trans kw
      have kd3 : w3.cell? ⟨bd, od + k, none⟩ = some (.int .u64 dk) := (hb3.cell (p := ⟨bd, od + k, none⟩) (by have := hbel.size; simp; omega)).trans kd
      have k23 := ((hblk.below hb3 hblk.lt).cell 2).trans (show _ = some (Value.slice (some ⟨bd, od, none⟩) ds.length c) from rfl)
      generalize hwk : ways[k] = wk at *
      cases wk
      · simp only [pairS, Bool.false_eq_true, if_false] at HC HD
        go_wp2_with fail
        refine (dnode_any D dk w3 hcb.1 hcb.2 hdk.1 hdk.2).mono ?_
        rintro e w4 ⟨x, rfl, ⟨A4, c4, rfl, hs4, hf4⟩, hb4⟩
        have hb34 := hb3.trans (hb4.mono hb3.size)
        have hz3 := hb3.size
        have hz4 := hb4.size
        have hown4 := own_below hown hb34
        have hown4a := hown4.alloc (.cells #[.int .i64 1, .slice A4 2 c4] 45)
        have hb34a : Below wr.heap.size wr (w4.alloc (.cells #[.int .i64 1, .slice A4 2 c4] 45)) := hb34.alloc (by omega) _
        have himg4 := (himg.below hb34a).snoc (im := (1, [be D 8, be dk 8])) (t := .int .i64 1) (v := .slice A4 2 c4) rfl (IsImg.entry (B := w3.heap.size) (ps := [be D 8, be dk 8]) (Rd.more (Rd.alloc hs4 (Nat.le_refl _) _) (by simp)) hf4 (by omega) (fun g hg => by have := (hown.lt g hg).2; omega))
        have hblk4 := hblk.below hb34a hblk.lt
        have hw4 := Rd.below hways (hb34a.mono hB2)
        have hbel4 := hbel.trans (hb34a.mono hbel.size)
        go_wp2_with (first
          | (at_builtin; refine wpList_append_any _ rfl (.tmp 63) (.tmp 71) 159 rfl B2 45 i0 _ 2 32 Try.underlying159 hi0 hz0 hz1 hz2 rfl (by omega) (.slice (some ⟨b, off, none⟩) m cap) m _ (by rfl) hown4a (w4.heap.size + 1) _ 1 1 [.int .i64 1, .slice A4 2 c4] (by rfl) (Rd.laid w4 #[.int .i64 1, .slice A4 2 c4] 45 2 1 rfl) (fun u hu => by simp at hu; rcases hu with rfl | rfl <;> rfl) (by simp [maxLen]; omega) (by omega) (by simp; omega) ?_
             intro v5 w5 hown5 hg5 hat5
             have himg5 := himg4.step hg5 hat5
             have hblk5 := hblk4.grown hg5 (fun e => by have := own_ge hown _ e.symm; omega)
             have hw5 := Rd.grown hw4 hg5 (by simp; omega) (own_ge hown)
             have hbel5 : Below w.heap.size w w5 := hbel4.grown hg5 (by simp; omega) (fun k hk => by have := own_ge hown k hk; omega)
             have hsz5 := hg5.size))
        go_roundw
        case rel =>
          refine ⟨k, m + 1, _, pre ++ [(tag, ps)], 1, [be D 8, be dk 8], (k : Int) - 1, by go_num, rfl, by omega, by simp; omega, ?_, ?_, by simp [maxLen], be2_short _ _, hown5, himg5, hw5, hblk5, hbel5, by simp at hsz5; omega⟩
          · rw [hpre.out, List.cons_append, HC.out]
          · rw [HD.out]
        case measure => first | (simp [intOf]; done) | (simp [intOf]; omega)
      · simp only [pairS, if_true] at HC HD
        go_wp2_with fail
        refine (dnode_any dk D w3 hdk.1 hdk.2 hcb.1 hcb.2).mono ?_
        rintro e w4 ⟨x, rfl, ⟨A4, c4, rfl, hs4, hf4⟩, hb4⟩
        have hb34 := hb3.trans (hb4.mono hb3.size)
        have hz3 := hb3.size
        have hz4 := hb4.size
        have hown4 := own_below hown hb34
        have hown4a := hown4.alloc (.cells #[.int .i64 1, .slice A4 2 c4] 45)
        have hb34a : Below wr.heap.size wr (w4.alloc (.cells #[.int .i64 1, .slice A4 2 c4] 45)) := hb34.alloc (by omega) _
        have himg4 := (himg.below hb34a).snoc (im := (1, [be dk 8, be D 8])) (t := .int .i64 1) (v := .slice A4 2 c4) rfl (IsImg.entry (B := w3.heap.size) (ps := [be dk 8, be D 8]) (Rd.more (Rd.alloc hs4 (Nat.le_refl _) _) (by simp)) hf4 (by omega) (fun g hg => by have := (hown.lt g hg).2; omega))
        have hblk4 := hblk.below hb34a hblk.lt
        have hw4 := Rd.below hways (hb34a.mono hB2)
        have hbel4 := hbel.trans (hb34a.mono hbel.size)
        go_wp2_with (first
          | (at_builtin; refine wpList_append_any _ rfl (.tmp 53) (.tmp 61) 159 rfl B2 45 i0 _ 2 32 Try.underlying159 hi0 hz0 hz1 hz2 rfl (by omega) (.slice (some ⟨b, off, none⟩) m cap) m _ (by rfl) hown4a (w4.heap.size + 1) _ 1 1 [.int .i64 1, .slice A4 2 c4] (by rfl) (Rd.laid w4 #[.int .i64 1, .slice A4 2 c4] 45 2 1 rfl) (fun u hu => by simp at hu; rcases hu with rfl | rfl <;> rfl) (by simp [maxLen]; omega) (by omega) (by simp; omega) ?_
             intro v5 w5 hown5 hg5 hat5
             have himg5 := himg4.step hg5 hat5
             have hblk5 := hblk4.grown hg5 (fun e => by have := own_ge hown _ e.symm; omega)
             have hw5 := Rd.grown hw4 hg5 (by simp; omega) (own_ge hown)
             have hbel5 : Below w.heap.size w w5 := hbel4.grown hg5 (by simp; omega) (fun k hk => by have := own_ge hown k hk; omega)
             have hsz5 := hg5.size))
        go_roundw
        case rel =>
          refine ⟨k, m + 1, _, pre ++ [(tag, ps)], 1, [be dk 8, be D 8], (k : Int) - 1, by go_num, rfl, by omega, by simp; omega, ?_, ?_, by simp [maxLen], be2_short _ _, hown5, himg5, hw5, hblk5, hbel5, by simp at hsz5; omega⟩
          · rw [hpre.out, List.cons_append, HC.out]
          · rw [HD.out]
        case measure => first | (simp [intOf]; done) | (simp [intOf]; omega)
    · have hj1 : j = 0 := by omega
      subst hj1
      have hq2 : q = -1 := by omega
      clear hq
      subst hq2
      have hneg : ¬ (0 : Int) ≤ -1 := by decide
      have HI : Hid (imgsS wd s n ways ds = (pre ++ [(tag, ps)]) ++ [(2, [be n 5, be (climb wd (ofS wd 0 [s]) ways ds) 8])]) := by
        show _ = _
        rw [hpre.out]
        rfl
      simp only [List.drop_zero] at hof hcb
      have hmd : m = ds.length + 1 := by
        have h1 := congrArg List.length hpre.out
        simp only [List.length_append, List.length_cons, List.length_nil, List.drop_zero] at h1
        have h2 := clims_full wd (ofS wd 0 [s]) ways ds hlen
        omega
      have HMD := Lib.hid hmd
      have hmc1 : m ≤ ds.length + 1 := by omega
      clear hmd hlen hways' hwy
      generalize climb wd (ofS wd 0 [s]) ways ds = D at *
      go_wp2_with fail
      have hownD : wr.drew.ownsRow B2 45 2 (.slice (some ⟨b, off, none⟩) m cap) m xs := hown
      have himgD : Imgs B2 wr.drew (some b) xs (pre ++ [(tag, ps)]) := Imgs.step (w := wr) (w' := wr.drew) (row := some b) (row' := some b) ⟨rfl, rfl, rfl, Nat.le_refl _, fun _ _ _ => rfl⟩ (.inl rfl) himg
      have hbelD := hbel.drew
      have hblkD := hblk.drew
      have k0D : wr.drew.cell? ⟨w.heap.size, 0, none⟩ = some (Value.int .i64 (n : Int)) := k0
      have g0D : wr.drew.cell? ⟨b, off + (m - 1) * 2, none⟩ = some (.int .i64 tag) := g0
      have g1D : wr.drew.cell? ⟨b, off + (m - 1) * 2 + 1, none⟩ = some (.slice A3 ps.length c3) := g1
      have hs0D : Strs wr.drew wr.heap.size A3 ps := hs0
      go_region_law (first
        | (go_simp
           go_at_call 30
           refine (hof _ hs0D (Nat.le_refl _) hpl hpsh).mono ?_
           rintro e w3 ⟨rfl, hb3⟩
           dsimp only
           have hz3 := hb3.size
           have hown3 := own_below hownD hb3
           have himg3 := himgD.below hb3
           have hbel3 := hbelD.trans (hb3.mono hbelD.size)
           have k03 := ((hblkD.below hb3 hblkD.lt).cell 0).trans (show _ = some (Value.int .i64 (n : Int)) from rfl))
        | (go_simp
           go_at_call 84
           refine (dlist_any n D _ hcb.1 hcb.2).mono ?_
           rintro e w4 ⟨x, rfl, ⟨A4, c4, rfl, hs4, hf4⟩, hb4⟩
           dsimp only
           have hz4 := hb4.size
           have hown4 := own_below hown3 hb4
           have himg4 := (himg3.below hb4)
           have hbel4 := hbel3.trans (hb4.mono hbel3.size)
           have himg4a := (himg4.below ((Below.refl _ _).alloc (Nat.le_refl _) (.cells #[.int .i64 2, .slice A4 2 c4] 45))).snoc (im := (2, [be n 5, be D 8])) (t := .int .i64 2) (v := .slice A4 2 c4) rfl (IsImg.entry (B := w3.heap.size) (ps := [be n 5, be D 8]) (Rd.more (Rd.alloc hs4 (Nat.le_refl _) _) (by simp)) hf4 (by have : B2 ≤ wr.drew.heap.size := hB2; omega) (fun g hg => by have := (hown3.lt g hg).2; omega)))
        | (refine step_append_any _ (by rfl) (.tmp 73) (.tmp 85) 159 (by rfl) B2 45 i0 _ 2 32 Try.underlying159 hi0 hz0 hz1 hz2 rfl (by omega) (.slice (some ⟨b, off, none⟩) m cap) m _ (by rfl) (by first | exact hown4.alloc _ | exact own_drewN (hown4.alloc _) 1) (w4.heap.size + 1) _ 1 1 [.int .i64 2, .slice A4 2 c4] (by rfl) (by first | exact Rd.laid w4 #[.int .i64 2, .slice A4 2 c4] 45 2 1 rfl | exact Rd.drewN (Rd.laid w4 #[.int .i64 2, .slice A4 2 c4] 45 2 1 rfl) 1) (fun u hu => by simp at hu; rcases hu with rfl | rfl <;> rfl) (by simp [maxLen]; omega) (by omega) (by have : B2 ≤ wr.drew.heap.size := hB2; simp; omega) ?_
           intro v5 w5 hown5 hg5 hat5
           have himg5 := himg4a.step hg5 hat5
           have hbel5 : Below w.heap.size w w5 := (hbel4.alloc hbel4.size _).grown hg5 (by have := hbel4.size; simp; omega) (fun k hk => by have := own_ge hown4 k hk; omega)))
      all_goals
        go_wp2_with fail
        exact bodyPost_ret (v := .tuple #[v5, .bool true]) (by simp [results, Try.results87, go_sem]) rfl ⟨v5, _, rfl, by rw [HMD.out] at hown5; exact own_mono hown5 (by omega), by rw [HI.out]; exact himg5.weak (by omega), hbel5⟩
end Go.Proofs.Ytjmkcndjjfokiaa
