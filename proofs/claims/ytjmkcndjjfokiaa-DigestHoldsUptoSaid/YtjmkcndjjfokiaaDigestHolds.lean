/- DigestHolds: a path that PathOf tells holds; one that was turned, or another leaf, or another root, as the answer says. The arguments are of bulk at most 1048576. -/
import Derived.Test.YtjmkcndjjfokiaaProg
import Derived.Test.YtjmkcndjjfokiaaFrameB
import Derived.Test.YtjmkcndjjfokiaaOpenW
import Derived.Test.YtjmkcndjjfokiaaNodT
import Derived.Test.YtjmkcndjjfokiaaHold6
import Derived.Test.YtjmkcndjjfokiaaRows
namespace Go.Proofs.Ytjmkcndjjfokiaa
open Go.RowKit
section
open Go.ChangeShapes Go.WideShapes Go.ChangeAt Go.Deep
variable {H : Type} {enc : TypeId × Value → H} {W : World}
def strM (s : List UInt8) : Nat := s.length + 1
set_option maxRecDepth 100000 in
theorem openB_strs {v : Value} {d : DataW H} {p : List MemPlace} (hv : Value.okWide Try.prog W .any 0 23 v) (h : DataW.Trod enc Try.prog W 0 (fun _ => true) true 23 v d p) :
    ∃ A c l, v = .slice A l.length c ∧ (l.length ≤ c ∧ c ≤ maxLen ∧ Strs W W.heap.size A l ∧ Short l) ∧ l.length ≤ Rows.uptoBulk d := by
  obtain ⟨fuel, hf⟩ := h
  obtain ⟨a, len, cap, rfl⟩ := okWide_slice Try.underlying23 hv
  obtain ⟨l, hl, hm⟩ := slOf_of_trodB strM (size := 1) (R := IsStr) Try.underlying23 (by kernel_rfl) (by omega) str_trodB _ _ _ hf
  obtain ⟨A, c, e, h1, h2, h3, h4⟩ := hl.flat (fun s => [.string (bs s)]) (fun _ _ hx => hx.1)
  simp [Value.cells] at e
  obtain ⟨rfl, rfl, rfl⟩ := e
  have hm : sumL strM l + 1 ≤ Rows.uptoBulk d := hm
  have hlm := sumL_len strM (fun s => by unfold strM; omega) l
  refine ⟨_, _, l, rfl, ⟨h1, h2, ?_, fun s hs => ?_⟩, by omega⟩
  · rw [flatMap_one] at h3
    exact h3
  · obtain ⟨cs, hc⟩ := h4 s hs
    exact hc.2
set_option maxRecDepth 100000 in
theorem openB_str {v : Value} {d : DataW H} {p : List MemPlace} (hv : Value.okWide Try.prog W .any 0 9 v) (h : DataW.Trod enc Try.prog W 0 (fun _ => true) true 9 v d p) :
    ∃ s, v = .string (bs s) ∧ s.length ≤ maxLen ∧ s.length ≤ Rows.uptoBulk d := by
  obtain ⟨fuel, hf⟩ := h
  obtain ⟨s, rfl⟩ := okWide_string Try.underlying9 hv
  obtain ⟨s', hs, hm⟩ := str_trodB _ _ _ hf
  obtain ⟨e, hl⟩ := hs
  have hm : s'.length + 1 ≤ Rows.uptoBulk d := hm
  simp [Value.cells] at e
  subst e
  exact ⟨s', rfl, hl, by omega⟩
end
set_option maxRecDepth 100000 in
set_option maxHeartbeats 1000000 in
theorem digestHolds_walk (wd : Int) (l : List (List UInt8)) (A : Option Addr) (c : Nat) (at' how d : Int) (s : List UInt8) (root : Int) (w : World) (h : Strs w w.heap.size A l) (hc : l.length ≤ c) (hcm : c ≤ maxLen) (hsh : Short l) (hsl : s.length ≤ maxLen) (hhow : -9223372036854775808 ≤ how) (hdd : -9223372036854775808 ≤ d) (hlb : l.length ≤ 1048576) (hsb : s.length ≤ 1048576) :
    Calls Try.prog 4 #[.int .i64 wd, .slice A l.length c, .int .i64 at', .int .i64 how, .int .i64 d, .string (bs s), .int .i64 root] w fun e w' => e = .returned (.bool true) ∧ Below w.heap.size w w' := by
  have hsum := sum_any l A c w.heap.size w h (by omega) hsh
  generalize hsw : sumW l (l.length : Int) = sw at *
  obtain ⟨Z, hZ⟩ : ∃ Z, IntKind.i64.wrap (sw + (s.length : Int)) = Z := ⟨_, rfl⟩
  have hZ' : wrap64 (sw + (s.length : Int)) = Z := by rw [← hZ, IntWalk.i64_left]
  by_cases hbig : 65536 < Z
  · go_enter Try.func4, Try.ntmps4
    go_wp2_with fail
    refine hsum.mono ?_
    rintro e w0 ⟨rfl, rfl⟩
    go_wp2_with fail
    go_ret
    exact ⟨rfl, Below.refl _ _⟩
  have hl : l.length ≤ 65536 := by
    by_cases hn : (l.length : Int) ≤ 65536
    · omega
    · rw [sumW_big l _ hn] at hsw
      rw [← hsw, IntWalk.i64_in _ (by omega)] at hZ
      omega
  have hroot := root_any wd l A c w.heap.size w h (Nat.le_refl _) hl hsh hc hcm
  have hRu := u64_wrap root
  obtain ⟨RU, hRU⟩ : ∃ Z, IntKind.u64.wrap root = Z := ⟨_, rfl⟩
  have hpk := fun W => pick_any d 3 W hdd (by omega)
  have hpk0 := pickS_lo d 3 (by omega)
  generalize pickS d 3 = pk at *
  by_cases hat : 0 ≤ at' ∧ at' < (l.length : Int)
  · obtain ⟨K, rfl⟩ := Int.eq_ofNat_of_zero_le hat.1
    have hK : K < l.length := by omega
    have hKi : (K : Int) < (l.length : Int) := hat.2
    have hK0 : (0 : Int) ≤ (K : Int) := hat.1
    clear hat
    have hhp := holds_path wd l K hK hl
    have hpa := fun W g1 g2 => path_any wd K l A c w.heap.size W g1 g2 hl hsh hc hcm hK
    have hdb := pathF_bd l.length wd l K
    have hdb1 : (pathS wd l K).length ≤ 65536 := by have := hdb.1; unfold pathS; omega
    have hdb2 : ∀ d ∈ pathS wd l K, 0 ≤ d ∧ d < 18446744073709551616 := hdb.2
    clear hdb
    have hlK := hsh l[K] (List.getElem_mem hK)
    obtain ⟨b, off, rfl, hbB, kK⟩ := Strs.at_ h hK
    generalize hds : pathS wd l K = ds at *
    clear hds
    generalize rootS wd l = R at *
    have hlKx : ∃ x, x = l[K] := ⟨_, rfl⟩
    obtain ⟨lK, hlKe⟩ := hlKx
    rw [← hlKe] at hhp hlK kK
    clear hlKe
    go_enter Try.func4, Try.ntmps4
    go_wp2_with fail
    refine hsum.mono ?_
    rintro e w0 ⟨rfl, rfl⟩
    go_wp2_with fail
    refine hroot.mono ?_
    rintro e w1 ⟨rfl, hb1⟩
    go_wp2_with fail
    refine (hpa _ (h.below hb1) hb1.size).mono ?_
    rintro e w2 ⟨v, rfl, ⟨A1, c1, rfl, hrd2, hf2⟩, hb2⟩
    have hbel2 := hb1.trans (hb2.mono hb1.size)
    have hbelW := hbel2.alloc hbel2.size (.cells #[.int .i64 (l.length : Int), .int .i64 (K : Int), .slice A1 ds.length c1] 37)
    have hP := Blk.new w2 37 #[.int .i64 (l.length : Int), .int .i64 (K : Int), .slice A1 ds.length c1]
    have hrd3 := Rd.alloc hrd2 (Nat.le_refl _) (.cells #[.int .i64 (l.length : Int), .int .i64 (K : Int), .slice A1 ds.length c1] 37)
    have hsz3 : w2.heap.size ≤ (w2.alloc (.cells #[.int .i64 (l.length : Int), .int .i64 (K : Int), .slice A1 ds.length c1] 37)).heap.size := by simp
    go_upto_region 5 with fail
    generalize hw3 : (w2.alloc (.cells #[.int .i64 (l.length : Int), .int .i64 (K : Int), .slice A1 ds.length c1] 37)) = w3 at *
    clear hw3 hsum hroot hpa hb1 hb2 hbel2
    have hho := fun W g1 g2 => holds_any wd R lK hlK (l.length : Int) (K : Int) ds A1 c1 w2.heap.size W g1 g2 hdb2 (by omega)
    rw [hhp] at hho
    have kK3 : w3.cell? ⟨b, off + K, none⟩ = some (.string (bs lK)) := (hbelW.cell (by simpa using hbB)).trans kK
    go_upto_region 8 with fail
    go_cut [18] (fun z wc => z = .bool true ∧ Blk wc w2.heap.size 37 #[.int .i64 (l.length : Int), .int .i64 (K : Int), .slice A1 ds.length c1] ∧ Rd wc wc.heap.size 1 A1 ds.length (digs ds) ∧ Below w.heap.size w wc)
    case first =>
      as_aux_lemma =>
      have hp0 := (hP.cell 0).trans (show _ = some (Value.int .i64 (l.length : Int)) from rfl)
      have hp1 := (hP.cell 1).trans (show _ = some (Value.int .i64 (K : Int)) from rfl)
      have hp2 := (hP.cell 2).trans (show _ = some (Value.slice A1 ds.length c1) from rfl)
      have hd0 : w3.drew.cell? ⟨w2.heap.size, 0, none⟩ = some (Value.int .i64 (l.length : Int)) := hp0
      have hd1 : w3.drew.cell? ⟨w2.heap.size, 1, none⟩ = some (Value.int .i64 (K : Int)) := hp1
      have hd2 : w3.drew.cell? ⟨w2.heap.size, 2, none⟩ = some (Value.slice A1 ds.length c1) := hp2
      have kKD : w3.drew.cell? ⟨b, off + K, none⟩ = some (.string (bs lK)) := kK3
      have hrdD : Rd w3.drew w2.heap.size 1 A1 ds.length (digs ds) := hrd3
      go_region_law (
         go_simp
         go_at_call 23
         refine (hho _ hrdD (by simpa using hsz3)).mono ?_
         rintro e w4 ⟨rfl, hb4⟩
         dsimp only
         have hP4 := Blk.below (Blk.drew hP) hb4 hP.lt
         have hrd4 := Rd.more (Rd.below (Rd.more hrdD hsz3) hb4) hb4.size
         have hbel4 := hbelW.drew.trans (hb4.mono hbelW.size))
      all_goals
        go_wp2_with fail
        go_meet
        exact ⟨rfl, hP4, hrd4, hbel4⟩
    case rest =>
      as_aux_lemma =>
      clear hP hrd3 hbelW hho kK3
      obtain ⟨rfl, hP, hrdW, hbelW⟩ := hcut
      have hdW := hdb2
      have hdlW : ds.length ≤ 1000000 := by omega
      have hp0 := (hP.cell 0).trans (show _ = some (Value.int .i64 (l.length : Int)) from rfl)
      have hp1 := (hP.cell 1).trans (show _ = some (Value.int .i64 (K : Int)) from rfl)
      have hp2 := (hP.cell 2).trans (show _ = some (Value.slice A1 ds.length c1) from rfl)
      go_wp2_with fail
      refine (spoil_any (l.length : Int) (K : Int) how d ds A1 c1 wc.heap.size wc hrdW (Nat.le_refl _) hdW hdlW hhow hdd).mono ?_
      rintro e w5 ⟨n5, a5, ds5, A5, c5, rfl, hrd5, hd5, hl5, hb5⟩
      have hbel5 := hbelW.trans (hb5.mono hbelW.size)
      have hbel6 := hbel5.alloc hbel5.size (.cells #[.int .i64 n5, .int .i64 a5, .slice A5 ds5.length c5] 37)
      have hQ6 := Blk.new w5 37 #[.int .i64 n5, .int .i64 a5, .slice A5 ds5.length c5]
      have hrd6 := Rd.alloc hrd5 (Nat.le_refl _) (.cells #[.int .i64 n5, .int .i64 a5, .slice A5 ds5.length c5] 37)
      have hsz6 : w5.heap.size ≤ (w5.alloc (.cells #[.int .i64 n5, .int .i64 a5, .slice A5 ds5.length c5] 37)).heap.size := by simp
      clear hP hp0 hp1 hp2 hrdW hdW hdlW hb5 hbelW
      go_upto_region 13 with fail
      generalize hw6 : (w5.alloc (.cells #[.int .i64 n5, .int .i64 a5, .slice A5 ds5.length c5] 37)) = w6 at *
      clear hw6
      have hbs := fun rt t' hl' W (g1 : Below w6.heap.size w6 W) => holds_any wd rt t' hl' n5 a5 ds5 A5 c5 w5.heap.size W (Rd.below hrd6 (g1.mono hsz6)) (Nat.le_trans hsz6 g1.size) hd5 (by omega)
      have hrs := fun rt t' hl' W (g1 : Below w6.heap.size w6 W) => rholds_any wd rt t' hl' n5 a5 ds5 A5 c5 w5.heap.size W (Rd.below hrd6 (g1.mono hsz6)) (Nat.le_trans hsz6 g1.size) hd5 (by omega)
      have hlt6 : w5.heap.size < w6.heap.size := hQ6.lt
      have kK6 : w6.cell? ⟨b, off + K, none⟩ = some (.string (bs lK)) := (hbel6.cell (by simpa using hbB)).trans kK
      by_cases hpk3 : 0 < pk
      · as_aux_lemma =>
        go_wp2_with fail
        refine (hpk _).mono ?_
        rintro e w' ⟨rfl, rfl⟩
        have hu1 := hbs R lK hlK
        have hu2 := hrs R lK hlK
        have hu3 := hbs RU lK hlK
        have hu4 := hrs RU lK hlK
        generalize holdsS wd R lK n5 a5 ds5 = x1 at *
        generalize holdsS wd RU lK n5 a5 ds5 = x2 at *
        have q0 := (hQ6.cell 0).trans (show _ = some (Value.int .i64 n5) from rfl)
        have q1 := (hQ6.cell 1).trans (show _ = some (Value.int .i64 a5) from rfl)
        have q2 := (hQ6.cell 2).trans (show _ = some (Value.slice A5 ds5.length c5) from rfl)
        go_wp2_with fail
        refine (hu1 _ (Below.refl _ _)).mono ?_
        rintro e v1 ⟨rfl, hv1⟩
        have hz1 := hv1
        have q1_0 := ((hQ6.below hz1 hQ6.lt).cell 0).trans (show _ = some (Value.int .i64 n5) from rfl)
        have q1_1 := ((hQ6.below hz1 hQ6.lt).cell 1).trans (show _ = some (Value.int .i64 a5) from rfl)
        have q1_2 := ((hQ6.below hz1 hQ6.lt).cell 2).trans (show _ = some (Value.slice A5 ds5.length c5) from rfl)
        go_wp2_with fail
        refine (hu2 _ (hz1)).mono ?_
        rintro e v2 ⟨rfl, hv2⟩
        have hz2 := hz1.trans (hv2.mono hz1.size)
        have q2_0 := ((hQ6.below hz2 hQ6.lt).cell 0).trans (show _ = some (Value.int .i64 n5) from rfl)
        have q2_1 := ((hQ6.below hz2 hQ6.lt).cell 1).trans (show _ = some (Value.int .i64 a5) from rfl)
        have q2_2 := ((hQ6.below hz2 hQ6.lt).cell 2).trans (show _ = some (Value.slice A5 ds5.length c5) from rfl)
        go_wp2_with fail
        refine (hu3 _ (hz2)).mono ?_
        rintro e v3 ⟨rfl, hv3⟩
        have hz3 := hz2.trans (hv3.mono hz2.size)
        have q3_0 := ((hQ6.below hz3 hQ6.lt).cell 0).trans (show _ = some (Value.int .i64 n5) from rfl)
        have q3_1 := ((hQ6.below hz3 hQ6.lt).cell 1).trans (show _ = some (Value.int .i64 a5) from rfl)
        have q3_2 := ((hQ6.below hz3 hQ6.lt).cell 2).trans (show _ = some (Value.slice A5 ds5.length c5) from rfl)
        go_wp2_with fail
        refine (hu4 _ (hz3)).mono ?_
        rintro e v4 ⟨rfl, hv4⟩
        have hz4 := hz3.trans (hv4.mono hz3.size)
        have e1 : (x1 == x1) = true := by simp
        have e2 : (x2 == x2) = true := by simp
        go_wp2_with fail
        go_ret
        exact ⟨rfl, hbel6.trans (hz4.mono hbel6.size)⟩
      · as_aux_lemma =>
        go_wp2_with fail
        refine (hpk _).mono ?_
        rintro e w' ⟨rfl, rfl⟩
        have hu1 := hbs R s hsl
        have hu2 := hrs R s hsl
        have hu3 := hbs RU s hsl
        have hu4 := hrs RU s hsl
        generalize holdsS wd R s n5 a5 ds5 = x1 at *
        generalize holdsS wd RU s n5 a5 ds5 = x2 at *
        have q0 := (hQ6.cell 0).trans (show _ = some (Value.int .i64 n5) from rfl)
        have q1 := (hQ6.cell 1).trans (show _ = some (Value.int .i64 a5) from rfl)
        have q2 := (hQ6.cell 2).trans (show _ = some (Value.slice A5 ds5.length c5) from rfl)
        go_wp2_with fail
        refine (hu1 _ (Below.refl _ _)).mono ?_
        rintro e v1 ⟨rfl, hv1⟩
        have hz1 := hv1
        have q1_0 := ((hQ6.below hz1 hQ6.lt).cell 0).trans (show _ = some (Value.int .i64 n5) from rfl)
        have q1_1 := ((hQ6.below hz1 hQ6.lt).cell 1).trans (show _ = some (Value.int .i64 a5) from rfl)
        have q1_2 := ((hQ6.below hz1 hQ6.lt).cell 2).trans (show _ = some (Value.slice A5 ds5.length c5) from rfl)
        go_wp2_with fail
        refine (hu2 _ (hz1)).mono ?_
        rintro e v2 ⟨rfl, hv2⟩
        have hz2 := hz1.trans (hv2.mono hz1.size)
        have q2_0 := ((hQ6.below hz2 hQ6.lt).cell 0).trans (show _ = some (Value.int .i64 n5) from rfl)
        have q2_1 := ((hQ6.below hz2 hQ6.lt).cell 1).trans (show _ = some (Value.int .i64 a5) from rfl)
        have q2_2 := ((hQ6.below hz2 hQ6.lt).cell 2).trans (show _ = some (Value.slice A5 ds5.length c5) from rfl)
        go_wp2_with fail
        refine (hu3 _ (hz2)).mono ?_
        rintro e v3 ⟨rfl, hv3⟩
        have hz3 := hz2.trans (hv3.mono hz2.size)
        have q3_0 := ((hQ6.below hz3 hQ6.lt).cell 0).trans (show _ = some (Value.int .i64 n5) from rfl)
        have q3_1 := ((hQ6.below hz3 hQ6.lt).cell 1).trans (show _ = some (Value.int .i64 a5) from rfl)
        have q3_2 := ((hQ6.below hz3 hQ6.lt).cell 2).trans (show _ = some (Value.slice A5 ds5.length c5) from rfl)
        go_wp2_with fail
        refine (hu4 _ (hz3)).mono ?_
        rintro e v4 ⟨rfl, hv4⟩
        have hz4 := hz3.trans (hv4.mono hz3.size)
        have e1 : (x1 == x1) = true := by simp
        have e2 : (x2 == x2) = true := by simp
        go_wp2_with fail
        go_ret
        exact ⟨rfl, hbel6.trans (hz4.mono hbel6.size)⟩
  · have hpa := fun W g1 g2 => dpath_all wd at' l hl hsh W A c w.heap.size g1 g2 hc hcm hat
    generalize rootS wd l = R at *
    go_enter Try.func4, Try.ntmps4
    go_wp2_with fail
    refine hsum.mono ?_
    rintro e w0 ⟨rfl, rfl⟩
    go_wp2_with fail
    refine hroot.mono ?_
    rintro e w1 ⟨rfl, hb1⟩
    go_wp2_with fail
    refine (hpa _ (h.below hb1) hb1.size).mono ?_
    rintro e w2 ⟨v, rfl, ⟨A1, c1, rfl, hrd2, hf2⟩, hb2⟩
    have hbel2 := hb1.trans (hb2.mono hb1.size)
    have hbelW := hbel2.alloc hbel2.size (.cells #[.int .i64 0, .int .i64 0, .slice A1 0 c1] 37)
    have hP := Blk.new w2 37 #[.int .i64 0, .int .i64 0, .slice A1 0 c1]
    have hrdW := Rd.more (Rd.alloc hrd2 (Nat.le_refl _) (.cells #[.int .i64 0, .int .i64 0, .slice A1 0 c1] 37)) (show _ ≤ (w2.alloc (.cells #[.int .i64 0, .int .i64 0, .slice A1 0 c1] 37)).heap.size by simp)
    have hdW : ∀ x ∈ ([] : List Int), 0 ≤ x ∧ x < 18446744073709551616 := fun x hx => by simp at hx
    have hdlW : ([] : List Int).length ≤ 1000000 := by simp
    go_upto_region 5 with fail
    generalize hw3 : (w2.alloc (.cells #[.int .i64 0, .int .i64 0, .slice A1 0 c1] 37)) = w3 at *
    clear hw3 hsum hroot hpa hb1 hb2 hbel2
    have hdat : (decide (0 ≤ at') && decide (at' < (l.length : Int))) = false := by
      by_cases h1 : 0 ≤ at'
      · have : ¬ at' < (l.length : Int) := fun h2 => hat ⟨h1, h2⟩
        simp [this]
      · simp [h1]
    by_cases hat0 : 0 ≤ at'
    · have hat1 : ¬ at' < (l.length : Int) := fun h2 => hat ⟨hat0, h2⟩
      clear hat hdat
      as_aux_lemma =>
      have hp0 := (hP.cell 0).trans (show _ = some (Value.int .i64 0) from rfl)
      have hp1 := (hP.cell 1).trans (show _ = some (Value.int .i64 0) from rfl)
      have hp2 := (hP.cell 2).trans (show _ = some (Value.slice A1 0 c1) from rfl)
      go_wp2_with fail
      refine (spoil_any 0 0 how d [] A1 c1 w3.heap.size w3 hrdW (Nat.le_refl _) hdW hdlW hhow hdd).mono ?_
      rintro e w5 ⟨n5, a5, ds5, A5, c5, rfl, hrd5, hd5, hl5, hb5⟩
      simp only [List.length_nil] at hl5
      have hbel5 := hbelW.trans (hb5.mono hbelW.size)
      have hbel6 := hbel5.alloc hbel5.size (.cells #[.int .i64 n5, .int .i64 a5, .slice A5 ds5.length c5] 37)
      have hQ6 := Blk.new w5 37 #[.int .i64 n5, .int .i64 a5, .slice A5 ds5.length c5]
      have hrd6 := Rd.alloc hrd5 (Nat.le_refl _) (.cells #[.int .i64 n5, .int .i64 a5, .slice A5 ds5.length c5] 37)
      have hsz6 : w5.heap.size ≤ (w5.alloc (.cells #[.int .i64 n5, .int .i64 a5, .slice A5 ds5.length c5] 37)).heap.size := by simp
      clear hP hp0 hp1 hp2 hrdW hdW hdlW hb5 hbelW
      go_upto_region 13 with fail
      generalize hw6 : (w5.alloc (.cells #[.int .i64 n5, .int .i64 a5, .slice A5 ds5.length c5] 37)) = w6 at *
      clear hw6
      have hbs := fun rt t' hl' W (g1 : Below w6.heap.size w6 W) => holds_any wd rt t' hl' n5 a5 ds5 A5 c5 w5.heap.size W (Rd.below hrd6 (g1.mono hsz6)) (Nat.le_trans hsz6 g1.size) hd5 (by omega)
      have hrs := fun rt t' hl' W (g1 : Below w6.heap.size w6 W) => rholds_any wd rt t' hl' n5 a5 ds5 A5 c5 w5.heap.size W (Rd.below hrd6 (g1.mono hsz6)) (Nat.le_trans hsz6 g1.size) hd5 (by omega)
      have hlt6 : w5.heap.size < w6.heap.size := hQ6.lt
      have hu1 := hbs R s hsl
      have hu2 := hrs R s hsl
      have hu3 := hbs RU s hsl
      have hu4 := hrs RU s hsl
      generalize holdsS wd R s n5 a5 ds5 = x1 at *
      generalize holdsS wd RU s n5 a5 ds5 = x2 at *
      have q0 := (hQ6.cell 0).trans (show _ = some (Value.int .i64 n5) from rfl)
      have q1 := (hQ6.cell 1).trans (show _ = some (Value.int .i64 a5) from rfl)
      have q2 := (hQ6.cell 2).trans (show _ = some (Value.slice A5 ds5.length c5) from rfl)
      go_wp2_with fail
      refine (hu1 _ (Below.refl _ _)).mono ?_
      rintro e v1 ⟨rfl, hv1⟩
      have hz1 := hv1
      have q1_0 := ((hQ6.below hz1 hQ6.lt).cell 0).trans (show _ = some (Value.int .i64 n5) from rfl)
      have q1_1 := ((hQ6.below hz1 hQ6.lt).cell 1).trans (show _ = some (Value.int .i64 a5) from rfl)
      have q1_2 := ((hQ6.below hz1 hQ6.lt).cell 2).trans (show _ = some (Value.slice A5 ds5.length c5) from rfl)
      go_wp2_with fail
      refine (hu2 _ (hz1)).mono ?_
      rintro e v2 ⟨rfl, hv2⟩
      have hz2 := hz1.trans (hv2.mono hz1.size)
      have q2_0 := ((hQ6.below hz2 hQ6.lt).cell 0).trans (show _ = some (Value.int .i64 n5) from rfl)
      have q2_1 := ((hQ6.below hz2 hQ6.lt).cell 1).trans (show _ = some (Value.int .i64 a5) from rfl)
      have q2_2 := ((hQ6.below hz2 hQ6.lt).cell 2).trans (show _ = some (Value.slice A5 ds5.length c5) from rfl)
      go_wp2_with fail
      refine (hu3 _ (hz2)).mono ?_
      rintro e v3 ⟨rfl, hv3⟩
      have hz3 := hz2.trans (hv3.mono hz2.size)
      have q3_0 := ((hQ6.below hz3 hQ6.lt).cell 0).trans (show _ = some (Value.int .i64 n5) from rfl)
      have q3_1 := ((hQ6.below hz3 hQ6.lt).cell 1).trans (show _ = some (Value.int .i64 a5) from rfl)
      have q3_2 := ((hQ6.below hz3 hQ6.lt).cell 2).trans (show _ = some (Value.slice A5 ds5.length c5) from rfl)
      go_wp2_with fail
      refine (hu4 _ (hz3)).mono ?_
      rintro e v4 ⟨rfl, hv4⟩
      have hz4 := hz3.trans (hv4.mono hz3.size)
      have e1 : (x1 == x1) = true := by simp
      have e2 : (x2 == x2) = true := by simp
      go_wp2_with fail
      go_ret
      exact ⟨rfl, hbel6.trans (hz4.mono hbel6.size)⟩
    · clear hat hdat
      as_aux_lemma =>
      have hp0 := (hP.cell 0).trans (show _ = some (Value.int .i64 0) from rfl)
      have hp1 := (hP.cell 1).trans (show _ = some (Value.int .i64 0) from rfl)
      have hp2 := (hP.cell 2).trans (show _ = some (Value.slice A1 0 c1) from rfl)
      go_wp2_with fail
      refine (spoil_any 0 0 how d [] A1 c1 w3.heap.size w3 hrdW (Nat.le_refl _) hdW hdlW hhow hdd).mono ?_
      rintro e w5 ⟨n5, a5, ds5, A5, c5, rfl, hrd5, hd5, hl5, hb5⟩
      simp only [List.length_nil] at hl5
      have hbel5 := hbelW.trans (hb5.mono hbelW.size)
      have hbel6 := hbel5.alloc hbel5.size (.cells #[.int .i64 n5, .int .i64 a5, .slice A5 ds5.length c5] 37)
      have hQ6 := Blk.new w5 37 #[.int .i64 n5, .int .i64 a5, .slice A5 ds5.length c5]
      have hrd6 := Rd.alloc hrd5 (Nat.le_refl _) (.cells #[.int .i64 n5, .int .i64 a5, .slice A5 ds5.length c5] 37)
      have hsz6 : w5.heap.size ≤ (w5.alloc (.cells #[.int .i64 n5, .int .i64 a5, .slice A5 ds5.length c5] 37)).heap.size := by simp
      clear hP hp0 hp1 hp2 hrdW hdW hdlW hb5 hbelW
      go_upto_region 13 with fail
      generalize hw6 : (w5.alloc (.cells #[.int .i64 n5, .int .i64 a5, .slice A5 ds5.length c5] 37)) = w6 at *
      clear hw6
      have hbs := fun rt t' hl' W (g1 : Below w6.heap.size w6 W) => holds_any wd rt t' hl' n5 a5 ds5 A5 c5 w5.heap.size W (Rd.below hrd6 (g1.mono hsz6)) (Nat.le_trans hsz6 g1.size) hd5 (by omega)
      have hrs := fun rt t' hl' W (g1 : Below w6.heap.size w6 W) => rholds_any wd rt t' hl' n5 a5 ds5 A5 c5 w5.heap.size W (Rd.below hrd6 (g1.mono hsz6)) (Nat.le_trans hsz6 g1.size) hd5 (by omega)
      have hlt6 : w5.heap.size < w6.heap.size := hQ6.lt
      have hu1 := hbs R s hsl
      have hu2 := hrs R s hsl
      have hu3 := hbs RU s hsl
      have hu4 := hrs RU s hsl
      generalize holdsS wd R s n5 a5 ds5 = x1 at *
      generalize holdsS wd RU s n5 a5 ds5 = x2 at *
      have q0 := (hQ6.cell 0).trans (show _ = some (Value.int .i64 n5) from rfl)
      have q1 := (hQ6.cell 1).trans (show _ = some (Value.int .i64 a5) from rfl)
      have q2 := (hQ6.cell 2).trans (show _ = some (Value.slice A5 ds5.length c5) from rfl)
      go_wp2_with fail
      refine (hu1 _ (Below.refl _ _)).mono ?_
      rintro e v1 ⟨rfl, hv1⟩
      have hz1 := hv1
      have q1_0 := ((hQ6.below hz1 hQ6.lt).cell 0).trans (show _ = some (Value.int .i64 n5) from rfl)
      have q1_1 := ((hQ6.below hz1 hQ6.lt).cell 1).trans (show _ = some (Value.int .i64 a5) from rfl)
      have q1_2 := ((hQ6.below hz1 hQ6.lt).cell 2).trans (show _ = some (Value.slice A5 ds5.length c5) from rfl)
      go_wp2_with fail
      refine (hu2 _ (hz1)).mono ?_
      rintro e v2 ⟨rfl, hv2⟩
      have hz2 := hz1.trans (hv2.mono hz1.size)
      have q2_0 := ((hQ6.below hz2 hQ6.lt).cell 0).trans (show _ = some (Value.int .i64 n5) from rfl)
      have q2_1 := ((hQ6.below hz2 hQ6.lt).cell 1).trans (show _ = some (Value.int .i64 a5) from rfl)
      have q2_2 := ((hQ6.below hz2 hQ6.lt).cell 2).trans (show _ = some (Value.slice A5 ds5.length c5) from rfl)
      go_wp2_with fail
      refine (hu3 _ (hz2)).mono ?_
      rintro e v3 ⟨rfl, hv3⟩
      have hz3 := hz2.trans (hv3.mono hz2.size)
      have q3_0 := ((hQ6.below hz3 hQ6.lt).cell 0).trans (show _ = some (Value.int .i64 n5) from rfl)
      have q3_1 := ((hQ6.below hz3 hQ6.lt).cell 1).trans (show _ = some (Value.int .i64 a5) from rfl)
      have q3_2 := ((hQ6.below hz3 hQ6.lt).cell 2).trans (show _ = some (Value.slice A5 ds5.length c5) from rfl)
      go_wp2_with fail
      refine (hu4 _ (hz3)).mono ?_
      rintro e v4 ⟨rfl, hv4⟩
      have hz4 := hz3.trans (hv4.mono hz3.size)
      have e1 : (x1 == x1) = true := by simp
      have e2 : (x2 == x2) = true := by simp
      go_wp2_with fail
      go_ret
      exact ⟨rfl, hbel6.trans (hz4.mono hbel6.size)⟩

namespace digestHolds
open Go.ChangeShapes Go.WideShapes Go.ChangeAt Go.RowKit
set_option linter.unusedVariables false
set_option maxRecDepth 100000 in
theorem walk {H : Type} (enc : TypeId × Value → H) : LawWalkB enc Try.prog Try.f4 4 := by
  intro W args ds p hA hval hlt hfz hbulk
  rw [Try.params4] at hA hval
  obtain ⟨v0, vs0, d0, ds0, p0, q0, hargs, rfl, rfl, h0, r0⟩ := trodAll_cons hA
  obtain ⟨v1, vs1, d1, ds1, p1, q1, rfl, rfl, rfl, h1, r1⟩ := trodAll_cons r0
  obtain ⟨v2, vs2, d2, ds2, p2, q2, rfl, rfl, rfl, h2, r2⟩ := trodAll_cons r1
  obtain ⟨v3, vs3, d3, ds3, p3, q3, rfl, rfl, rfl, h3, r3⟩ := trodAll_cons r2
  obtain ⟨v4, vs4, d4, ds4, p4, q4, rfl, rfl, rfl, h4, r4⟩ := trodAll_cons r3
  obtain ⟨v5, vs5, d5, ds5, p5, q5, rfl, rfl, rfl, h5, r5⟩ := trodAll_cons r4
  obtain ⟨v6, vs6, d6, ds6, p6, q6, rfl, rfl, rfl, h6, r6⟩ := trodAll_cons r5
  obtain ⟨rfl, rfl, rfl⟩ := trodAll_nil r6
  obtain rfl : args = #[v0, v1, v2, v3, v4, v5, v6] := by cases args; simp_all
  simp only [Rows.uptoBulkAll] at hbulk
  obtain ⟨a0, rfl, _, _, wa0⟩ := open_int Try.underlying3 (hval 0 _ v0 rfl rfl) h0
  obtain ⟨A1, c1, l1, rfl, ⟨lc1, cm1, hl1, hw1⟩, hm1⟩ := openB_strs (hval 1 _ v1 rfl rfl) h1
  obtain ⟨a2, rfl, _, _, wa2⟩ := open_int Try.underlying3 (hval 2 _ v2 rfl rfl) h2
  obtain ⟨a3, rfl, _, _, wa3⟩ := open_int Try.underlying3 (hval 3 _ v3 rfl rfl) h3
  obtain ⟨a4, rfl, _, _, wa4⟩ := open_int Try.underlying3 (hval 4 _ v4 rfl rfl) h4
  obtain ⟨s5, rfl, hs5, hm5⟩ := openB_str (hval 5 _ v5 rfl rfl) h5
  obtain ⟨a6, rfl, _, _, wa6⟩ := open_int Try.underlying3 (hval 6 _ v6 rfl rfl) h6
  exact digestHolds_walk a0 l1 A1 c1 a2 a3 a4 s5 a6 W hl1 lc1 cm1 hw1 hs5 (wf_i64 wa3).1 (wf_i64 wa4).1 (by omega) (by omega)
set_option maxRecDepth 100000 in
theorem lifted (os : Os) (started : os.Started) (H : Type) (enc : TypeId × Value → H) (F : Stop.Interp) :
    ReturnsInHanded {} Try.checked os 4 .any ((Rows.OpenSpec.upto Rows.digestHoldsSpec).pre6 enc Try.prog Try.f4 Rows.digestHoldsUptoRow.domain false) (((Rows.OpenSpec.upto Rows.digestHoldsSpec).at F).post enc Try.prog Try.f4 false true false false) := by
  refine returnsInHanded_of_cond (C := Try.checked) (s := Rows.OpenSpec.upto Rows.digestHoldsSpec) (k := Rows.uptoSmall) rfl (by kernel_rfl) started (by kernel_rfl) Try.func4
    (OpenSpec.witness (enc := enc) (C := Try.checked) (s := Rows.OpenSpec.upto Rows.digestHoldsSpec) (k := Rows.uptoSmall) rfl false ⟨#[], #[.int .i64 0, .slice none 0 0, .int .i64 0, .int .i64 0, .int .i64 0, .string ⟨#[]⟩, .int .i64 0], []⟩ 8 (by kernel_rfl) (by kernel_rfl) (by kernel_rfl)
      (x := ([.lit (.int .i64 0), .nil, .lit (.int .i64 0), .lit (.int .i64 0), .lit (.int .i64 0), .lit (.string []), .lit (.int .i64 0)], [], [])) (by kernel_rfl) rfl (by kernel_rfl)) ?_
  intro W base args ds gs before hval hW _ hk _
  exact law_contract (C := Try.checked) (s := Rows.digestHoldsSpec) (by kernel_rfl) (by kernel_rfl) rfl rfl Try.underlying4 (fun ds h => match ds, h with | [_, _, _, _, _, _, _], _ => rfl) (walk enc) W args ds gs before hval hW hk
set_option maxRecDepth 100000 in
theorem funcAt : Try.pinned.checked.prog.funcNamed Rows.digestHoldsUptoRow.func = some 4 := by kernel_rfl
set_option maxRecDepth 100000 in
theorem closed : joinedFacts Try.pinned.checked.prog 4 Try.f4 (Rows.OpenSpec.upto Rows.digestHoldsSpec).bare Rows.digestHoldsUptoRow = true := by kernel_rfl
set_option maxRecDepth 100000 in
theorem over : Rows.digestHoldsUptoRow.holds Try.pinned (Rows.OpenSpec.upto Rows.digestHoldsSpec) :=
  OpenClaim.holds_of_cond 4 Try.f4 rfl rfl rfl rfl rfl rfl rfl ⟨rfl, rfl, rfl, rfl, rfl⟩ rfl rfl rfl rfl rfl funcAt Try.func4 closed
    (of_decide_eq_true (by kernel_rfl)) (by unfold Func.isWrapper; first | (rw [if_pos (by decide +kernel)]; kernel_rfl) | (rw [if_neg (by decide +kernel)]; exact ⟨rfl, rfl⟩))
    (fun os started H enc _ F => lifted os started H enc F)
end digestHolds
/-- the statement -/
theorem digestHolds_holds : Rows.DigestHoldsUptoSaid := digestHolds.over
#print axioms digestHolds_holds
end Go.Proofs.Ytjmkcndjjfokiaa
