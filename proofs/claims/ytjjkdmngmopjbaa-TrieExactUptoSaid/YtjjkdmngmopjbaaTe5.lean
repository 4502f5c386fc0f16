/- The node to which a way leads, by the reference. -/
import Derived.Test.YtjjkdmngmopjbaaProg
import Derived.Test.YtjjkdmngmopjbaaTe4
import Derived.Test.YtjjkdmngmopjbaaG04
set_option linter.unusedSimpArgs false
set_option linter.unusedVariables false
namespace Go.Proofs.Ytjjkdmngmopjbaa
open Go.RowKit
/-- the items of a tree that may be none, in memory -/
def OIt (w : World) (B : Nat) (A : Option Addr) (t : Option Tr) : Prop := ItR w B A (Tr.oitems t)
theorem GoodO.l {p : Nat} {l r : Tr} (h : GoodO (some (.fork p l r))) : GoodO (some l) := fun t e => by cases e; exact (h _ rfl).left
theorem GoodO.r {p : Nat} {l r : Tr} (h : GoodO (some (.fork p l r))) : GoodO (some r) := fun t e => by cases e; exact (h _ rfl).right
theorem u8_eq (a b : UInt8) : (a ≠ b → (((a.toNat : Nat) : Int) == ((b.toNat : Nat) : Int)) = false) ∧ (a = b → (((a.toNat : Nat) : Int) == ((b.toNat : Nat) : Int)) = true) :=
  ⟨fun h => beq_eq_false_iff_ne.2 fun e => h (UInt8.toNat_inj.1 (by omega)), fun h => by rw [h]; simp⟩
theorem u8_ne (a b : UInt8) : (a ≠ b → (((a.toNat : Nat) : Int) != ((b.toNat : Nat) : Int)) = true) ∧ (a = b → (((a.toNat : Nat) : Int) != ((b.toNat : Nat) : Int)) = false) :=
  ⟨fun h => bne_iff_ne.2 fun e => h (UInt8.toNat_inj.1 (by omega)), fun h => by rw [h]; simp⟩
set_option maxRecDepth 100000 in
set_option maxHeartbeats 1000000 in
theorem rat_any (wd : Int) (t : Option Tr) (A : Option Addr) (n c B : Nat) (s : Key) (w : World) (hs : s.length ≤ 1000000000) (hg : GoodO t) (hn : (Tr.oitems t).length = n) (hl : ItR w B A (Tr.oitems t)) (hB : B ≤ w.heap.size) (hc : n ≤ c) (hcm : c ≤ maxLen) :
    Calls Try.prog 28 #[rtreeV wd (.slice A n c), .string (bs s)] w (AtX wd t s w) := by
  have hBad := Lib.hid (fun (k : Nat) (hk : k < s.length) (h0 : s[k] ≠ 48) (h1 : s[k] ≠ 49) => at_bad wd t hk h0 h1)
  have hNone := Lib.hid (fun (x : wayOk s) (hd : downT t s = none) => at_none wd x hd)
  have hSome := Lib.hid (fun (t' : Option Tr) (x : wayOk s) (hd : downT t s = some t') => at_some wd x hd)
  have hR : Hid (∃ t' : Option Tr, GoodO t' ∧ (Tr.oitems t').length = n ∧ ItR w B A (Tr.oitems t') ∧ downT t' (s.drop 0) = downT t s) := ⟨t, hg, hn, hl, rfl⟩
  clear hg hn hl
  unfold AtX
  generalize atN wd t s = RN at *
  generalize atE t s = RE at *
  have hX : Blk ((w.alloc (.cells #[.int .i64 wd, .slice A n c] 57)).alloc (.cells #[.int .i64 0, .string ⟨#[]⟩, .string ⟨#[]⟩, .int .i64 0, .int .u64 0, .int .u64 0] 75)) w.heap.size 57 #[.int .i64 wd, .slice A n c] := (Blk.new w 57 #[.int .i64 wd, .slice A n c]).alloc _
  have hA : Blk ((w.alloc (.cells #[.int .i64 wd, .slice A n c] 57)).alloc (.cells #[.int .i64 0, .string ⟨#[]⟩, .string ⟨#[]⟩, .int .i64 0, .int .u64 0, .int .u64 0] 75)) (w.heap.size + 1) 75 #[.int .i64 0, .string ⟨#[]⟩, .string ⟨#[]⟩, .int .i64 0, .int .u64 0, .int .u64 0] := by
    have := Blk.new (w.alloc (.cells #[.int .i64 wd, .slice A n c] 57)) 75 #[.int .i64 0, .string ⟨#[]⟩, .string ⟨#[]⟩, .int .i64 0, .int .u64 0, .int .u64 0]
    simpa using this
  have hB0 : Below w.heap.size w ((w.alloc (.cells #[.int .i64 wd, .slice A n c] 57)).alloc (.cells #[.int .i64 0, .string ⟨#[]⟩, .string ⟨#[]⟩, .int .i64 0, .int .u64 0, .int .u64 0] 75)) := ((Below.refl _ _).alloc (Nat.le_refl _) _).alloc (by simp) _
  unfold rtreeV
  go_enter Try.func28, Try.ntmps28
  go_upto_region 1 with fail
  generalize ((w.alloc (.cells #[.int .i64 wd, .slice A n c] 57)).alloc (.cells #[.int .i64 0, .string ⟨#[]⟩, .string ⟨#[]⟩, .int .i64 0, .int .u64 0, .int .u64 0] 75)) = w0 at *
  have hw : w.heap.size + 2 ≤ w0.heap.size := by have := hA.lt; omega
  go_wp2_with fail
  go_loop [5, 6] (fun _ i => ∃ k : Nat, i = .int .i64 (k : Int) ∧ k ≤ s.length ∧ Hid (wayOk (s.take k))) (fun _ i => s.length - (intOf i).toNat)
  case atStart => exact ⟨0, rfl, by omega, fun c hc => by simp at hc⟩
  case round =>
    obtain ⟨k, rfl, hk, hok⟩ := hrel
    by_cases hlt : k < s.length
    · have hki : (k : Int) < (s.length : Int) := by omega
      have HT := Lib.hid (wayOk_snoc hlt hok)
      have HB := Lib.hid (hBad.out k hlt)
      have j0 : (s[k] ≠ 48 → (((s[k].toNat : Nat) : Int) != 48) = true) ∧ (s[k] = 48 → (((s[k].toNat : Nat) : Int) != 48) = false) := u8_ne s[k] 48
      have j1 : (s[k] ≠ 49 → (((s[k].toNat : Nat) : Int) != 49) = true) ∧ (s[k] = 49 → (((s[k].toNat : Nat) : Int) != 49) = false) := u8_ne s[k] 49
      by_cases e0 : s[k] = 48
      · have q0 := j0.2 e0
        have hTT := Lib.hid (HT.out (.inl e0))
        clear e0 j0 j1 HB HT
        go_wp2_with fail
        go_round
        case rel => exact ⟨k + 1, by go_num, by omega, hTT⟩
        case measure => simp [intOf]; omega
      · by_cases e1 : s[k] = 49
        · have q0 := j0.1 e0
          have q1 := j1.2 e1
          have hTT := Lib.hid (HT.out (.inr e1))
          clear e0 e1 j0 j1 HB HT
          go_wp2_with fail
          go_round
          case rel => exact ⟨k + 1, by go_num, by omega, hTT⟩
          case measure => simp [intOf]; omega
        · have q0 := j0.1 e0
          have q1 := j1.1 e1
          have hF := Lib.hid (HB.out e0 e1)
          clear e0 e1 j0 j1 HB HT hX
          have HR := Lib.hid ((((((hA.set_ 0 (.int .i64 0)).set_ 1 (.string ⟨#[]⟩)).set_ 2 (.string ⟨#[]⟩)).set_ 3 (.int .i64 0)).set_ 4 (.int .u64 0)).set_ 5 (.int .u64 0))
          have f := hA.frozen
          have a0 := (hA.cell 0).trans (show _ = some (Value.int .i64 0) from rfl)
          have a1 := (hA.cell 1).trans (show _ = some (Value.string ⟨#[]⟩) from rfl)
          have a2 := (hA.cell 2).trans (show _ = some (Value.string ⟨#[]⟩) from rfl)
          have a3 := (hA.cell 3).trans (show _ = some (Value.int .i64 0) from rfl)
          have a4 := (hA.cell 4).trans (show _ = some (Value.int .u64 0) from rfl)
          have a5 := (hA.cell 5).trans (show _ = some (Value.int .u64 0) from rfl)
          go_wp2_with fail
          have hR := HR.out
          have z0 := (hR.cell 0).trans (show _ = some (Value.int .i64 0) from rfl)
          have z1 := (hR.cell 1).trans (show _ = some (Value.string ⟨#[]⟩) from rfl)
          have z2 := (hR.cell 2).trans (show _ = some (Value.string ⟨#[]⟩) from rfl)
          have z3 := (hR.cell 3).trans (show _ = some (Value.int .i64 0) from rfl)
          have z4 := (hR.cell 4).trans (show _ = some (Value.int .u64 0) from rfl)
          have z5 := (hR.cell 5).trans (show _ = some (Value.int .u64 0) from rfl)
          refine bodyPost_ret (v := .tuple #[.agg #[.int .i64 0, .string ⟨#[]⟩, .string ⟨#[]⟩, .int .i64 0, .int .u64 0, .int .u64 0], .int .i64 2]) (by simp [results, Try.results28, go_sem, z0, z1, z2, z3, z4, z5]) rfl ⟨by rw [hF.out.1, hF.out.2]; rfl, ?_⟩
          repeat (first | with_reducible refine Below.setCell ?_ (by dsimp only; omega) _ | with_reducible refine Below.drew ?_)
          exact hB0
    · have hki : ¬ (k : Int) < (s.length : Int) := by omega
      have hok' : Hid (wayOk s) := by
        show wayOk s
        rw [← List.take_of_length_le (Nat.le_of_not_lt hlt)]
        exact hok
      clear hok hBad
      have x0 := (hX.cell 0).trans (show _ = some (Value.int .i64 wd) from rfl)
      have x1 := (hX.cell 1).trans (show _ = some (Value.slice A n c) from rfl)
      go_wp2_with fail
      go_loop [5, 7, 8, 9, 10] (fun _ v i _ _ => ∃ (k : Nat) (A' : Option Addr) (n' c' : Nat), i = .int .i64 (k : Int) ∧ k ≤ s.length ∧ v = .slice A' n' c' ∧ n' ≤ c' ∧ c' ≤ maxLen ∧ Hid (∃ t' : Option Tr, GoodO t' ∧ (Tr.oitems t').length = n' ∧ ItR w B A' (Tr.oitems t') ∧ downT t' (s.drop k) = downT t s)) (fun _ _ i _ _ => s.length - (intOf i).toNat)
      case atStart => exact ⟨0, A, n, c, rfl, by omega, rfl, hc, hcm, hR⟩
      case round =>
        clear hR hki hlt hk hc hcm
        obtain ⟨k, A', n', c', rfl, hk, rfl, hc, hcm, t', hg, hn, hl, hd⟩ := hrel
        by_cases hlt : k < s.length
        · have hki : (k : Int) < (s.length : Int) := by omega
          cases t' with
          | none =>
            have hF := Lib.hid (hNone.out hok'.out (hd.symm.trans (down_none hlt)))
            have hn0 : n' = 0 := by rw [← hn]; rfl
            subst hn0
            clear hd hSome hNone hg hl hn x0 x1 hX
            have HR := Lib.hid ((((((hA.set_ 0 (.int .i64 0)).set_ 1 (.string ⟨#[]⟩)).set_ 2 (.string ⟨#[]⟩)).set_ 3 (.int .i64 0)).set_ 4 (.int .u64 0)).set_ 5 (.int .u64 0))
            have f := hA.frozen
            have a0 := (hA.cell 0).trans (show _ = some (Value.int .i64 0) from rfl)
            have a1 := (hA.cell 1).trans (show _ = some (Value.string ⟨#[]⟩) from rfl)
            have a2 := (hA.cell 2).trans (show _ = some (Value.string ⟨#[]⟩) from rfl)
            have a3 := (hA.cell 3).trans (show _ = some (Value.int .i64 0) from rfl)
            have a4 := (hA.cell 4).trans (show _ = some (Value.int .u64 0) from rfl)
            have a5 := (hA.cell 5).trans (show _ = some (Value.int .u64 0) from rfl)
            go_wp2_with fail
            have hR := HR.out
            have z0 := (hR.cell 0).trans (show _ = some (Value.int .i64 0) from rfl)
            have z1 := (hR.cell 1).trans (show _ = some (Value.string ⟨#[]⟩) from rfl)
            have z2 := (hR.cell 2).trans (show _ = some (Value.string ⟨#[]⟩) from rfl)
            have z3 := (hR.cell 3).trans (show _ = some (Value.int .i64 0) from rfl)
            have z4 := (hR.cell 4).trans (show _ = some (Value.int .u64 0) from rfl)
            have z5 := (hR.cell 5).trans (show _ = some (Value.int .u64 0) from rfl)
            refine bodyPost_ret (v := .tuple #[.agg #[.int .i64 0, .string ⟨#[]⟩, .string ⟨#[]⟩, .int .i64 0, .int .u64 0, .int .u64 0], .int .i64 30]) (by simp [results, Try.results28, go_sem, z0, z1, z2, z3, z4, z5]) rfl ⟨by rw [hF.out.1, hF.out.2]; rfl, ?_⟩
            repeat (first | with_reducible refine Below.setCell ?_ (by dsimp only; omega) _ | with_reducible refine Below.drew ?_)
            exact hB0
          | some t' =>
            cases t' with
            | leaf x y =>
              have hF := Lib.hid (hNone.out hok'.out (hd.symm.trans (down_leaf hlt)))
              have hn0 : n' = 1 := by rw [← hn]; rfl
              subst hn0
              clear hd hSome hNone hg hl hn x0 x1 hX
              have HR := Lib.hid ((((((hA.set_ 0 (.int .i64 0)).set_ 1 (.string ⟨#[]⟩)).set_ 2 (.string ⟨#[]⟩)).set_ 3 (.int .i64 0)).set_ 4 (.int .u64 0)).set_ 5 (.int .u64 0))
              have f := hA.frozen
              have a0 := (hA.cell 0).trans (show _ = some (Value.int .i64 0) from rfl)
              have a1 := (hA.cell 1).trans (show _ = some (Value.string ⟨#[]⟩) from rfl)
              have a2 := (hA.cell 2).trans (show _ = some (Value.string ⟨#[]⟩) from rfl)
              have a3 := (hA.cell 3).trans (show _ = some (Value.int .i64 0) from rfl)
              have a4 := (hA.cell 4).trans (show _ = some (Value.int .u64 0) from rfl)
              have a5 := (hA.cell 5).trans (show _ = some (Value.int .u64 0) from rfl)
              go_wp2_with fail
              have hR := HR.out
              have z0 := (hR.cell 0).trans (show _ = some (Value.int .i64 0) from rfl)
              have z1 := (hR.cell 1).trans (show _ = some (Value.string ⟨#[]⟩) from rfl)
              have z2 := (hR.cell 2).trans (show _ = some (Value.string ⟨#[]⟩) from rfl)
              have z3 := (hR.cell 3).trans (show _ = some (Value.int .i64 0) from rfl)
              have z4 := (hR.cell 4).trans (show _ = some (Value.int .u64 0) from rfl)
              have z5 := (hR.cell 5).trans (show _ = some (Value.int .u64 0) from rfl)
              refine bodyPost_ret (v := .tuple #[.agg #[.int .i64 0, .string ⟨#[]⟩, .string ⟨#[]⟩, .int .i64 0, .int .u64 0, .int .u64 0], .int .i64 30]) (by simp [results, Try.results28, go_sem, z0, z1, z2, z3, z4, z5]) rfl ⟨by rw [hF.out.1, hF.out.2]; rfl, ?_⟩
              repeat (first | with_reducible refine Below.setCell ?_ (by dsimp only; omega) _ | with_reducible refine Below.drew ?_)
              exact hB0
            | fork p tl tr =>
              have hf := rforkT_any p tl tr A' c' B w0 (hg _ rfl) (Rd.below hl (hB0.mono hB))
              have hlen : tl.items.length + tr.items.length = n' := by rw [← hn]; show _ = (Tr.items (.fork p tl tr)).length; rw [Tr.items, List.length_append]
              have hpl := tl.items_pos
              have hpr := tr.items_pos
              have hn' : (Tr.items (.fork p tl tr)).length = n' := hn
              rw [hn'] at hf
              obtain ⟨b, off, rfl, hbB, xz0, xz1⟩ := hl.at_ (k := 0) (by omega)
              have hL : ItR w B (some ⟨b, off, none⟩) tl.items := by
                have := hl.front (k := tl.items.length) (by omega)
                rwa [show Tr.oitems (some (.fork p tl tr)) = tl.items ++ tr.items from rfl, List.take_left] at this
              have hRr : ItR w B (some ⟨b, off + tl.items.length * 2, none⟩) tr.items := by
                have := hl.back (k := tl.items.length) (by omega)
                rwa [show Tr.oitems (some (.fork p tl tr)) = tl.items ++ tr.items from rfl, List.drop_left] at this
              have hch := hok'.out _ (List.getElem_mem hlt)
              have hg1 := GoodO.l hg
              have hg2 := GoodO.r hg
              have hd' := (@down_fork p tl tr s k hlt).symm.trans hd
              clear xz0 xz1 hl hg hn hn' hd
              have j0 : (s[k] ≠ 48 → (((s[k].toNat : Nat) : Int) == 48) = false) ∧ (s[k] = 48 → (((s[k].toNat : Nat) : Int) == 48) = true) := u8_eq s[k] 48
              generalize hKe : tl.items.length = K at *
              have hKE := Lib.hid hKe
              clear hKe
              have i0' : (0 : Int) ≤ (K : Int) := by omega
              have i1 : (K : Int) ≤ (n' : Int) := by omega
              have i2 : (K : Int) ≤ (c' : Int) := by omega
              have i3 : (n' : Int) ≤ (c' : Int) := by omega
              have i5 : ¬ c' = K := by omega
              have d1 : decide ((n' : Int) < 2) = false := decide_eq_false (by omega)
              by_cases e0 : s[k] = 48
              · have q0 := j0.2 e0
                rw [if_pos e0] at hd'
                have hnext : Hid (∃ t' : Option Tr, GoodO t' ∧ (Tr.oitems t').length = K ∧ ItR w B (some ⟨b, off, none⟩) (Tr.oitems t') ∧ downT t' (s.drop (k + 1)) = downT t s) := ⟨some tl, hg1, hKE.out, hL, hd'⟩
                clear e0 j0 hd' hL hRr hg1 hg2 hch
                go_wp2_with fail
                refine hf.mono ?_
                rintro e w3 ⟨rfl, rfl⟩
                go_wp2_with fail
                go_round
                case rel => exact ⟨k + 1, some ⟨b, off, none⟩, K, c', by go_num, by omega, rfl, by omega, hcm, hnext⟩
                case measure => simp [intOf]; omega
              · have q0 := j0.1 e0
                rw [if_neg e0] at hd'
                have hnext : Hid (∃ t' : Option Tr, GoodO t' ∧ (Tr.oitems t').length = n' - K ∧ ItR w B (some ⟨b, off + K * 2, none⟩) (Tr.oitems t') ∧ downT t' (s.drop (k + 1)) = downT t s) := ⟨some tr, hg2, by show tr.items.length = _; omega, hRr, hd'⟩
                clear e0 j0 hd' hL hRr hg1 hg2 hch
                go_wp2_with fail
                refine hf.mono ?_
                rintro e w3 ⟨rfl, rfl⟩
                go_wp2_with fail
                go_round
                case rel => exact ⟨k + 1, some ⟨b, off + K * 2, none⟩, n' - K, c' - K, by go_num, by omega, rfl, by omega, by omega, hnext⟩
                case measure => simp [intOf]; omega
        · have hki : ¬ (k : Int) < (s.length : Int) := by omega
          have hF := Lib.hid (hSome.out _ hok'.out (hd.symm.trans (down_end t' (Nat.le_of_not_lt hlt))))
          clear hd hSome hNone
          cases t' with
          | none =>
            have hn0 : n' = 0 := by rw [← hn]; rfl
            subst hn0
            clear hg hl hn x0 x1 hX
            have HR := Lib.hid ((((((hA.set_ 0 (.int .i64 0)).set_ 1 (.string ⟨#[]⟩)).set_ 2 (.string ⟨#[]⟩)).set_ 3 (.int .i64 0)).set_ 4 (.int .u64 0)).set_ 5 (.int .u64 0))
            have f := hA.frozen
            have a0 := (hA.cell 0).trans (show _ = some (Value.int .i64 0) from rfl)
            have a1 := (hA.cell 1).trans (show _ = some (Value.string ⟨#[]⟩) from rfl)
            have a2 := (hA.cell 2).trans (show _ = some (Value.string ⟨#[]⟩) from rfl)
            have a3 := (hA.cell 3).trans (show _ = some (Value.int .i64 0) from rfl)
            have a4 := (hA.cell 4).trans (show _ = some (Value.int .u64 0) from rfl)
            have a5 := (hA.cell 5).trans (show _ = some (Value.int .u64 0) from rfl)
            go_wp2_with fail
            have hR := HR.out
            have z0 := (hR.cell 0).trans (show _ = some (Value.int .i64 0) from rfl)
            have z1 := (hR.cell 1).trans (show _ = some (Value.string ⟨#[]⟩) from rfl)
            have z2 := (hR.cell 2).trans (show _ = some (Value.string ⟨#[]⟩) from rfl)
            have z3 := (hR.cell 3).trans (show _ = some (Value.int .i64 0) from rfl)
            have z4 := (hR.cell 4).trans (show _ = some (Value.int .u64 0) from rfl)
            have z5 := (hR.cell 5).trans (show _ = some (Value.int .u64 0) from rfl)
            refine bodyPost_ret (v := .tuple #[.agg #[.int .i64 0, .string ⟨#[]⟩, .string ⟨#[]⟩, .int .i64 0, .int .u64 0, .int .u64 0], .int .i64 0]) (by simp [results, Try.results28, go_sem, z0, z1, z2, z3, z4, z5]) rfl ⟨by rw [hF.out.1, hF.out.2]; rfl, ?_⟩
            repeat (first | with_reducible refine Below.setCell ?_ (by dsimp only; omega) _ | with_reducible refine Below.drew ?_)
            exact hB0
          | some t' =>
            cases t' with
            | leaf x y =>
              have hn0 : n' = 1 := by rw [← hn]; rfl
              subst hn0
              have hl2 : ItR w0 B A' (Tr.items (.leaf x y)) := Rd.below hl (hB0.mono hB)
              obtain ⟨xb, xo, rfl, hxb, yy0, yy1⟩ := hl2.at_ (k := 0) (by simp [Tr.items])
              have y0 : w0.cell? ⟨xb, xo, none⟩ = some (.string (bs x)) := by simpa [Tr.items] using yy0
              have y1 : w0.cell? ⟨xb, xo + 1, none⟩ = some (.string (bs y)) := by simpa [Tr.items] using yy1
              have n1 : ¬ w.heap.size + 1 = xb := by omega
              have n2 : ¬ xb = w.heap.size + 1 := by omega
              clear yy0 yy1 hl2 hl hn hg x0 x1 hX
              have HR := Lib.hid ((((((hA.set_ 0 (.int .i64 1)).set_ 1 (.string (bs x))).set_ 2 (.string (bs y))).set_ 3 (.int .i64 0)).set_ 4 (.int .u64 0)).set_ 5 (.int .u64 0))
              have f := hA.frozen
              have a0 := (hA.cell 0).trans (show _ = some (Value.int .i64 0) from rfl)
              have a1 := (hA.cell 1).trans (show _ = some (Value.string ⟨#[]⟩) from rfl)
              have a2 := (hA.cell 2).trans (show _ = some (Value.string ⟨#[]⟩) from rfl)
              have a3 := (hA.cell 3).trans (show _ = some (Value.int .i64 0) from rfl)
              have a4 := (hA.cell 4).trans (show _ = some (Value.int .u64 0) from rfl)
              have a5 := (hA.cell 5).trans (show _ = some (Value.int .u64 0) from rfl)
              go_upto_region 19 with fail
              go_region
              go_wp2_with fail
              have hR := HR.out
              have z0 := (hR.cell 0).trans (show _ = some (Value.int .i64 1) from rfl)
              have z1 := (hR.cell 1).trans (show _ = some (Value.string (bs x)) from rfl)
              have z2 := (hR.cell 2).trans (show _ = some (Value.string (bs y)) from rfl)
              have z3 := (hR.cell 3).trans (show _ = some (Value.int .i64 0) from rfl)
              have z4 := (hR.cell 4).trans (show _ = some (Value.int .u64 0) from rfl)
              have z5 := (hR.cell 5).trans (show _ = some (Value.int .u64 0) from rfl)
              refine bodyPost_ret (v := .tuple #[.agg #[.int .i64 1, .string (bs x), .string (bs y), .int .i64 0, .int .u64 0, .int .u64 0], .int .i64 0]) (by simp [results, Try.results28, go_sem, z0, z1, z2, z3, z4, z5]) rfl ⟨by rw [hF.out.1, hF.out.2]; rfl, ?_⟩
              repeat (first | with_reducible refine Below.setCell ?_ (by dsimp only; omega) _ | with_reducible refine Below.drew ?_)
              exact hB0
            | fork p tl tr =>
              have hgg := hg _ rfl
              have hf := fun (W : World) (h : ItR W B A' (Tr.items (.fork p tl tr))) => rforkT_any p tl tr A' c' B W hgg h
              have hlen : tl.items.length + tr.items.length = n' := by rw [← hn]; show _ = (Tr.items (.fork p tl tr)).length; rw [Tr.items, List.length_append]
              have hpl := tl.items_pos
              have hpr := tr.items_pos
              have hn' : (Tr.items (.fork p tl tr)).length = n' := hn
              rw [hn'] at hf
              obtain ⟨b, off, rfl, hbB, xz0, xz1⟩ := hl.at_ (k := 0) (by omega)
              have hL : ItR w B (some ⟨b, off, none⟩) tl.items := by
                have := hl.front (k := tl.items.length) (by omega)
                rwa [show Tr.oitems (some (.fork p tl tr)) = tl.items ++ tr.items from rfl, List.take_left] at this
              have hRr : ItR w B (some ⟨b, off + tl.items.length * 2, none⟩) tr.items := by
                have := hl.back (k := tl.items.length) (by omega)
                rwa [show Tr.oitems (some (.fork p tl tr)) = tl.items ++ tr.items from rfl, List.drop_left] at this
              have HL := fun (c0 : Nat) (W : World) => (rtop_all wd tl hgg.left).2 tl.items.length (some ⟨b, off, none⟩) c0 B W rfl
              have HR := fun (c0 : Nat) (W : World) => (rtop_all wd tr hgg.right).2 (n' - tl.items.length) (some ⟨b, off + tl.items.length * 2, none⟩) c0 B W (by omega)
              have hp9 := hgg.2.1.1
              have hl0 := Rd.below hl (hB0.mono hB)
              have hf0 := hf w0 hl0
              have hL0 : ItR w0.drew B _ _ := Rd.below hL ((hB0.drew).mono hB)
              have hxL := digT_bd wd tl
              have hxR := digT_bd wd tr
              generalize hD1 : digT wd tl = D1 at *
              generalize hD2 : digT wd tr = D2 at *
              have hF2 : Hid (RN = ⟨2, [], [], (p : Int), D1, D2⟩ ∧ RE = 0) := by
                show _ ∧ _
                rw [hF.out.1, hF.out.2, ← hD1, ← hD2]
                exact ⟨rfl, rfl⟩
              clear xz0 xz1 hl hn hn' hgg hg hf hl0 hF hD1 hD2
              generalize tl.items.length = K at *
              have i0' : (0 : Int) ≤ (K : Int) := by omega
              have i1 : (K : Int) ≤ (n' : Int) := by omega
              have i2 : (K : Int) ≤ (c' : Int) := by omega
              have i3 : (n' : Int) ≤ (c' : Int) := by omega
              have i5 : ¬ c' = K := by omega
              have d0 : ((n' : Int) == 0) = false := beq_eq_false_iff_ne.2 (by omega)
              have d1 : ((n' : Int) == 1) = false := beq_eq_false_iff_ne.2 (by omega)
              have k0 : w0.drew.cell? ⟨w.heap.size, 0, none⟩ = some (Value.int .i64 wd) := x0
              have hXd : Blk w0.drew w.heap.size 57 #[.int .i64 wd, .slice A n c] := Blk.drew hX
              have hAd : Blk w0.drew (w.heap.size + 1) 75 #[.int .i64 0, .string ⟨#[]⟩, .string ⟨#[]⟩, .int .i64 0, .int .u64 0, .int .u64 0] := Blk.drew hA
              have hBd := hB0.drew
              have hwd : w.heap.size + 2 ≤ w0.drew.heap.size := hw
              go_upto_region 20 with fail
              go_wp2_with fail
              refine hf0.mono ?_
              rintro e w3 ⟨rfl, rfl⟩
              clear hf0
              go_wp2_with fail
              refine wp_region_tail 5 (by kernel_rfl) (by kernel_rfl) ?_
              simp only [List.take_succ_cons, List.take_zero, List.drop_succ_cons, List.drop_zero]
              repeat (go_big_quiet_step (fail))
              refine wpQuiet_nil ?_
              generalize w0.drew = w4 at *
              go_wp2_with fail
              refine (HL _ _ hL0 (by omega) (by omega) (by omega)).mono ?_
              rintro e w5 ⟨rfl, hb5⟩
              clear HL
              have k1 : w5.drew.cell? ⟨w.heap.size, 0, none⟩ = some (Value.int .i64 wd) := ((hXd.below hb5 hXd.lt).cell 0).trans rfl
              have hA5 := Blk.drew (hAd.below hb5 hAd.lt)
              have hB5 := (hBd.trans (hb5.mono hBd.size)).drew
              have hR0 := Rd.below hRr (hB5.mono hB)
              go_wp2_with fail
              refine wp_region_tail 5 (by kernel_rfl) (by kernel_rfl) ?_
              simp only [List.take_succ_cons, List.take_zero, List.drop_succ_cons, List.drop_zero]
              repeat (go_big_quiet_step (fail))
              refine wpQuiet_nil ?_
              generalize w5.drew = w6 at *
              go_wp2_with fail
              refine (HR _ _ hR0 (by have := hB5.size; omega) (by omega) (by omega)).mono ?_
              rintro e w7 ⟨rfl, hb7⟩
              clear HR
              have hA7 := hA5.below hb7 hA5.lt
              have hB7 := hB5.trans (hb7.mono hB5.size)
              have hF := hF2
              have HR := Lib.hid ((((((hA7.set_ 0 (.int .i64 2)).set_ 1 (.string ⟨#[]⟩)).set_ 2 (.string ⟨#[]⟩)).set_ 3 (.int .i64 (p : Int))).set_ 4 (.int .u64 D1)).set_ 5 (.int .u64 D2))
              have f := hA7.frozen
              have a0 := (hA7.cell 0).trans (show _ = some (Value.int .i64 0) from rfl)
              have a1 := (hA7.cell 1).trans (show _ = some (Value.string ⟨#[]⟩) from rfl)
              have a2 := (hA7.cell 2).trans (show _ = some (Value.string ⟨#[]⟩) from rfl)
              have a3 := (hA7.cell 3).trans (show _ = some (Value.int .i64 0) from rfl)
              have a4 := (hA7.cell 4).trans (show _ = some (Value.int .u64 0) from rfl)
              have a5 := (hA7.cell 5).trans (show _ = some (Value.int .u64 0) from rfl)
              go_wp2_with fail
              have hR := HR.out
              have z0 := (hR.cell 0).trans (show _ = some (Value.int .i64 2) from rfl)
              have z1 := (hR.cell 1).trans (show _ = some (Value.string ⟨#[]⟩) from rfl)
              have z2 := (hR.cell 2).trans (show _ = some (Value.string ⟨#[]⟩) from rfl)
              have z3 := (hR.cell 3).trans (show _ = some (Value.int .i64 (p : Int)) from rfl)
              have z4 := (hR.cell 4).trans (show _ = some (Value.int .u64 D1) from rfl)
              have z5 := (hR.cell 5).trans (show _ = some (Value.int .u64 D2) from rfl)
              refine bodyPost_ret (v := .tuple #[.agg #[.int .i64 2, .string ⟨#[]⟩, .string ⟨#[]⟩, .int .i64 (p : Int), .int .u64 D1, .int .u64 D2], .int .i64 0]) (by simp [results, Try.results28, go_sem, z0, z1, z2, z3, z4, z5]) rfl ⟨by rw [hF.out.1, hF.out.2]; rfl, ?_⟩
              repeat (first | with_reducible refine Below.setCell ?_ (by dsimp only; omega) _ | with_reducible refine Below.drew ?_)
              exact hB7
end Go.Proofs.Ytjjkdmngmopjbaa
