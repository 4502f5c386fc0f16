/- The node to which a way leads, by package trie. -/
import Derived.Test.YtjjkdmngmopjbaaProg
import Derived.Test.YtjjkdmngmopjbaaTe3
import Derived.Lib.ConvBytes
import Derived.Deep.RegionHeld3
set_option linter.unusedSimpArgs false
set_option linter.unusedVariables false
namespace Go.Proofs.Ytjjkdmngmopjbaa
open Go.RowKit
/-- a way: of the letters 0 and 1 alone -/
def wayOk (s : Key) : Prop := ∀ c, c ∈ s → c = 48 ∨ c = 49
instance (s : Key) : Decidable (wayOk s) := inferInstanceAs (Decidable (∀ c, c ∈ s → c = 48 ∨ c = 49))
/-- the part of a tree to which a way leads -/
def downT : Option Tr → Key → Option (Option Tr)
  | t, [] => some t
  | none, _ :: _ => none
  | some (.leaf _ _), _ :: _ => none
  | some (.fork _ l r), c :: s => downT (some (if c = 48 then l else r)) s
def nodT (wd : Int) : Option Tr → Nod
  | none => ⟨0, [], [], 0, 0, 0⟩
  | some (.leaf k v) => ⟨1, k, v, 0, 0, 0⟩
  | some (.fork p l r) => ⟨2, [], [], (p : Int), digT wd l, digT wd r⟩
def atN (wd : Int) (t : Option Tr) (s : Key) : Nod := if wayOk s then (match downT t s with | some t' => nodT wd t' | none => nodT wd none) else nodT wd none
def atE (t : Option Tr) (s : Key) : Int := if wayOk s then (match downT t s with | some _ => 0 | none => 30) else 2
theorem at_bad (wd : Int) (t : Option Tr) {s : Key} {k : Nat} (hk : k < s.length) (h0 : s[k] ≠ 48) (h1 : s[k] ≠ 49) : atN wd t s = nodT wd none ∧ atE t s = 2 := by
  have : ¬ wayOk s := fun h => by
    rcases h _ (List.getElem_mem hk) with h | h
    · exact h0 h
    · exact h1 h
  unfold atN atE
  rw [if_neg this, if_neg this]
  exact ⟨rfl, rfl⟩
theorem at_none (wd : Int) {t : Option Tr} {s : Key} (h : wayOk s) (hd : downT t s = none) : atN wd t s = nodT wd none ∧ atE t s = 30 := by
  unfold atN atE
  rw [if_pos h, if_pos h, hd]
  exact ⟨rfl, rfl⟩
theorem at_some (wd : Int) {t t' : Option Tr} {s : Key} (h : wayOk s) (hd : downT t s = some t') : atN wd t s = nodT wd t' ∧ atE t s = 0 := by
  unfold atN atE
  rw [if_pos h, if_pos h, hd]
  exact ⟨rfl, rfl⟩
theorem wayOk_snoc {s : Key} {k : Nat} (hk : k < s.length) (h : wayOk (s.take k)) (hc : s[k] = 48 ∨ s[k] = 49) : wayOk (s.take (k + 1)) := by
  rw [List.take_succ_eq_append_getElem hk]
  intro c hm
  rcases List.mem_append.1 hm with hm | hm
  · exact h c hm
  · rw [List.mem_singleton] at hm
    rw [hm]
    exact hc
theorem freeze_below {B : Nat} {a w : World} (h : Below B a w) {p : Addr} (hp : B ≤ p.block) (n : Nat) : Below B a (w.freeze p n) := by
  refine h.trans ?_
  unfold World.freeze
  split
  · exact Below.refl B w
  · exact ⟨rfl, rfl, rfl, by simp, fun k hk => by
      simp only [Array.getElem?_modify]
      rw [if_neg (by omega)]⟩
theorem conv_below (w : World) (e : TypeId) (s : ByteArray) : Below w.heap.size w (Lib.bytesWorld w e s) :=
  freeze_below ((Below.drew (Below.refl _ w)).alloc (Nat.le_refl _) _) (p := ⟨w.heap.size, _, none⟩) (Nat.le_refl _) 1
/-- a string made into bytes -/
theorem conv_way (w : World) (s : Key) : ∃ (c : Nat) (w' : World), Sem.run Try.prog (convert 9 144 (.string (bs s))) w = .ok (.slice (some ⟨w.heap.size, 0, none⟩) s.length c) w' ∧ Below w.heap.size w w' ∧ ∀ k (h : k < s.length), w'.cell? ⟨w.heap.size, k, none⟩ = some (.int .u8 (s[k].toNat : Int)) := by
  refine ⟨grownCap w (bs s).size 0 5, Lib.bytesWorld w 5 (bs s), ?_, conv_below w 5 (bs s), fun k h => ?_⟩
  · have := Lib.run_convert_string_bytes (P := Try.prog) w 9 144 5 (bs s) Try.underlying9 Try.underlying144 Try.underlying5
    rw [bs_size] at this
    exact this
  · rw [Lib.bytesWorld_cell w 5 (bs s) k (by rw [bs_size]; exact h), bs_data, List.getD_eq_getElem?_getD, List.getElem?_eq_getElem h]
    rfl
def zeroN : Array Value := #[.int .i64 0, .string ⟨#[]⟩, .string ⟨#[]⟩, .int .i64 0, .int .u64 0, .int .u64 0]
def AtX (wd : Int) (t : Option Tr) (s : Key) (w : World) (e : Ending) (w' : World) : Prop := e = .returned (.tuple #[.agg (nodCells (atN wd t s)), .int .i64 (atE t s)]) ∧ Below w.heap.size w w'
theorem down_fork {p : Nat} {l r : Tr} {s : Key} {k : Nat} (hk : k < s.length) : downT (some (.fork p l r)) (s.drop k) = downT (some (if s[k] = 48 then l else r)) (s.drop (k + 1)) := by
  rw [List.drop_eq_getElem_cons hk]
  rfl
theorem down_leaf {a b s : Key} {k : Nat} (hk : k < s.length) : downT (some (.leaf a b)) (s.drop k) = none := by
  rw [List.drop_eq_getElem_cons hk]
  rfl
theorem down_none {s : Key} {k : Nat} (hk : k < s.length) : downT none (s.drop k) = none := by
  rw [List.drop_eq_getElem_cons hk]
  rfl
theorem down_end (t : Option Tr) {s : Key} {k : Nat} (hk : s.length ≤ k) : downT t (s.drop k) = some t := by
  rw [List.drop_of_length_le hk]
  cases t <;> rfl
theorem OTrR.keep {wd : Int} {w w' : World} {B : Nat} {t : Option Tr} {a : Option Addr} (h : OTrR wd w B t a) (hb : Below B w w') : OTrR wd w' B t a := by
  cases t with
  | none => exact h
  | some t => obtain ⟨q, e, h⟩ := h; exact ⟨q, e, h.below hb⟩
set_option maxRecDepth 100000 in
set_option maxHeartbeats 800000 in
theorem tat_any (wd : Int) (t : Option Tr) (a : Option Addr) (s : Key) (w : World) (hs : s.length ≤ 1000000000) (h : OTrR wd w w.heap.size t a) :
    Calls Try.prog 27 #[treeV wd a, .string (bs s)] w (AtX wd t s w) := by
  have hBad := Lib.hid (fun (k : Nat) (hk : k < s.length) (h0 : s[k] ≠ 48) (h1 : s[k] ≠ 49) => at_bad wd t hk h0 h1)
  have hNone := Lib.hid (fun (x : wayOk s) (hd : downT t s = none) => at_none wd x hd)
  have hSome := Lib.hid (fun (t' : Option Tr) (x : wayOk s) (hd : downT t s = some t') => at_some wd x hd)
  unfold AtX
  generalize atN wd t s = RN at *
  generalize atE t s = RE at *
  have hX : Blk ((w.alloc (.cells #[.int .i64 wd, .pointer a] 53)).alloc (.cells #[.int .i64 0, .string ⟨#[]⟩, .string ⟨#[]⟩, .int .i64 0, .int .u64 0, .int .u64 0] 75)) w.heap.size 53 #[.int .i64 wd, .pointer a] := (Blk.new w 53 #[.int .i64 wd, .pointer a]).alloc _
  have hA : Blk ((w.alloc (.cells #[.int .i64 wd, .pointer a] 53)).alloc (.cells #[.int .i64 0, .string ⟨#[]⟩, .string ⟨#[]⟩, .int .i64 0, .int .u64 0, .int .u64 0] 75)) (w.heap.size + 1) 75 #[.int .i64 0, .string ⟨#[]⟩, .string ⟨#[]⟩, .int .i64 0, .int .u64 0, .int .u64 0] := by
    have := Blk.new (w.alloc (.cells #[.int .i64 wd, .pointer a] 53)) 75 #[.int .i64 0, .string ⟨#[]⟩, .string ⟨#[]⟩, .int .i64 0, .int .u64 0, .int .u64 0]
    simpa using this
  have hB0 : Below w.heap.size w ((w.alloc (.cells #[.int .i64 wd, .pointer a] 53)).alloc (.cells #[.int .i64 0, .string ⟨#[]⟩, .string ⟨#[]⟩, .int .i64 0, .int .u64 0, .int .u64 0] 75)) := ((Below.refl _ _).alloc (Nat.le_refl _) _).alloc (by simp) _
  unfold treeV
  go_enter Try.func27, Try.ntmps27
  go_upto_region 1 with fail
  generalize ((w.alloc (.cells #[.int .i64 wd, .pointer a] 53)).alloc (.cells #[.int .i64 0, .string ⟨#[]⟩, .string ⟨#[]⟩, .int .i64 0, .int .u64 0, .int .u64 0] 75)) = w0 at *
  have x1 := (hX.cell 1).trans (show _ = some (Value.pointer a) from rfl)
  go_upto_region 2 with fail
  obtain ⟨c1, w1, hcv, hb1, hby⟩ := conv_way w0 s
  have h0 := OTrR.keep h hB0
  have hw : w.heap.size + 2 ≤ w0.heap.size := by have := hA.lt; omega
  have hX1 := hX.below hb1 hX.lt
  have hA1 := hA.below hb1 hA.lt
  have hB1 := hB0.trans (hb1.mono hB0.size)
  have hB0s := hB0.size
  clear h hX hA hB0 x1
  go_wp2_with fail
  go_loop [5, 8, 16] (fun _ _ i => ∃ k : Nat, i = .int .i64 (k : Int) ∧ k ≤ s.length ∧ Hid (wayOk (s.take k))) (fun _ _ i => s.length - (intOf i).toNat)
  case atStart => exact ⟨0, rfl, by omega, fun c hc => by simp at hc⟩
  case round =>
    obtain ⟨k, rfl, hk, hok⟩ := hrel
    by_cases hlt : k < s.length
    · have hki : (k : Int) < (s.length : Int) := by omega
      have y0 := hby k hlt
      have HT := Lib.hid (wayOk_snoc hlt hok)
      have HB := Lib.hid (hBad.out k hlt)
      generalize s[k] = ch at *
      by_cases e0 : ch = 48
      · subst e0
        have y0' : w1.cell? ⟨w0.heap.size, k, none⟩ = some (.int .u8 48) := y0
        clear y0 hby
        go_wp2_with fail
        go_round
        case rel => exact ⟨k + 1, by go_num, by omega, HT.out (.inl rfl)⟩
        case measure => simp [intOf]; omega
      · by_cases e1 : ch = 49
        · subst e1
          have y0' : w1.cell? ⟨w0.heap.size, k, none⟩ = some (.int .u8 49) := y0
          clear y0 hby
          go_wp2_with fail
          go_round
          case rel => exact ⟨k + 1, by go_num, by omega, HT.out (.inr rfl)⟩
          case measure => simp [intOf]; omega
        · have n0 : ¬ (ch.toNat : Int) = 48 := fun h => e0 (UInt8.toNat_inj.1 (by rw [show (48 : UInt8).toNat = 48 from rfl]; omega))
          have n1 : ¬ (ch.toNat : Int) = 49 := fun h => e1 (UInt8.toNat_inj.1 (by rw [show (49 : UInt8).toNat = 49 from rfl]; omega))
          obtain ⟨E1, E2⟩ := HB.out e0 e1
          have hF := Lib.hid (And.intro E1 E2)
          have HR := Lib.hid ((((((hA1.set_ 0 (.int .i64 0)).set_ 1 (.string ⟨#[]⟩)).set_ 2 (.string ⟨#[]⟩)).set_ 3 (.int .i64 0)).set_ 4 (.int .u64 0)).set_ 5 (.int .u64 0))
          have f := hA1.frozen
          have a0 := (hA1.cell 0).trans (show _ = some (Value.int .i64 0) from rfl)
          have a1 := (hA1.cell 1).trans (show _ = some (Value.string ⟨#[]⟩) from rfl)
          have a2 := (hA1.cell 2).trans (show _ = some (Value.string ⟨#[]⟩) from rfl)
          have a3 := (hA1.cell 3).trans (show _ = some (Value.int .i64 0) from rfl)
          have a4 := (hA1.cell 4).trans (show _ = some (Value.int .u64 0) from rfl)
          have a5 := (hA1.cell 5).trans (show _ = some (Value.int .u64 0) from rfl)
          clear HB E1 E2 hby hX1 e0 e1 HT
          generalize ch.toNat = cn at *
          have q0 : ((cn : Int) != 48) = true := bne_iff_ne.2 n0
          have q1 : ((cn : Int) != 49) = true := bne_iff_ne.2 n1
          clear n0 n1
          go_wp2_with fail
          have hR := HR.out
          have z0 := (hR.cell 0).trans (show _ = some (Value.int .i64 0) from rfl)
          have z1 := (hR.cell 1).trans (show _ = some (Value.string ⟨#[]⟩) from rfl)
          have z2 := (hR.cell 2).trans (show _ = some (Value.string ⟨#[]⟩) from rfl)
          have z3 := (hR.cell 3).trans (show _ = some (Value.int .i64 0) from rfl)
          have z4 := (hR.cell 4).trans (show _ = some (Value.int .u64 0) from rfl)
          have z5 := (hR.cell 5).trans (show _ = some (Value.int .u64 0) from rfl)
          refine bodyPost_ret (v := .tuple #[.agg #[.int .i64 0, .string ⟨#[]⟩, .string ⟨#[]⟩, .int .i64 0, .int .u64 0, .int .u64 0], .int .i64 2]) (by simp [results, Try.results27, go_sem, z0, z1, z2, z3, z4, z5]) rfl ⟨by rw [hF.out.1, hF.out.2]; rfl, ?_⟩
          repeat (with_reducible refine Below.setCell ?_ (by dsimp only; omega) _)
          exact hB1
    · have hki : ¬ (k : Int) < (s.length : Int) := by omega
      have hok' : Hid (wayOk s) := by
        show wayOk s
        rw [← List.take_of_length_le (Nat.le_of_not_lt hlt)]
        exact hok
      clear hok hby hBad
      obtain ⟨c2, w2, hcv2, hb2, hby2⟩ := conv_way w1 s
      have h2 := h0.keep ((hb1.trans (hb2.mono hb1.size)).mono hB0s)
      have hX2 := hX1.below hb2 hX1.lt
      have hA2 := hA1.below hb2 hA1.lt
      have hB2 := hB1.trans (hb2.mono hB1.size)
      have hR : Hid (∃ t' : Option Tr, OTrR wd w2 w.heap.size t' a ∧ downT t' (s.drop 0) = downT t s) := ⟨t, h2, rfl⟩
      clear h0 h2 hX1 hA1 hB1 hX2
      go_wp2_with fail
      go_loop [5, 6, 10, 31, 39, 50] (fun _ n _ i _ _ => ∃ (k : Nat) (a' : Option Addr), i = .int .i64 (k : Int) ∧ k ≤ s.length ∧ n = .pointer a' ∧ Hid (∃ t' : Option Tr, OTrR wd w2 w.heap.size t' a' ∧ downT t' (s.drop k) = downT t s)) (fun _ _ _ i _ _ => s.length - (intOf i).toNat)
      case atStart => exact ⟨0, a, rfl, by omega, rfl, hR⟩
      case round =>
        clear hR hki hlt hk
        obtain ⟨k, a', rfl, hk, rfl, t', ht, hd⟩ := hrel
        by_cases hlt : k < s.length
        · have hki : (k : Int) < (s.length : Int) := by omega
          have y0 := hby2 k hlt
          have hch := hok'.out _ (List.getElem_mem hlt)
          have hfk := fun p l r => @down_fork p l r s k hlt
          have hlf := fun x y => @down_leaf x y s k hlt
          have hnn := @down_none s k hlt
          generalize s[k] = ch at *
          clear hby2
          cases t' with
          | none =>
            obtain rfl : a' = none := ht
            have hF := Lib.hid (hNone.out hok'.out (hd.symm.trans hnn))
            clear hd hfk hlf hnn hSome hNone hch
            have HR := Lib.hid ((((((hA2.set_ 0 (.int .i64 0)).set_ 1 (.string ⟨#[]⟩)).set_ 2 (.string ⟨#[]⟩)).set_ 3 (.int .i64 0)).set_ 4 (.int .u64 0)).set_ 5 (.int .u64 0))
            have f := hA2.frozen
            have a0 := (hA2.cell 0).trans (show _ = some (Value.int .i64 0) from rfl)
            have a1 := (hA2.cell 1).trans (show _ = some (Value.string ⟨#[]⟩) from rfl)
            have a2 := (hA2.cell 2).trans (show _ = some (Value.string ⟨#[]⟩) from rfl)
            have a3 := (hA2.cell 3).trans (show _ = some (Value.int .i64 0) from rfl)
            have a4 := (hA2.cell 4).trans (show _ = some (Value.int .u64 0) from rfl)
            have a5 := (hA2.cell 5).trans (show _ = some (Value.int .u64 0) from rfl)
            go_wp2_with fail
            have hR := HR.out
            have z0 := (hR.cell 0).trans (show _ = some (Value.int .i64 0) from rfl)
            have z1 := (hR.cell 1).trans (show _ = some (Value.string ⟨#[]⟩) from rfl)
            have z2 := (hR.cell 2).trans (show _ = some (Value.string ⟨#[]⟩) from rfl)
            have z3 := (hR.cell 3).trans (show _ = some (Value.int .i64 0) from rfl)
            have z4 := (hR.cell 4).trans (show _ = some (Value.int .u64 0) from rfl)
            have z5 := (hR.cell 5).trans (show _ = some (Value.int .u64 0) from rfl)
            refine bodyPost_ret (v := .tuple #[.agg #[.int .i64 0, .string ⟨#[]⟩, .string ⟨#[]⟩, .int .i64 0, .int .u64 0, .int .u64 0], .int .i64 30]) (by simp [results, Try.results27, go_sem, z0, z1, z2, z3, z4, z5]) rfl ⟨by rw [hF.out.1, hF.out.2]; rfl, ?_⟩
            repeat (with_reducible refine Below.setCell ?_ (by dsimp only; omega) _)
            exact hB2
          | some t' =>
            obtain ⟨q, rfl, hq⟩ := ht
            have hpos := hq.pos
            cases t' with
            | leaf x y =>
              have hF := Lib.hid (hNone.out hok'.out (hd.symm.trans (hlf _ _)))
              clear hd hfk hlf hnn hSome hNone hch hq
              unfold posT at hpos
              have HR := Lib.hid ((((((hA2.set_ 0 (.int .i64 0)).set_ 1 (.string ⟨#[]⟩)).set_ 2 (.string ⟨#[]⟩)).set_ 3 (.int .i64 0)).set_ 4 (.int .u64 0)).set_ 5 (.int .u64 0))
              have f := hA2.frozen
              have a0 := (hA2.cell 0).trans (show _ = some (Value.int .i64 0) from rfl)
              have a1 := (hA2.cell 1).trans (show _ = some (Value.string ⟨#[]⟩) from rfl)
              have a2 := (hA2.cell 2).trans (show _ = some (Value.string ⟨#[]⟩) from rfl)
              have a3 := (hA2.cell 3).trans (show _ = some (Value.int .i64 0) from rfl)
              have a4 := (hA2.cell 4).trans (show _ = some (Value.int .u64 0) from rfl)
              have a5 := (hA2.cell 5).trans (show _ = some (Value.int .u64 0) from rfl)
              go_wp2_with fail
              have hR := HR.out
              have z0 := (hR.cell 0).trans (show _ = some (Value.int .i64 0) from rfl)
              have z1 := (hR.cell 1).trans (show _ = some (Value.string ⟨#[]⟩) from rfl)
              have z2 := (hR.cell 2).trans (show _ = some (Value.string ⟨#[]⟩) from rfl)
              have z3 := (hR.cell 3).trans (show _ = some (Value.int .i64 0) from rfl)
              have z4 := (hR.cell 4).trans (show _ = some (Value.int .u64 0) from rfl)
              have z5 := (hR.cell 5).trans (show _ = some (Value.int .u64 0) from rfl)
              refine bodyPost_ret (v := .tuple #[.agg #[.int .i64 0, .string ⟨#[]⟩, .string ⟨#[]⟩, .int .i64 0, .int .u64 0, .int .u64 0], .int .i64 30]) (by simp [results, Try.results27, go_sem, z0, z1, z2, z3, z4, z5]) rfl ⟨by rw [hF.out.1, hF.out.2]; rfl, ?_⟩
              repeat (with_reducible refine Below.setCell ?_ (by dsimp only; omega) _)
              exact hB2
            | fork p l r =>
              rw [hfk] at hd
              clear hfk hlf hnn
              obtain ⟨hqB, b1, b2, hblk, hl, hr⟩ := hq
              unfold posT at hpos
              have h3 := (hblk.cell 3).trans (show _ = some (Value.pointer (some ⟨b1, 0, none⟩)) from rfl)
              have h4 := (hblk.cell 4).trans (show _ = some (Value.pointer (some ⟨b2, 0, none⟩)) from rfl)
              have hge : decide ((p : Int) < 0) = false := decide_eq_false (by omega)
              have hge2 : ¬ ((p : Int) < 0) := by omega
              rcases hch with rfl | rfl
              · have y0' : w2.cell? ⟨w1.heap.size, k, none⟩ = some (.int .u8 48) := y0
                have hnext : Hid (∃ t' : Option Tr, OTrR wd w2 w.heap.size t' (some ⟨b1, 0, none⟩) ∧ downT t' (s.drop (k + 1)) = downT t s) := ⟨some l, ⟨b1, rfl, hl.more (by omega)⟩, by rw [← hd, if_pos rfl]⟩
                clear y0 hd hl hr
                go_wp2_with fail
                go_round
                case rel => exact ⟨k + 1, some ⟨b1, 0, none⟩, by go_num, by omega, rfl, hnext⟩
                case measure => simp [intOf]; omega
              · have y0' : w2.cell? ⟨w1.heap.size, k, none⟩ = some (.int .u8 49) := y0
                have hnext : Hid (∃ t' : Option Tr, OTrR wd w2 w.heap.size t' (some ⟨b2, 0, none⟩) ∧ downT t' (s.drop (k + 1)) = downT t s) := ⟨some r, ⟨b2, rfl, hr.more (by omega)⟩, by rw [← hd, if_neg (by decide)]⟩
                clear y0 hd hl hr
                go_wp2_with fail
                go_round
                case rel => exact ⟨k + 1, some ⟨b2, 0, none⟩, by go_num, by omega, rfl, hnext⟩
                case measure => simp [intOf]; omega
        · have hki : ¬ (k : Int) < (s.length : Int) := by omega
          have hF := Lib.hid (hSome.out _ hok'.out (hd.symm.trans (down_end t' (Nat.le_of_not_lt hlt))))
          clear hby2 hd hSome hNone
          cases t' with
          | none =>
            obtain rfl : a' = none := ht
            have HR := Lib.hid ((((((hA2.set_ 0 (.int .i64 0)).set_ 1 (.string ⟨#[]⟩)).set_ 2 (.string ⟨#[]⟩)).set_ 3 (.int .i64 0)).set_ 4 (.int .u64 0)).set_ 5 (.int .u64 0))
            have f := hA2.frozen
            have a0 := (hA2.cell 0).trans (show _ = some (Value.int .i64 0) from rfl)
            have a1 := (hA2.cell 1).trans (show _ = some (Value.string ⟨#[]⟩) from rfl)
            have a2 := (hA2.cell 2).trans (show _ = some (Value.string ⟨#[]⟩) from rfl)
            have a3 := (hA2.cell 3).trans (show _ = some (Value.int .i64 0) from rfl)
            have a4 := (hA2.cell 4).trans (show _ = some (Value.int .u64 0) from rfl)
            have a5 := (hA2.cell 5).trans (show _ = some (Value.int .u64 0) from rfl)
            go_wp2_with fail
            have hR := HR.out
            have z0 := (hR.cell 0).trans (show _ = some (Value.int .i64 0) from rfl)
            have z1 := (hR.cell 1).trans (show _ = some (Value.string ⟨#[]⟩) from rfl)
            have z2 := (hR.cell 2).trans (show _ = some (Value.string ⟨#[]⟩) from rfl)
            have z3 := (hR.cell 3).trans (show _ = some (Value.int .i64 0) from rfl)
            have z4 := (hR.cell 4).trans (show _ = some (Value.int .u64 0) from rfl)
            have z5 := (hR.cell 5).trans (show _ = some (Value.int .u64 0) from rfl)
            refine bodyPost_ret (v := .tuple #[.agg #[.int .i64 0, .string ⟨#[]⟩, .string ⟨#[]⟩, .int .i64 0, .int .u64 0, .int .u64 0], .int .i64 0]) (by simp [results, Try.results27, go_sem, z0, z1, z2, z3, z4, z5]) rfl ⟨by rw [hF.out.1, hF.out.2]; rfl, ?_⟩
            repeat (with_reducible refine Below.setCell ?_ (by dsimp only; omega) _)
            exact hB2
          | some t' =>
            obtain ⟨q, rfl, hq⟩ := ht
            have hpos := hq.pos
            cases t' with
            | leaf x y =>
              obtain ⟨hqB, hblk⟩ := hq
              unfold posT at hpos
              have HR := Lib.hid ((((((hA2.set_ 0 (.int .i64 1)).set_ 1 (.string (bs x))).set_ 2 (.string (bs y))).set_ 3 (.int .i64 0)).set_ 4 (.int .u64 0)).set_ 5 (.int .u64 0))
              have f := hA2.frozen
              have a0 := (hA2.cell 0).trans (show _ = some (Value.int .i64 0) from rfl)
              have a1 := (hA2.cell 1).trans (show _ = some (Value.string ⟨#[]⟩) from rfl)
              have a2 := (hA2.cell 2).trans (show _ = some (Value.string ⟨#[]⟩) from rfl)
              have a3 := (hA2.cell 3).trans (show _ = some (Value.int .i64 0) from rfl)
              have a4 := (hA2.cell 4).trans (show _ = some (Value.int .u64 0) from rfl)
              have a5 := (hA2.cell 5).trans (show _ = some (Value.int .u64 0) from rfl)
              have c0 := (hblk.cell 0).trans (show _ = some (Value.string (bs x)) from rfl)
              have c1 := (hblk.cell 1).trans (show _ = some (Value.string (bs y)) from rfl)
              have n1 : ¬ w.heap.size + 1 = q := by omega
              have n2 : ¬ q = w.heap.size + 1 := by omega
              go_upto_region 20 with fail
              go_region
              go_wp2_with fail
              have hR := HR.out
              have z0 := (hR.cell 0).trans (show _ = some (Value.int .i64 1) from rfl)
              have z1 := (hR.cell 1).trans (show _ = some (Value.string (bs x)) from rfl)
              have z2 := (hR.cell 2).trans (show _ = some (Value.string (bs y)) from rfl)
              have z3 := (hR.cell 3).trans (show _ = some (Value.int .i64 0) from rfl)
              have z4 := (hR.cell 4).trans (show _ = some (Value.int .u64 0) from rfl)
              have z5 := (hR.cell 5).trans (show _ = some (Value.int .u64 0) from rfl)
              refine bodyPost_ret (v := .tuple #[.agg #[.int .i64 1, .string (bs x), .string (bs y), .int .i64 0, .int .u64 0, .int .u64 0], .int .i64 0]) (by simp [results, Try.results27, go_sem, z0, z1, z2, z3, z4, z5]) rfl ⟨by rw [hF.out.1, hF.out.2]; rfl, ?_⟩
              repeat (first | with_reducible refine Below.setCell ?_ (by dsimp only; omega) _ | with_reducible refine Below.drew ?_)
              exact hB2
            | fork p l r =>
              obtain ⟨hqB, b1, b2, hblk, hl, hr⟩ := hq
              unfold posT at hpos
              have hge : decide ((p : Int) < 0) = false := decide_eq_false (by omega)
              have hge2 : ¬ ((p : Int) < 0) := by omega
              have hx := digT_bd wd l
              have hy := digT_bd wd r
              have h3 := (hblk.cell 3).trans (show _ = some (Value.pointer (some ⟨b1, 0, none⟩)) from rfl)
              have h4 := (hblk.cell 4).trans (show _ = some (Value.pointer (some ⟨b2, 0, none⟩)) from rfl)
              have c5 := hl.dig
              have c6 := hr.dig
              have hl1 := hl.lt
              have hr1 := hr.lt
              have n1 : ¬ w.heap.size + 1 = q := by omega
              have n2 : ¬ q = w.heap.size + 1 := by omega
              clear hl hr
              have HR := Lib.hid ((((((hA2.set_ 0 (.int .i64 2)).set_ 1 (.string ⟨#[]⟩)).set_ 2 (.string ⟨#[]⟩)).set_ 3 (.int .i64 (p : Int))).set_ 4 (.int .u64 (digT wd l))).set_ 5 (.int .u64 (digT wd r)))
              have f := hA2.frozen
              have a0 := (hA2.cell 0).trans (show _ = some (Value.int .i64 0) from rfl)
              have a1 := (hA2.cell 1).trans (show _ = some (Value.string ⟨#[]⟩) from rfl)
              have a2 := (hA2.cell 2).trans (show _ = some (Value.string ⟨#[]⟩) from rfl)
              have a3 := (hA2.cell 3).trans (show _ = some (Value.int .i64 0) from rfl)
              have a4 := (hA2.cell 4).trans (show _ = some (Value.int .u64 0) from rfl)
              have a5 := (hA2.cell 5).trans (show _ = some (Value.int .u64 0) from rfl)
              go_upto_region 21 with fail
              go_region
              go_wp2_with fail
              have hR := HR.out
              have z0 := (hR.cell 0).trans (show _ = some (Value.int .i64 2) from rfl)
              have z1 := (hR.cell 1).trans (show _ = some (Value.string ⟨#[]⟩) from rfl)
              have z2 := (hR.cell 2).trans (show _ = some (Value.string ⟨#[]⟩) from rfl)
              have z3 := (hR.cell 3).trans (show _ = some (Value.int .i64 (p : Int)) from rfl)
              have z4 := (hR.cell 4).trans (show _ = some (Value.int .u64 (digT wd l)) from rfl)
              have z5 := (hR.cell 5).trans (show _ = some (Value.int .u64 (digT wd r)) from rfl)
              refine bodyPost_ret (v := .tuple #[.agg #[.int .i64 2, .string ⟨#[]⟩, .string ⟨#[]⟩, .int .i64 (p : Int), .int .u64 (digT wd l), .int .u64 (digT wd r)], .int .i64 0]) (by simp [results, Try.results27, go_sem, z0, z1, z2, z3, z4, z5]) rfl ⟨by rw [hF.out.1, hF.out.2]; rfl, ?_⟩
              repeat (first | with_reducible refine Below.setCell ?_ (by dsimp only; omega) _ | with_reducible refine Below.drew ?_)
              exact hB2
end Go.Proofs.Ytjjkdmngmopjbaa
