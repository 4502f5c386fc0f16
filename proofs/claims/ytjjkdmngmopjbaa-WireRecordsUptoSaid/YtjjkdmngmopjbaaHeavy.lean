/- How heavy transactions are: it is some number, some answer. -/
import Derived.Test.YtjjkdmngmopjbaaProg
import Derived.Test.YtjjkdmngmopjbaaWrU
import Derived.Deep.QuietTactic
import Derived.BigQuiet
namespace Go.Proofs.Ytjjkdmngmopjbaa
open Go.RowKit
def SomeI (w : World) (e : Ending) (w' : World) : Prop := ∃ n : Int, e = .returned (.int .i64 n) ∧ Below w.heap.size w w'
def SomeB (w : World) (e : Ending) (w' : World) : Prop := ∃ b : Bool, e = .returned (.bool b) ∧ Below w.heap.size w w'
set_option maxRecDepth 100000 in
set_option maxHeartbeats 2000000 in
theorem weigh_any (x : TxD) (B : Nat) (w : World) (hx : x.held w B) (hB : B ≤ w.heap.size) :
    Calls Try.prog 50 #[x.val] w (SomeI w) := by
  obtain ⟨x1, x2, x3, x4, x5, x6, x7, x8, al, aA, ac, ss, sA, sc, ps, pA, pc⟩ := x
  dsimp only [TxD.val]
  obtain ⟨hxa, hxs, hxp, ⟨hs0, hs1, hs2⟩, hxq, hxo⟩ := hx
  dsimp only at hxa hxs hxp hs0 hs1 hs2 hxq hxo
  clear hxa hxq hxo
  unfold maxLen at hs0 hs1 hs2
  go_enter Try.func50, Try.ntmps50
  go_wp2_with fail
  go_loopw [3, 4] (fun n i wr => ∃ (j : Nat) (m : Int), i = .int .i64 (j : Int) ∧ n = .int .i64 m ∧ j ≤ ss.length ∧ Blk wr w.heap.size 115 #[.int .i64 x1, .int .i64 x2, .int .i64 x3, .int .i64 x4, .int .i64 x5, .int .i64 x6, .int .i64 x7, .string (bs x8), .slice aA al.length ac, .slice sA ss.length sc, .slice pA ps.length pc] ∧ Below w.heap.size w wr) (fun _ i _ => ss.length - (intOf i).toNat)
  case atStart => exact ⟨0, _, rfl, rfl, by omega, Blk.new _ _ _, (Below.refl _ _).alloc (Nat.le_refl _) _⟩
  case round =>
    obtain ⟨j, m, rfl, rfl, hj, hBx, hbel⟩ := hrel
    have qa_7 : wr.cell? ⟨w.heap.size, 7, none⟩ = some (Value.string (bs x8)) := (hBx.cell 7).trans (show _ = some (Value.string (bs x8)) from rfl)
    have qa_8 : wr.cell? ⟨w.heap.size, 8, none⟩ = some (Value.slice aA al.length ac) := (hBx.cell 8).trans (show _ = some (Value.slice aA al.length ac) from rfl)
    have qa_9 : wr.cell? ⟨w.heap.size, 9, none⟩ = some (Value.slice sA ss.length sc) := (hBx.cell 9).trans (show _ = some (Value.slice sA ss.length sc) from rfl)
    have qa_10 : wr.cell? ⟨w.heap.size, 10, none⟩ = some (Value.slice pA ps.length pc) := (hBx.cell 10).trans (show _ = some (Value.slice pA ps.length pc) from rfl)
    have qb_9 : wr.drew.cell? ⟨w.heap.size, 9, none⟩ = some (Value.slice sA ss.length sc) := (hBx.drew.cell 9).trans (show _ = some (Value.slice sA ss.length sc) from rfl)
    have qb_10 : wr.drew.cell? ⟨w.heap.size, 10, none⟩ = some (Value.slice pA ps.length pc) := (hBx.drew.cell 10).trans (show _ = some (Value.slice pA ps.length pc) from rfl)
    by_cases hgo : j < ss.length ∧ j < 9
    · obtain ⟨hlt, h9⟩ := hgo
      have hji : (j : Int) < (ss.length : Int) := by omega
      have h9i : (j : Int) < 9 := by omega
      obtain ⟨b, off, rfl, hbB, hc⟩ := SightsL.at_ (Rd.below hxs (hbel.mono hB)) hlt
      have d0 : wr.cell? ⟨b, off + j * 16 + 9 + 5, none⟩ = some (.slice ss[j].cert.fa ss[j].cert.froms.length ss[j].cert.fc) := hc 14 _ rfl
      have d1 : wr.cell? ⟨b, off + j * 16 + 15, none⟩ = some (.slice ss[j].sa ss[j].seats.length ss[j].sc) := hc 15 _ rfl
      have d2 : wr.cell? ⟨b, off + j * 16 + 14, none⟩ = some (.slice ss[j].cert.fa ss[j].cert.froms.length ss[j].cert.fc) := hc 14 _ rfl
      generalize ss[j] = y at *
      clear hc
      go_wp2_with fail
      go_quiet (fail)
      go_wp2_with fail
      go_roundw
      case rel => exact ⟨j + 1, _, by go_num, rfl, by omega, by first | exact hBx.drew | exact hBx | exact hBx.drewN _, by first | exact hbel.drew | exact hbel | exact hbel.drewN _⟩
      case measure => simp [intOf]; omega
    · obtain ⟨wo, rfl⟩ : ∃ wo : World, wo = wr := ⟨_, rfl⟩
      have hout : Hid (¬ (j < ss.length ∧ j < 9)) := hgo
      have key : ∀ (P : Prop), (¬ ((j : Int) < (ss.length : Int)) → P) → (((j : Int) < (ss.length : Int)) → ¬ ((j : Int) < 9) → P) → P := by
        intro P h1 h2
        by_cases a : (j : Int) < (ss.length : Int)
        · exact h2 a (fun c => hgo ⟨by omega, by omega⟩)
        · exact h1 a
      clear hgo
      refine key _ (fun hji => ?_) (fun hji h9 => ?_)
      all_goals
        clear key
        go_wp2_with fail
        go_loopw [3, 5] (fun n i wr => ∃ (j : Nat) (m : Int), i = .int .i64 (j : Int) ∧ n = .int .i64 m ∧ j ≤ ps.length ∧ Blk wr w.heap.size 115 #[.int .i64 x1, .int .i64 x2, .int .i64 x3, .int .i64 x4, .int .i64 x5, .int .i64 x6, .int .i64 x7, .string (bs x8), .slice aA al.length ac, .slice sA ss.length sc, .slice pA ps.length pc] ∧ Below w.heap.size w wr) (fun _ i _ => ps.length - (intOf i).toNat)
        case atStart => exact ⟨0, _, rfl, rfl, by omega, hBx, hbel⟩
        case round =>
          obtain ⟨k, m2, rfl, rfl, hk, hBy, hbel2⟩ := hrel
          have qc_9 : wr.cell? ⟨w.heap.size, 9, none⟩ = some (Value.slice sA ss.length sc) := (hBy.cell 9).trans (show _ = some (Value.slice sA ss.length sc) from rfl)
          have qc_10 : wr.cell? ⟨w.heap.size, 10, none⟩ = some (Value.slice pA ps.length pc) := (hBy.cell 10).trans (show _ = some (Value.slice pA ps.length pc) from rfl)
          have qd_9 : wr.drew.cell? ⟨w.heap.size, 9, none⟩ = some (Value.slice sA ss.length sc) := (hBy.drew.cell 9).trans (show _ = some (Value.slice sA ss.length sc) from rfl)
          have qd_10 : wr.drew.cell? ⟨w.heap.size, 10, none⟩ = some (Value.slice pA ps.length pc) := (hBy.drew.cell 10).trans (show _ = some (Value.slice pA ps.length pc) from rfl)
          by_cases hgo2 : k < ps.length ∧ k < 9
          · obtain ⟨hlt, h9⟩ := hgo2
            have hki : (k : Int) < (ps.length : Int) := by omega
            have h9k : (k : Int) < 9 := by omega
            obtain ⟨b, off, rfl, hbB, hc⟩ := ProofsL.at_ (Rd.below hxp (hbel2.mono hB)) hlt
            have d0 : wr.cell? ⟨b, off + k * 4, none⟩ = some (.slice ps[k].ta ps[k].turns.length ps[k].tc) := hc 0 _ rfl
            have d1 : wr.cell? ⟨b, off + k * 4 + 2, none⟩ = some (.string (bs ps[k].key)) := hc 2 _ rfl
            have d2 : wr.cell? ⟨b, off + k * 4 + 3, none⟩ = some (.string (bs ps[k].value)) := hc 3 _ rfl
            generalize ps[k] = y at *
            clear hc
            go_wp2_with fail
            go_quiet (fail)
            go_wp2_with fail
            go_roundw
            case rel => exact ⟨k + 1, _, by go_num, rfl, by omega, by first | exact hBy.drew | exact hBy | exact hBy.drewN _, by first | exact hbel2.drew | exact hbel2 | exact hbel2.drewN _⟩
            case measure => simp [intOf]; omega
          · by_cases hki : (k : Int) < (ps.length : Int)
            · have h9k : ¬ (k : Int) < 9 := fun c => hgo2 ⟨by omega, by omega⟩
              clear hgo2
              go_wp2_with fail
              go_ret
              exact ⟨_, rfl, hbel2⟩
            · clear hgo2
              go_wp2_with fail
              go_ret
              exact ⟨_, rfl, hbel2⟩
abbrev TxsL (w : World) (B : Nat) (A : Option Addr) (l : List TxD) : Prop := Lay 11 TxD.cells w B A l
theorem TxsL.at_ {w : World} {B : Nat} {A : Option Addr} {l : List TxD} (h : TxsL w B A l) {k : Nat} (hk : k < l.length) :
    ∃ b off, A = some ⟨b, off, none⟩ ∧ b < B ∧ ∀ j u, (l[k].cells)[j]? = some u → w.cell? ⟨b, off + k * 11 + j, none⟩ = some u := Lay.at_ (n := 11) (fun _ => rfl) (by omega) h hk
set_option maxRecDepth 100000 in
set_option maxHeartbeats 1000000 in
theorem heavy_any (l : List TxD) (A : Option Addr) (c B B1 : Nat) (w : World) (hr : TxsL w B1 A l) (hB1 : B1 ≤ w.heap.size) (hd : ∀ x ∈ l, x.held w B) (hB : B ≤ w.heap.size) (hm : l.length ≤ maxLen) :
    Calls Try.prog 9 #[.slice A l.length c] w (SomeB w) := by
  unfold maxLen at hm
  go_enter Try.func9, Try.ntmps9
  go_wp2_with fail
  go_loopw [3, 4] (fun n i wr => ∃ (j : Nat) (m : Int), i = .int .i64 (j : Int) ∧ n = .int .i64 m ∧ j ≤ l.length ∧ Below w.heap.size w wr) (fun _ i _ => l.length - (intOf i).toNat)
  case atStart => exact ⟨0, _, rfl, rfl, by omega, Below.refl _ _⟩
  case round =>
    obtain ⟨j, m, rfl, rfl, hj, hbel⟩ := hrel
    by_cases hlt : j < l.length
    · have hji : (j : Int) < (l.length : Int) := by omega
      by_cases hm2 : m ≤ 65536
      · obtain ⟨b, off, rfl, hbB, hc⟩ := TxsL.at_ (Rd.below hr (hbel.mono hB1)) hlt
        have hx := (hd l[j] (List.getElem_mem hlt)).below (hbel.mono hB)
        generalize l[j] = x at *
        have d0 : wr.cell? ⟨b, off + j * 11, none⟩ = some (.int .i64 x.k) := hc 0 _ rfl
        have d1 : wr.cell? ⟨b, off + j * 11 + 1, none⟩ = some (.int .i64 x.f) := hc 1 _ rfl
        have d2 : wr.cell? ⟨b, off + j * 11 + 2, none⟩ = some (.int .i64 x.n) := hc 2 _ rfl
        have d3 : wr.cell? ⟨b, off + j * 11 + 3, none⟩ = some (.int .i64 x.p) := hc 3 _ rfl
        have d4 : wr.cell? ⟨b, off + j * 11 + 4, none⟩ = some (.int .i64 x.l) := hc 4 _ rfl
        have d5 : wr.cell? ⟨b, off + j * 11 + 5, none⟩ = some (.int .i64 x.t) := hc 5 _ rfl
        have d6 : wr.cell? ⟨b, off + j * 11 + 6, none⟩ = some (.int .i64 x.a) := hc 6 _ rfl
        have d7 : wr.cell? ⟨b, off + j * 11 + 7, none⟩ = some (.string (bs x.text)) := hc 7 _ rfl
        have d8 : wr.cell? ⟨b, off + j * 11 + 8, none⟩ = some (.slice x.aa x.args.length x.ac) := hc 8 _ rfl
        have d9 : wr.cell? ⟨b, off + j * 11 + 9, none⟩ = some (.slice x.sa x.sights.length x.sc) := hc 9 _ rfl
        have d10 : wr.cell? ⟨b, off + j * 11 + 10, none⟩ = some (.slice x.pa x.proofs.length x.pc) := hc 10 _ rfl
        clear hc
        have hsz := hbel.size
        go_wp2_with fail
        refine (weigh_any x B _ hx (by omega)).mono ?_
        rintro e w1 ⟨n, rfl, hb1⟩
        go_wp2_with fail
        go_roundw
        case rel => exact ⟨j + 1, _, by go_num, rfl, by omega, hbel.trans (hb1.mono hsz)⟩
        case measure => simp [intOf]; omega
      · go_wp2_with fail
        go_ret
        exact ⟨_, rfl, hbel⟩
    · have hji : ¬ (j : Int) < (l.length : Int) := by omega
      go_wp2_with fail
      go_ret
      exact ⟨_, rfl, hbel⟩
end Go.Proofs.Ytjjkdmngmopjbaa
