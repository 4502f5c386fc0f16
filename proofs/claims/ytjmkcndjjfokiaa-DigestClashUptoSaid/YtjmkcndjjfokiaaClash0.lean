/- Are two lists of strings, two images alike? Both sides. -/
import Derived.Test.YtjmkcndjjfokiaaProg
import Derived.Test.YtjmkcndjjfokiaaHold5
import Derived.Deep.QuietTactic
import Derived.BigQuiet
namespace Go.Proofs.Ytjmkcndjjfokiaa
open Go.RowKit
theorem lists_stop {l m : List (List UInt8)} (k : Nat) (h1 : k < l.length) (h2 : k < m.length) (h : l[k] ≠ m[k]) : decide (l = m) = false := by
  apply decide_eq_false
  intro e
  subst e
  exact h rfl
theorem lists_all {l m : List (List UInt8)} (hlen : l.length = m.length) (h : ∀ t (h1 : t < l.length) (h2 : t < m.length), l[t] = m[t]) : decide (l = m) = true :=
  decide_eq_true (List.ext_getElem hlen fun t h1 h2 => h t h1 h2)
theorem lists_len {l m : List (List UInt8)} (hlen : l.length ≠ m.length) : decide (l = m) = false := decide_eq_false fun e => hlen (by rw [e])
set_option maxRecDepth 100000 in
set_option maxHeartbeats 1000000 in
theorem eqStrs_any (l m : List (List UInt8)) (A A' : Option Addr) (c c' B B' : Nat) (w : World) (h : Strs w B A l) (h' : Strs w B' A' m) (hB : B ≤ w.heap.size) (hB' : B' ≤ w.heap.size) (hl : l.length ≤ maxLen) (hm : m.length ≤ maxLen) :
    Calls Try.prog 139 #[.slice A l.length c, .slice A' m.length c'] w fun e w' => e = .returned (.bool (decide (l = m))) ∧ Below w.heap.size w w' := by
  unfold maxLen at hl hm
  by_cases hlen : l.length = m.length
  · have hbe : ((l.length : Int) == (m.length : Int)) = true := by simp [hlen]
    have hle1 : l.length ≤ m.length := by omega
    have hle2 : m.length ≤ l.length := by omega
    have HLE := Lib.hid hlen
    clear hlen
    go_enter Try.func139, Try.ntmps139
    go_wp2_with fail
    go_loopw [5, 13] (fun _ i wr => ∃ j : Nat, i = .int .i64 (j : Int) ∧ j ≤ l.length ∧ (∀ t (h1 : t < l.length) (h2 : t < m.length), t < j → l[t] = m[t]) ∧ Below w.heap.size w wr) (fun _ i _ => l.length - (intOf i).toNat)
    case atStart => exact ⟨0, rfl, by omega, fun t _ _ h => absurd h (by omega), Below.refl _ _⟩
    case round =>
      obtain ⟨j, rfl, hj, hall, hb⟩ := hrel
      have HA := Lib.hid hall
      clear hall
      by_cases hlt : j < l.length
      · have hltm : j < m.length := by omega
        have hji : (j : Int) < (l.length : Int) := by omega
        have hjm : (j : Int) < (m.length : Int) := by omega
        obtain ⟨b, off, rfl, hbB, d0⟩ := Strs.at_ (Rd.below h (hb.mono hB)) hlt
        obtain ⟨b', off', rfl, hbB', d1⟩ := Strs.at_ (Rd.below h' (hb.mono hB')) hltm
        have dd0 : wr.drew.cell? ⟨b, off + j, none⟩ = some (.string (bs l[j])) := d0
        have dd1 : wr.drew.cell? ⟨b', off' + j, none⟩ = some (.string (bs m[j])) := d1
        by_cases he : l[j] = m[j]
        · have HE : Hid (∀ t (h1 : t < l.length) (h2 : t < m.length), t < j + 1 → l[t] = m[t]) := fun t h1 h2 h3 => by
            by_cases hq : t = j
            · subst hq; exact he
            · exact HA.out t h1 h2 (by omega)
          rw [he] at d0 dd0
          generalize m[j] = y at *
          clear he
          go_wp2_with fail
          go_quiet (fail)
          go_wp2_with fail
          exact ⟨⟨j + 1, by go_num, by omega, HE.out, hb.drewN _⟩, by simp [intOf]; omega⟩
        · have HS := Lib.hid (lists_stop j hlt hltm he)
          have hne : ¬ bs l[j] = bs m[j] := fun e => he (bs_inj e)
          generalize l[j] = x at *
          generalize m[j] = y at *
          clear he
          go_wp2_with fail
          go_quiet (fail)
          go_wp2_with fail
          all_goals first
            | (go_ret
               exact ⟨ret_bool (by rw [HS.out]), by first | exact hb.drewN _ | exact hb.drew | exact hb⟩)
            | (exfalso; simp_all; done)
      · have hji : ¬ (j : Int) < (l.length : Int) := by omega
        have HS := Lib.hid (lists_all HLE.out fun t h1 h2 => HA.out t h1 h2 (by omega))
        go_wp2_with fail
        go_ret
        exact ⟨ret_bool (by rw [HS.out]), hb⟩
  · have hli : ¬ (l.length : Int) = (m.length : Int) := by omega
    have HS := Lib.hid (lists_len hlen)
    go_enter Try.func139, Try.ntmps139
    go_wp2_with fail
    go_ret
    exact ⟨ret_bool (by rw [HS.out]), Below.refl _ _⟩
def sameI (a b : ImgP) : Bool := decide (a.1 = b.1) && decide (a.2 = b.2)
set_option maxRecDepth 100000 in
set_option maxHeartbeats 1000000 in
theorem same_any (a b : ImgP) (A A' : Option Addr) (c c' B B' : Nat) (w : World) (h : Strs w B A a.2) (h' : Strs w B' A' b.2) (hB : B ≤ w.heap.size) (hB' : B' ≤ w.heap.size) (hl : a.2.length ≤ maxLen) (hm : b.2.length ≤ maxLen) :
    Calls Try.prog 90 #[.agg #[.int .i64 a.1, .slice A a.2.length c], .agg #[.int .i64 b.1, .slice A' b.2.length c']] w fun e w' => e = .returned (.bool (sameI a b)) ∧ Below w.heap.size w w' := by
  have hS : Hid (sameI a b = (decide (a.1 = b.1) && decide (a.2 = b.2))) := rfl
  obtain ⟨a1, a2⟩ := a
  obtain ⟨b1, b2⟩ := b
  dsimp only at *
  have hbel : Below w.heap.size w ((w.alloc (.cells #[.int .i64 a1, .slice A a2.length c] 45)).alloc (.cells #[.int .i64 b1, .slice A' b2.length c'] 45)) := ((Below.refl _ _).alloc (Nat.le_refl _) _).alloc (by simp) _
  have he := eqStrs_any a2 b2 A A' c c' B B' _ (Rd.below h (hbel.mono hB)) (Rd.below h' (hbel.mono hB')) (Nat.le_trans hB hbel.size) (Nat.le_trans hB' hbel.size) hl hm
  by_cases h1 : a1 = b1
  · subst h1
    go_enter Try.func90, Try.ntmps90
    go_wp2_with fail
    refine he.mono ?_
    rintro e w1 ⟨rfl, hb1⟩
    go_wp2_with fail
    go_ret
    exact ⟨ret_bool (by rw [hS.out]; simp), hbel.trans (hb1.mono hbel.size)⟩
  · have h1b : (a1 == b1) = false := by simpa using h1
    have h1d : decide (a1 = b1) = false := by simpa using h1
    go_enter Try.func90, Try.ntmps90
    go_wp2_with fail
    go_ret
    exact ⟨ret_bool (by rw [hS.out]; simp [h1]), hbel⟩
set_option maxRecDepth 100000 in
set_option maxHeartbeats 2000000 in
theorem sameImage_any (a b : ImgP) (A A' : Option Addr) (c c' B B' : Nat) (w : World) (h : Strs w B A a.2) (h' : Strs w B' A' b.2) (hB : B ≤ w.heap.size) (hB' : B' ≤ w.heap.size) (hl : a.2.length ≤ maxLen) (hm : b.2.length ≤ maxLen) :
    Calls Try.prog 29 #[.agg #[.int .i64 a.1, .slice A a.2.length c], .agg #[.int .i64 b.1, .slice A' b.2.length c']] w fun e w' => e = .returned (.bool (sameI a b)) ∧ Below w.heap.size w w' := by
  have hS : Hid (sameI a b = (decide (a.1 = b.1) && decide (a.2 = b.2))) := rfl
  obtain ⟨a1, l⟩ := a
  obtain ⟨b1, m⟩ := b
  dsimp only at *
  unfold maxLen at hl hm
  by_cases h1 : a1 = b1
  · subst h1
    by_cases hlen : l.length = m.length
    · have hbe : ((l.length : Int) == (m.length : Int)) = true := by simp [hlen]
      have hle1 : l.length ≤ m.length := by omega
      have hle2 : m.length ≤ l.length := by omega
      have hN : Blk ((w.alloc (.cells #[.int .i64 a1, .slice A l.length c] 45)).alloc (.cells #[.int .i64 a1, .slice A' m.length c'] 45)) (w.heap.size + 1) 45 #[.int .i64 a1, .slice A' m.length c'] := by
        have hN := Blk.new (w.alloc (.cells #[.int .i64 a1, .slice A l.length c] 45)) 45 #[.int .i64 a1, .slice A' m.length c']
        simpa using hN
      have HLE := Lib.hid hlen
      clear hlen
      go_enter Try.func29, Try.ntmps29
      go_wp2_with fail
      go_loopw [5] (fun i wr => ∃ j : Nat, i = .int .i64 (j : Int) ∧ j ≤ l.length ∧ (∀ t (h1 : t < l.length) (h2 : t < m.length), t < j → l[t] = m[t]) ∧ Blk wr w.heap.size 45 #[.int .i64 a1, .slice A l.length c] ∧ Blk wr (w.heap.size + 1) 45 #[.int .i64 a1, .slice A' m.length c'] ∧ Below w.heap.size w wr) (fun i _ => l.length - (intOf i).toNat)
      case atStart => exact ⟨0, rfl, by omega, fun t _ _ h => absurd h (by omega), (Blk.new _ _ _).alloc _, hN, ((Below.refl _ _).alloc (Nat.le_refl _) _).alloc (by simp) _⟩
      case round =>
        obtain ⟨j, rfl, hj, hall, hb0, hb1, hb⟩ := hrel
        have HA := Lib.hid hall
        clear hall hN
        have p1 := (hb0.cell 1).trans (show _ = some (Value.slice A l.length c) from rfl)
        by_cases hlt : j < l.length
        · have hltm : j < m.length := by omega
          have hji : (j : Int) < (l.length : Int) := by omega
          have hjm : (j : Int) < (m.length : Int) := by omega
          obtain ⟨b, off, rfl, hbB, d0⟩ := Strs.at_ (Rd.below h (hb.mono hB)) hlt
          obtain ⟨b', off', rfl, hbB', d1⟩ := Strs.at_ (Rd.below h' (hb.mono hB')) hltm
          have dd0 : wr.drew.cell? ⟨b, off + j, none⟩ = some (.string (bs l[j])) := d0
          have dd1 : wr.drew.cell? ⟨b', off' + j, none⟩ = some (.string (bs m[j])) := d1
          have pw2 := (hb1.cell 1).trans (show _ = some (Value.slice (some ⟨b', off', none⟩) m.length c') from rfl)
          have pd1 : wr.drew.cell? ⟨w.heap.size, 1, none⟩ = some (Value.slice (some ⟨b, off, none⟩) l.length c) := (hb0.drew.cell 1).trans (show _ = some (Value.slice (some ⟨b, off, none⟩) l.length c) from rfl)
          have pd2 : wr.drew.cell? ⟨w.heap.size + 1, 1, none⟩ = some (Value.slice (some ⟨b', off', none⟩) m.length c') := (hb1.drew.cell 1).trans (show _ = some (Value.slice (some ⟨b', off', none⟩) m.length c') from rfl)
          by_cases he : l[j] = m[j]
          · have HE : Hid (∀ t (h1 : t < l.length) (h2 : t < m.length), t < j + 1 → l[t] = m[t]) := fun t h1 h2 h3 => by
              by_cases hq : t = j
              · subst hq; exact he
              · exact HA.out t h1 h2 (by omega)
            rw [he] at d0 dd0
            generalize m[j] = y at *
            clear he
            go_wp2_with fail
            go_quiet (fail)
            go_wp2_with fail
            go_roundw
            case rel => exact ⟨j + 1, by go_num, by omega, HE.out, by first | exact hb0.drewN _ | exact hb0.drew | exact hb0, by first | exact hb1.drewN _ | exact hb1.drew | exact hb1, by first | exact hb.drewN _ | exact hb.drew | exact hb⟩
            case measure => simp [intOf]; omega
          · have HS := Lib.hid (lists_stop j hlt hltm he)
            have hne : ¬ bs l[j] = bs m[j] := fun e => he (bs_inj e)
            generalize l[j] = x at *
            generalize m[j] = y at *
            clear he
            go_wp2_with fail
            go_quiet (fail)
            go_wp2_with fail
            all_goals first
              | (go_ret
                 exact ⟨ret_bool (by rw [hS.out, HS.out]; simp), by first | exact hb.drewN _ | exact hb.drew | exact hb⟩)
              | (exfalso; simp_all; done)
        · have hji : ¬ (j : Int) < (l.length : Int) := by omega
          have HS := Lib.hid (lists_all HLE.out fun t h1 h2 => HA.out t h1 h2 (by omega))
          go_wp2_with fail
          go_ret
          exact ⟨ret_bool (by rw [hS.out, HS.out]; simp), hb⟩
    · have hli : ¬ (l.length : Int) = (m.length : Int) := by omega
      have HS := Lib.hid (lists_len hlen)
      go_enter Try.func29, Try.ntmps29
      go_wp2_with fail
      go_ret
      exact ⟨ret_bool (by rw [hS.out, HS.out]; simp), ((Below.refl _ _).alloc (Nat.le_refl _) _).alloc (by simp) _⟩
  · have h1b : (a1 == b1) = false := by simpa using h1
    have h1d : decide (a1 = b1) = false := by simpa using h1
    go_enter Try.func29, Try.ntmps29
    go_wp2_with fail
    go_ret
    exact ⟨ret_bool (by rw [hS.out]; simp [h1]), ((Below.refl _ _).alloc (Nat.le_refl _) _).alloc (by simp) _⟩
end Go.Proofs.Ytjmkcndjjfokiaa
