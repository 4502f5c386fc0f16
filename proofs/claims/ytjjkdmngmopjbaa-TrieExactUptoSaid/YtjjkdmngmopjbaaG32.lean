/- Of the texts Dig6, Hold3, Hold4, Hold5, Clash0, Clash1, Clash2. -/
import Derived.Test.YtjjkdmngmopjbaaProg
import Derived.Test.YtjjkdmngmopjbaaG02
import Derived.Test.YtjjkdmngmopjbaaG20
import Derived.Test.YtjjkdmngmopjbaaG31
import Derived.Test.YtjjkdmngmopjbaaG10
import Derived.Test.YtjjkdmngmopjbaaG11
import Derived.Deep.RegionLaw
import Derived.Deep.QuietTactic
import Derived.BigQuiet
namespace Go.Proofs.Ytjjkdmngmopjbaa
open Go.RowKit
section
open Go.ChangeShapes Go.WideShapes Go.ChangeAt Go.Deep
variable {H : Type} {enc : TypeId × Value → H} {W : World}
set_option maxRecDepth 100000 in
theorem open_strs {v : Value} {d : DataW H} {p : List MemPlace} (hv : Value.okWide Try.prog W .any 0 104 v) (h : DataW.Trod enc Try.prog W 0 (fun _ => true) true 104 v d p) :
    ∃ A c l, v = .slice A l.length c ∧ l.length ≤ c ∧ c ≤ maxLen ∧ Strs W W.heap.size A l ∧ Short l := by
  obtain ⟨fuel, hf⟩ := h
  obtain ⟨a, len, cap, rfl⟩ := okWide_slice Try.underlying104 hv
  obtain ⟨l, hl⟩ := slOf_of_trod (size := 1) (R := IsStr) Try.underlying104 (by kernel_rfl) (by omega) str_trod _ _ _ hf
  obtain ⟨A, c, e, h1, h2, h3, h4⟩ := hl.flat (fun s => [.string (bs s)]) (fun _ _ hx => hx.1)
  simp [Value.cells] at e
  obtain ⟨rfl, rfl, rfl⟩ := e
  refine ⟨_, _, l, rfl, h1, h2, ?_, fun s hs => ?_⟩
  · rw [flatMap_one] at h3
    exact h3
  · obtain ⟨cs, hc⟩ := h4 s hs
    exact hc.2
end
/-- what 'sum' reckons: lengths, put together as the machine's numbers are -/
def sumW : List (List UInt8) → Int → Int
  | [], n => n
  | s :: r, n => if n ≤ 65536 then sumW r (IntKind.i64.wrap (n + (s.length : Int))) else n
theorem sumW_big (l : List (List UInt8)) (n : Int) (h : ¬ n ≤ 65536) : sumW l n = n := by
  cases l with
  | nil => rfl
  | cons s r => rw [sumW, if_neg h]
theorem sumW_step (l : List (List UInt8)) (k : Nat) (n : Int) (hk : k < l.length) (hn : n ≤ 65536) : sumW (l.drop k) n = sumW (l.drop (k + 1)) (IntKind.i64.wrap (n + (l[k].length : Int))) := by
  rw [List.drop_eq_getElem_cons hk, sumW, if_pos hn]
theorem sumW_end (l : List (List UInt8)) (k : Nat) (n : Int) (h : ¬ (k < l.length ∧ n ≤ 65536)) : sumW (l.drop k) n = n := by
  by_cases hk : k < l.length
  · exact sumW_big _ _ fun hn => h ⟨hk, hn⟩
  · rw [List.drop_eq_nil_of_le (by omega)]; rfl
theorem digs_at {w : World} {B : Nat} {A : Option Addr} {ds : List Int} (h : Rd w B 1 A ds.length (digs ds)) {k : Nat} (hk : k < ds.length) : ∃ b off, A = some ⟨b, off, none⟩ ∧ b < B ∧ w.cell? ⟨b, off + k, none⟩ = some (.int .u64 ds[k]) := by
  obtain ⟨b, off, u, rfl, hb, hx, hc⟩ := Rd.at_ (j := 0) h hk (by omega)
  simp [digs, List.getElem?_eq_getElem hk] at hx
  subst hx
  exact ⟨b, off, rfl, hb, by simpa using hc⟩
end Go.Proofs.Ytjjkdmngmopjbaa

namespace Go.Proofs.Ytjjkdmngmopjbaa
open Go.RowKit
theorem be2_short (a b : Int) : Short [be a 8, be b 8] := by
  intro p hp
  simp at hp
  rcases hp with rfl | rfl <;> exact be8_short _
end Go.Proofs.Ytjjkdmngmopjbaa

namespace Go.Proofs.Ytjjkdmngmopjbaa
open Go.RowKit
/-- the first loop of up leaves the ways -/
def UpAns (w : World) (wd : Int) (s : List UInt8) (n : Nat) (ways : List Bool) (ds : List Int) (e : Ending) (w' : World) : Prop :=
  if ways.length = ds.length then ∃ v xs, e = .returned (.tuple #[v, .bool true]) ∧ w'.ownsRow w.heap.size 106 2 v (ds.length + 2) xs ∧ Imgs w.heap.size w' v.ownBlock xs (imgsS wd s n ways ds) ∧ Below w.heap.size w w'
  else e = .returned (.tuple #[.slice none 0 0, .bool false]) ∧ Below w.heap.size w w'
end Go.Proofs.Ytjjkdmngmopjbaa

namespace Go.Proofs.Ytjjkdmngmopjbaa
open Go.RowKit
theorem riteF_len : ∀ (f n a : Nat), (riteF f n a).length ≤ f
  | 0, _, _ => by simp [riteF]
  | f + 1, n, a => by
    rw [riteF]
    split
    · simp
    · split
      · have := riteF_len f (halfS n) a; simp; omega
      · have := riteF_len f (n - halfS n) (a - halfS n); simp; omega
def wayS (n a : Int) : List Bool := riteF n.toNat n.toNat a.toNat
def okP (n a : Int) (ds : List Int) : Bool := decide (0 ≤ a) && decide (a < n) && decide (n ≤ 1099511627775) && decide ((wayS n a).length = ds.length)
def peakS (wd : Int) (s : List UInt8) (n a : Int) (ds : List Int) : Int := ofS wd 2 [be n 5, be (climb wd (ofS wd 0 [s]) (wayS n a) ds) 8]
def holdsS (wd root : Int) (s : List UInt8) (n a : Int) (ds : List Int) : Bool := okP n a ds && (peakS wd s n a ds == root)
/-- what both sides' lists of images are -/
def ImgsAns (w : World) (wd : Int) (s : List UInt8) (n a : Int) (ds : List Int) (e : Ending) (w' : World) : Prop :=
  (okP n a ds = true → ∃ v xs, e = .returned (.tuple #[v, .bool true]) ∧ w'.ownsRow w.heap.size 106 2 v (ds.length + 2) xs ∧ Imgs w.heap.size w' v.ownBlock xs (imgsS wd s n (wayS n a) ds) ∧ Below w.heap.size w w') ∧
  (okP n a ds = false → e = .returned (.tuple #[.slice none 0 0, .bool false]) ∧ Below w.heap.size w w')
theorem okP_cases (n a : Int) (ds : List Int) : (okP n a ds = false ∧ (a < 0 ∨ n ≤ a ∨ 1099511627775 < n)) ∨ (∃ N K : Nat, n = (N : Int) ∧ a = (K : Int) ∧ K < N ∧ N ≤ 1099511627775 ∧ wayS n a = riteF N N K ∧ ((okP n a ds = true ∧ (wayS n a).length = ds.length) ∨ (okP n a ds = false ∧ (wayS n a).length ≠ ds.length))) := by
  by_cases h : a < 0 ∨ n ≤ a ∨ 1099511627775 < n
  · refine .inl ⟨?_, h⟩
    unfold okP
    rcases h with h | h | h
    · have : decide (0 ≤ a) = false := decide_eq_false (by omega)
      simp [this]
    · have : decide (a < n) = false := decide_eq_false (by omega)
      simp [this]
    · have : decide (n ≤ 1099511627775) = false := decide_eq_false (by omega)
      simp [this]
  · refine .inr ⟨n.toNat, a.toNat, by omega, by omega, by omega, by omega, rfl, ?_⟩
    by_cases hl : (wayS n a).length = ds.length
    · exact .inl ⟨by unfold okP; simp [hl]; omega, hl⟩
    · exact .inr ⟨by unfold okP; simp [hl], hl⟩
theorem two_short (n d : Int) : Short [be n 5, be d 8] := by
  intro p hp
  simp at hp
  rcases hp with rfl | rfl
  · rw [be_len]; simp [maxLen]
  · exact be8_short _
end Go.Proofs.Ytjjkdmngmopjbaa

namespace Go.Proofs.Ytjjkdmngmopjbaa
open Go.RowKit
theorem lists_stop {l m : List (List UInt8)} (k : Nat) (h1 : k < l.length) (h2 : k < m.length) (h : l[k] ≠ m[k]) : decide (l = m) = false := by
  apply decide_eq_false
  intro e
  subst e
  exact h rfl
theorem lists_all {l m : List (List UInt8)} (hlen : l.length = m.length) (h : ∀ t (h1 : t < l.length) (h2 : t < m.length), l[t] = m[t]) : decide (l = m) = true :=
  decide_eq_true (List.ext_getElem hlen fun t h1 h2 => h t h1 h2)
theorem lists_len {l m : List (List UInt8)} (hlen : l.length ≠ m.length) : decide (l = m) = false := decide_eq_false fun e => hlen (by rw [e])
set_option maxRecDepth 100000 in
set_option maxHeartbeats 1000000 in
theorem eqStrs_any (l m : List (List UInt8)) (A A' : Option Addr) (c c' B B' : Nat) (w : World) (h : Strs w B A l) (h' : Strs w B' A' m) (hB : B ≤ w.heap.size) (hB' : B' ≤ w.heap.size) (hl : l.length ≤ maxLen) (hm : m.length ≤ maxLen) :
    Calls Try.prog 86 #[.slice A l.length c, .slice A' m.length c'] w fun e w' => e = .returned (.bool (decide (l = m))) ∧ Below w.heap.size w w' := by
  unfold maxLen at hl hm
  by_cases hlen : l.length = m.length
  · have hbe : ((l.length : Int) == (m.length : Int)) = true := by simp [hlen]
    have hle1 : l.length ≤ m.length := by omega
    have hle2 : m.length ≤ l.length := by omega
    have HLE := Lib.hid hlen
    clear hlen
    go_enter Try.func86, Try.ntmps86
    go_wp2_with fail
    go_loopw [5, 13] (fun _ i wr => ∃ j : Nat, i = .int .i64 (j : Int) ∧ j ≤ l.length ∧ (∀ t (h1 : t < l.length) (h2 : t < m.length), t < j → l[t] = m[t]) ∧ Below w.heap.size w wr) (fun _ i _ => l.length - (intOf i).toNat)
    case atStart => exact ⟨0, rfl, by omega, fun t _ _ h => absurd h (by omega), Below.refl _ _⟩
    case round =>
      obtain ⟨j, rfl, hj, hall, hb⟩ := hrel
      have HA := Lib.hid hall
      clear hall
      by_cases hlt : j < l.length
      · have hltm : j < m.length := by omega
        have hji : (j : Int) < (l.length : Int) := by omega
        have hjm : (j : Int) < (m.length : Int) := by omega
        obtain ⟨b, off, rfl, hbB, d0⟩ := Strs.at_ (Rd.below h (hb.mono hB)) hlt
        obtain ⟨b', off', rfl, hbB', d1⟩ := Strs.at_ (Rd.below h' (hb.mono hB')) hltm
        have dd0 : wr.drew.cell? ⟨b, off + j, none⟩ = some (.string (bs l[j])) := d0
        have dd1 : wr.drew.cell? ⟨b', off' + j, none⟩ = some (.string (bs m[j])) := d1
        by_cases he : l[j] = m[j]
        · have HE : Hid (∀ t (h1 : t < l.length) (h2 : t < m.length), t < j + 1 → l[t] = m[t]) := fun t h1 h2 h3 => by
            by_cases hq : t = j
            · subst hq; exact he
            · exact HA.out t h1 h2 (by omega)
          rw [he] at d0 dd0
          generalize m[j] = y at *
          clear he
          go_wp2_with fail
          go_quiet (fail)
          go_wp2_with fail
          exact ⟨⟨j + 1, by go_num, by omega, HE.out, hb.drewN _⟩, by simp [intOf]; omega⟩
        · have HS := Lib.hid (lists_stop j hlt hltm he)
          have hne : ¬ bs l[j] = bs m[j] := fun e => he (bs_inj e)
          generalize l[j] = x at *
          generalize m[j] = y at *
          clear he
          go_wp2_with fail
          go_quiet (fail)
          go_wp2_with fail
          all_goals first
            | (go_ret
               exact ⟨ret_bool (by rw [HS.out]), by first | exact hb.drewN _ | exact hb.drew | exact hb⟩)
            | (exfalso; simp_all; done)
      · have hji : ¬ (j : Int) < (l.length : Int) := by omega
        have HS := Lib.hid (lists_all HLE.out fun t h1 h2 => HA.out t h1 h2 (by omega))
        go_wp2_with fail
        go_ret
        exact ⟨ret_bool (by rw [HS.out]), hb⟩
  · have hli : ¬ (l.length : Int) = (m.length : Int) := by omega
    have HS := Lib.hid (lists_len hlen)
    go_enter Try.func86, Try.ntmps86
    go_wp2_with fail
    go_ret
    exact ⟨ret_bool (by rw [HS.out]), Below.refl _ _⟩
def sameI (a b : ImgP) : Bool := decide (a.1 = b.1) && decide (a.2 = b.2)
set_option maxRecDepth 100000 in
set_option maxHeartbeats 2000000 in
theorem sameImage_any (a b : ImgP) (A A' : Option Addr) (c c' B B' : Nat) (w : World) (h : Strs w B A a.2) (h' : Strs w B' A' b.2) (hB : B ≤ w.heap.size) (hB' : B' ≤ w.heap.size) (hl : a.2.length ≤ maxLen) (hm : b.2.length ≤ maxLen) :
    Calls Try.prog 47 #[.agg #[.int .i64 a.1, .slice A a.2.length c], .agg #[.int .i64 b.1, .slice A' b.2.length c']] w fun e w' => e = .returned (.bool (sameI a b)) ∧ Below w.heap.size w w' := by
  have hS : Hid (sameI a b = (decide (a.1 = b.1) && decide (a.2 = b.2))) := rfl
  obtain ⟨a1, l⟩ := a
  obtain ⟨b1, m⟩ := b
  dsimp only at *
  unfold maxLen at hl hm
  by_cases h1 : a1 = b1
  · subst h1
    by_cases hlen : l.length = m.length
    · have hbe : ((l.length : Int) == (m.length : Int)) = true := by simp [hlen]
      have hle1 : l.length ≤ m.length := by omega
      have hle2 : m.length ≤ l.length := by omega
      have hN : Blk ((w.alloc (.cells #[.int .i64 a1, .slice A l.length c] 106)).alloc (.cells #[.int .i64 a1, .slice A' m.length c'] 106)) (w.heap.size + 1) 106 #[.int .i64 a1, .slice A' m.length c'] := by
        have hN := Blk.new (w.alloc (.cells #[.int .i64 a1, .slice A l.length c] 106)) 106 #[.int .i64 a1, .slice A' m.length c']
        simpa using hN
      have HLE := Lib.hid hlen
      clear hlen
      go_enter Try.func47, Try.ntmps47
      go_wp2_with fail
      go_loopw [5] (fun i wr => ∃ j : Nat, i = .int .i64 (j : Int) ∧ j ≤ l.length ∧ (∀ t (h1 : t < l.length) (h2 : t < m.length), t < j → l[t] = m[t]) ∧ Blk wr w.heap.size 106 #[.int .i64 a1, .slice A l.length c] ∧ Blk wr (w.heap.size + 1) 106 #[.int .i64 a1, .slice A' m.length c'] ∧ Below w.heap.size w wr) (fun i _ => l.length - (intOf i).toNat)
      case atStart => exact ⟨0, rfl, by omega, fun t _ _ h => absurd h (by omega), (Blk.new _ _ _).alloc _, hN, ((Below.refl _ _).alloc (Nat.le_refl _) _).alloc (by simp) _⟩
      case round =>
        obtain ⟨j, rfl, hj, hall, hb0, hb1, hb⟩ := hrel
        have HA := Lib.hid hall
        clear hall hN
        have p1 := (hb0.cell 1).trans (show _ = some (Value.slice A l.length c) from rfl)
        by_cases hlt : j < l.length
        · have hltm : j < m.length := by omega
          have hji : (j : Int) < (l.length : Int) := by omega
          have hjm : (j : Int) < (m.length : Int) := by omega
          obtain ⟨b, off, rfl, hbB, d0⟩ := Strs.at_ (Rd.below h (hb.mono hB)) hlt
          obtain ⟨b', off', rfl, hbB', d1⟩ := Strs.at_ (Rd.below h' (hb.mono hB')) hltm
          have dd0 : wr.drew.cell? ⟨b, off + j, none⟩ = some (.string (bs l[j])) := d0
          have dd1 : wr.drew.cell? ⟨b', off' + j, none⟩ = some (.string (bs m[j])) := d1
          have pw2 := (hb1.cell 1).trans (show _ = some (Value.slice (some ⟨b', off', none⟩) m.length c') from rfl)
          have pd1 : wr.drew.cell? ⟨w.heap.size, 1, none⟩ = some (Value.slice (some ⟨b, off, none⟩) l.length c) := (hb0.drew.cell 1).trans (show _ = some (Value.slice (some ⟨b, off, none⟩) l.length c) from rfl)
          have pd2 : wr.drew.cell? ⟨w.heap.size + 1, 1, none⟩ = some (Value.slice (some ⟨b', off', none⟩) m.length c') := (hb1.drew.cell 1).trans (show _ = some (Value.slice (some ⟨b', off', none⟩) m.length c') from rfl)
          by_cases he : l[j] = m[j]
          · have HE : Hid (∀ t (h1 : t < l.length) (h2 : t < m.length), t < j + 1 → l[t] = m[t]) := fun t h1 h2 h3 => by
              by_cases hq : t = j
              · subst hq; exact he
              · exact HA.out t h1 h2 (by omega)
            rw [he] at d0 dd0
            generalize m[j] = y at *
            clear he
            go_wp2_with fail
            go_quiet (fail)
            go_wp2_with fail
            go_roundw
            case rel => exact ⟨j + 1, by go_num, by omega, HE.out, by first | exact hb0.drewN _ | exact hb0.drew | exact hb0, by first | exact hb1.drewN _ | exact hb1.drew | exact hb1, by first | exact hb.drewN _ | exact hb.drew | exact hb⟩
            case measure => simp [intOf]; omega
          · have HS := Lib.hid (lists_stop j hlt hltm he)
            have hne : ¬ bs l[j] = bs m[j] := fun e => he (bs_inj e)
            generalize l[j] = x at *
            generalize m[j] = y at *
            clear he
            go_wp2_with fail
            go_quiet (fail)
            go_wp2_with fail
            all_goals first
              | (go_ret
                 exact ⟨ret_bool (by rw [hS.out, HS.out]; simp), by first | exact hb.drewN _ | exact hb.drew | exact hb⟩)
              | (exfalso; simp_all; done)
        · have hji : ¬ (j : Int) < (l.length : Int) := by omega
          have HS := Lib.hid (lists_all HLE.out fun t h1 h2 => HA.out t h1 h2 (by omega))
          go_wp2_with fail
          go_ret
          exact ⟨ret_bool (by rw [hS.out, HS.out]; simp), hb⟩
    · have hli : ¬ (l.length : Int) = (m.length : Int) := by omega
      have HS := Lib.hid (lists_len hlen)
      go_enter Try.func47, Try.ntmps47
      go_wp2_with fail
      go_ret
      exact ⟨ret_bool (by rw [hS.out, HS.out]; simp), ((Below.refl _ _).alloc (Nat.le_refl _) _).alloc (by simp) _⟩
  · have h1b : (a1 == b1) = false := by simpa using h1
    have h1d : decide (a1 = b1) = false := by simpa using h1
    go_enter Try.func47, Try.ntmps47
    go_wp2_with fail
    go_ret
    exact ⟨ret_bool (by rw [hS.out]; simp [h1]), ((Below.refl _ _).alloc (Nat.le_refl _) _).alloc (by simp) _⟩
end Go.Proofs.Ytjjkdmngmopjbaa

namespace Go.Proofs.Ytjjkdmngmopjbaa
open Go.RowKit
theorem byte_inj {a b : Int} (ha : 0 ≤ a ∧ a < 256) (hb : 0 ≤ b ∧ b < 256) (h : UInt8.ofNat a.toNat = UInt8.ofNat b.toNat) : a = b := by
  have h1 := congrArg UInt8.toNat h
  simp only [UInt8.toNat_ofNat'] at h1
  have e1 : a.toNat % 2 ^ 8 = a.toNat := Nat.mod_eq_of_lt (by omega)
  have e2 : b.toNat % 2 ^ 8 = b.toNat := Nat.mod_eq_of_lt (by omega)
  rw [e1, e2] at h1
  omega
theorem mod_two (x m : Int) (hm : 0 < m) : x % (m * 256) = (x / m % 256) * m + x % m := by
  have a1 := Int.emod_add_mul_ediv x m
  have a2 := Int.emod_add_mul_ediv (x / m) 256
  have r1 := Int.emod_nonneg x (show m ≠ 0 by omega)
  have r2 := Int.emod_lt_of_pos x hm
  have q1 := Int.emod_nonneg (x / m) (show (256 : Int) ≠ 0 by omega)
  have q2 := Int.emod_lt_of_pos (x / m) (show (0 : Int) < 256 by omega)
  have h4 : x = ((x / m % 256) * m + x % m) + (m * 256) * (x / m / 256) := by grind
  have l1 : (x / m % 256) * m ≤ 255 * m := Int.mul_le_mul_of_nonneg_right (by omega) (by omega)
  have l2 : 0 ≤ (x / m % 256) * m := Int.mul_nonneg q1 (by omega)
  conv => lhs; rw [h4]
  rw [Int.add_mul_emod_self_left]
  exact Int.emod_eq_of_lt (by omega) (by omega)
/-- what k bytes of a number say, the number holds modulo 256 to the k -/
theorem be_mod : ∀ (k : Nat) (a b : Int), be a k = be b k → a % 256 ^ k = b % 256 ^ k
  | 0, a, b, _ => by simp [Int.emod_one]
  | k + 1, a, b, h => by
    simp only [be, List.cons.injEq] at h
    obtain ⟨h1, h2⟩ := h
    have e := byte_inj ⟨Int.emod_nonneg _ (by omega), Int.emod_lt_of_pos _ (by omega)⟩ ⟨Int.emod_nonneg _ (by omega), Int.emod_lt_of_pos _ (by omega)⟩ h1
    have i := be_mod k a b h2
    have hp : (0 : Int) < 256 ^ k := Int.pow_pos (by omega)
    have key : ∀ x : Int, x % 256 ^ (k + 1) = (x / 256 ^ k % 256) * 256 ^ k + x % 256 ^ k := by
      intro x
      rw [Int.pow_succ 256 k]
      exact mod_two x _ hp
    rw [key, key, e, i]
theorem be_inj {a b : Int} {k : Nat} (ha : 0 ≤ a ∧ a < 256 ^ k) (hb : 0 ≤ b ∧ b < 256 ^ k) (h : be a k = be b k) : a = b := by
  have := be_mod k a b h
  rw [Int.emod_eq_of_lt ha.1 ha.2, Int.emod_eq_of_lt hb.1 hb.2] at this
  exact this
theorem be8_inj {a b : Int} (ha : 0 ≤ a ∧ a < 18446744073709551616) (hb : 0 ≤ b ∧ b < 18446744073709551616) (h : be a 8 = be b 8) : a = b := be_inj (k := 8) (by simpa using ha) (by simpa using hb) h
/-- the first two that are unlike -/
def unl : List ImgP → List ImgP → Option (ImgP × ImgP)
  | a :: r, b :: s => if sameI a b then unl r s else some (a, b)
  | _, _ => none
/-- the images from the top down to the leaf -/
def downS (w : Int) (s : List UInt8) : List Bool → List Int → List ImgP
  | r :: rs, x :: xs => (1, pairS r x (climb w (ofS w 0 [s]) rs xs)) :: downS w s rs xs
  | _, _ => [(0, [s])]
theorem downS_rev (w : Int) (s : List UInt8) : ∀ (ways : List Bool) (ds : List Int), (((0, [s]) : ImgP) :: clims w (ofS w 0 [s]) ways ds).reverse = downS w s ways ds
  | [], ds => by simp [clims, downS]
  | r :: rs, [] => by simp [clims, downS]
  | r :: rs, x :: xs => by
    have i := downS_rev w s rs xs
    simp only [clims, downS, ← List.cons_append, List.reverse_append, List.reverse_cons, List.reverse_nil, List.nil_append, List.singleton_append] at i ⊢
    rw [← i]
    rfl
theorem sameI_eq {a b : ImgP} (h : sameI a b = true) : a = b := by
  obtain ⟨a1, a2⟩ := a
  obtain ⟨b1, b2⟩ := b
  simp [sameI] at h
  obtain ⟨rfl, rfl⟩ := h
  rfl
theorem unl_down (w : Int) (s t : List UInt8) (hst : s ≠ t) : ∀ (ways : List Bool) (ds ds' : List Int), ways.length = ds.length → ways.length = ds'.length → climb w (ofS w 0 [s]) ways ds = climb w (ofS w 0 [t]) ways ds' →
    ∃ a b, unl (downS w s ways ds) (downS w t ways ds') = some (a, b) ∧ ofS w a.1 a.2 = ofS w b.1 b.2 ∧ sameI a b = false
  | [], [], [], _, _, h => by
    have hne : sameI (0, [s]) (0, [t]) = false := by simp [sameI, hst]
    refine ⟨(0, [s]), (0, [t]), ?_, h, hne⟩
    rw [downS, downS, unl, hne]
    rfl
    all_goals simp
  | r :: rs, x :: xs, y :: ys, h1, h2, h => by
    have bs1 := climb_bd w (ofS w 0 [s]) (by have := ofS_bd w 0 [s]; omega) rs xs
    have bs2 := climb_bd w (ofS w 0 [t]) (by have := ofS_bd w 0 [t]; omega) rs ys
    have e1 := climb_step w (ofS w 0 [s]) (r :: rs) (x :: xs) 0 (by simp) (by simp)
    have e2 := climb_step w (ofS w 0 [t]) (r :: rs) (y :: ys) 0 (by simp) (by simp)
    simp only [List.drop_zero, List.getElem_cons_zero, Nat.zero_add, List.drop_succ_cons] at e1 e2
    rw [e1, e2] at h
    cases hs : sameI (1, pairS r x (climb w (ofS w 0 [s]) rs xs)) (1, pairS r y (climb w (ofS w 0 [t]) rs ys))
    · refine ⟨(1, pairS r x (climb w (ofS w 0 [s]) rs xs)), (1, pairS r y (climb w (ofS w 0 [t]) rs ys)), ?_, h, hs⟩
      rw [downS, downS, unl, hs]
      rfl
    · have hp := congrArg Prod.snd (sameI_eq hs)
      have hc : climb w (ofS w 0 [s]) rs xs = climb w (ofS w 0 [t]) rs ys := by
        cases r
        · simp only [pairS, Bool.false_eq_true, if_false, List.cons.injEq] at hp
          exact be8_inj bs1 bs2 hp.1
        · simp only [pairS, if_true, List.cons.injEq] at hp
          exact be8_inj bs1 bs2 hp.2.1
      obtain ⟨a, b, i1, i2, i3⟩ := unl_down w s t hst rs xs ys (by simpa using h1) (by simpa using h2) hc
      refine ⟨a, b, ?_, i2, i3⟩
      rw [downS, downS, unl, hs]
      exact i1
  | [], _ :: _, _, h1, _, _ => by simp at h1
  | [], [], _ :: _, _, h2, _ => by simp at h2
  | _ :: _, [], _, h1, _, _ => by simp at h1
  | _ :: _, _ :: _, [], _, h2, _ => by simp at h2
end Go.Proofs.Ytjjkdmngmopjbaa

namespace Go.Proofs.Ytjjkdmngmopjbaa
open Go.RowKit
theorem imgsS_rev (w : Int) (s : List UInt8) (n : Int) (ways : List Bool) (ds : List Int) : (imgsS w s n ways ds).reverse = (2, [be n 5, be (climb w (ofS w 0 [s]) ways ds) 8]) :: downS w s ways ds := by
  unfold imgsS
  rw [List.reverse_append, downS_rev]
  rfl
theorem okP_true {n a : Int} {ds : List Int} (h : okP n a ds = true) : 0 ≤ a ∧ a < n ∧ n ≤ 1099511627775 ∧ (wayS n a).length = ds.length := by
  unfold okP at h
  simp only [Bool.and_eq_true, decide_eq_true_eq] at h
  exact ⟨h.1.1.1, h.1.1.2, h.1.2, h.2⟩
theorem clash_ex (w R : Int) (s t : List UInt8) (n n' a : Int) (ds ds' : List Int) (hst : s ≠ t) (h1 : holdsS w R s n a ds = true) (h2 : holdsS w R t n' a ds' = true) :
    ∃ x y, unl (imgsS w s n (wayS n a) ds).reverse (imgsS w t n' (wayS n' a) ds').reverse = some (x, y) ∧ ofS w x.1 x.2 = ofS w y.1 y.2 ∧ sameI x y = false := by
  unfold holdsS at h1 h2
  simp only [Bool.and_eq_true, beq_iff_eq] at h1 h2
  obtain ⟨o1, e1⟩ := h1
  obtain ⟨o2, e2⟩ := h2
  have p1 := okP_true o1
  have p2 := okP_true o2
  unfold peakS at e1 e2
  rw [imgsS_rev, imgsS_rev]
  have b1 := climb_bd w (ofS w 0 [s]) (by have := ofS_bd w 0 [s]; omega) (wayS n a) ds
  have b2 := climb_bd w (ofS w 0 [t]) (by have := ofS_bd w 0 [t]; omega) (wayS n' a) ds'
  cases hs : sameI (2, [be n 5, be (climb w (ofS w 0 [s]) (wayS n a) ds) 8]) (2, [be n' 5, be (climb w (ofS w 0 [t]) (wayS n' a) ds') 8])
  · refine ⟨(2, [be n 5, be (climb w (ofS w 0 [s]) (wayS n a) ds) 8]), (2, [be n' 5, be (climb w (ofS w 0 [t]) (wayS n' a) ds') 8]), ?_, e1.trans e2.symm, hs⟩
    rw [unl, hs]
    rfl
  · have hp := congrArg Prod.snd (sameI_eq hs)
    simp only [List.cons.injEq, and_true] at hp
    have h5 : (256 : Int) ^ 5 = 1099511627776 := by decide
    have u1 : 0 ≤ n ∧ n < 256 ^ 5 := by rw [h5]; omega
    have u2 : 0 ≤ n' ∧ n' < 256 ^ 5 := by rw [h5]; omega
    have hn : n = n' := be_inj (k := 5) u1 u2 hp.1
    have hc := be8_inj b1 b2 hp.2
    subst hn
    obtain ⟨x, y, i1, i2, i3⟩ := unl_down w s t hst (wayS n a) ds ds' p1.2.2.2 p2.2.2.2 hc
    refine ⟨x, y, ?_, i2, i3⟩
    rw [unl, hs]
    exact i1
end Go.Proofs.Ytjjkdmngmopjbaa
