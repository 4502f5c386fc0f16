/- Does a path hold? Both sides. -/
import Derived.Test.YtjmkcndjjfokiaaProg
import Derived.Test.YtjmkcndjjfokiaaHold4
namespace Go.Proofs.Ytjmkcndjjfokiaa
open Go.RowKit
theorem riteF_len : ∀ (f n a : Nat), (riteF f n a).length ≤ f
  | 0, _, _ => by simp [riteF]
  | f + 1, n, a => by
    rw [riteF]
    split
    · simp
    · split
      · have := riteF_len f (halfS n) a; simp; omega
      · have := riteF_len f (n - halfS n) (a - halfS n); simp; omega
def wayS (n a : Int) : List Bool := riteF n.toNat n.toNat a.toNat
def okP (n a : Int) (ds : List Int) : Bool := decide (0 ≤ a) && decide (a < n) && decide (n ≤ 1099511627775) && decide ((wayS n a).length = ds.length)
def peakS (wd : Int) (s : List UInt8) (n a : Int) (ds : List Int) : Int := ofS wd 2 [be n 5, be (climb wd (ofS wd 0 [s]) (wayS n a) ds) 8]
def holdsS (wd root : Int) (s : List UInt8) (n a : Int) (ds : List Int) : Bool := okP n a ds && (peakS wd s n a ds == root)
/-- what both sides' lists of images are -/
def ImgsAns (w : World) (wd : Int) (s : List UInt8) (n a : Int) (ds : List Int) (e : Ending) (w' : World) : Prop :=
  (okP n a ds = true → ∃ v xs, e = .returned (.tuple #[v, .bool true]) ∧ w'.ownsRow w.heap.size 45 2 v (ds.length + 2) xs ∧ Imgs w.heap.size w' v.ownBlock xs (imgsS wd s n (wayS n a) ds) ∧ Below w.heap.size w w') ∧
  (okP n a ds = false → e = .returned (.tuple #[.slice none 0 0, .bool false]) ∧ Below w.heap.size w w')
theorem okP_cases (n a : Int) (ds : List Int) : (okP n a ds = false ∧ (a < 0 ∨ n ≤ a ∨ 1099511627775 < n)) ∨ (∃ N K : Nat, n = (N : Int) ∧ a = (K : Int) ∧ K < N ∧ N ≤ 1099511627775 ∧ wayS n a = riteF N N K ∧ ((okP n a ds = true ∧ (wayS n a).length = ds.length) ∨ (okP n a ds = false ∧ (wayS n a).length ≠ ds.length))) := by
  by_cases h : a < 0 ∨ n ≤ a ∨ 1099511627775 < n
  · refine .inl ⟨?_, h⟩
    unfold okP
    rcases h with h | h | h
    · have : decide (0 ≤ a) = false := decide_eq_false (by omega)
      simp [this]
    · have : decide (a < n) = false := decide_eq_false (by omega)
      simp [this]
    · have : decide (n ≤ 1099511627775) = false := decide_eq_false (by omega)
      simp [this]
  · refine .inr ⟨n.toNat, a.toNat, by omega, by omega, by omega, by omega, rfl, ?_⟩
    by_cases hl : (wayS n a).length = ds.length
    · exact .inl ⟨by unfold okP; simp [hl]; omega, hl⟩
    · exact .inr ⟨by unfold okP; simp [hl], hl⟩
theorem images_all (wd : Int) (s : List UInt8) (hs : s.length ≤ maxLen) (n a : Int) (ds : List Int) (A : Option Addr) (c B : Nat) (w : World) (hr : Rd w B 1 A ds.length (digs ds)) (hB : B ≤ w.heap.size) (hd : ∀ d ∈ ds, 0 ≤ d ∧ d < 18446744073709551616) (hdl : ds.length ≤ maxLen) :
    Calls Try.prog 87 #[.int .i64 wd, .string (bs s), .agg #[.int .i64 n, .int .i64 a, .slice A ds.length c]] w (ImgsAns w wd s n a ds) := by
  rcases okP_cases n a ds with ⟨h1, h2⟩ | ⟨N, K, rfl, rfl, hK, hN, hw, ⟨h1, h2⟩ | ⟨h1, h2⟩⟩
  · refine (images_no wd s n a ds.length c A w h2).mono ?_
    rintro e w' h
    exact ⟨fun h3 => absurd (h1.symm.trans h3) (by decide), fun _ => h⟩
  · refine (images_any wd s hs N K ds A c B w hr hB hK hN (wayS N K) hw.symm h2 (by rw [hw]; have := riteF_len N N K; omega) hd).mono ?_
    rintro e w' h
    exact ⟨fun _ => h, fun h3 => absurd (h1.symm.trans h3) (by decide)⟩
  · refine (images_odd wd s N K ds.length c A w hK hN (by rw [← hw]; exact h2) hdl).mono ?_
    rintro e w' h
    exact ⟨fun h3 => absurd (h1.symm.trans h3) (by decide), fun _ => h⟩
theorem up_all (wd : Int) (s : List UInt8) (hs : s.length ≤ maxLen) (n a : Int) (ds : List Int) (A : Option Addr) (c B : Nat) (w : World) (hr : Rd w B 1 A ds.length (digs ds)) (hB : B ≤ w.heap.size) (hd : ∀ d ∈ ds, 0 ≤ d ∧ d < 18446744073709551616) (hdl : ds.length ≤ maxLen) :
    Calls Try.prog 88 #[.int .i64 wd, .string (bs s), .agg #[.int .i64 n, .int .i64 a, .slice A ds.length c]] w (ImgsAns w wd s n a ds) := by
  rcases okP_cases n a ds with ⟨h1, h2⟩ | ⟨N, K, rfl, rfl, hK, hN, hw, h⟩
  · refine (up_no wd s n a ds.length c A w h2).mono ?_
    rintro e w' h
    exact ⟨fun h3 => absurd (h1.symm.trans h3) (by decide), fun _ => h⟩
  · refine (up_any wd s hs N K ds A c B w hr hB hK hN (wayS N K) hw.symm (by rw [hw]; have := riteF_len N N K; omega) hd hdl).mono ?_
    rintro e w' hu
    unfold UpAns at hu
    rcases h with ⟨h1, h2⟩ | ⟨h1, h2⟩
    · rw [if_pos h2] at hu
      exact ⟨fun _ => hu, fun h3 => absurd (h1.symm.trans h3) (by decide)⟩
    · rw [if_neg h2] at hu
      exact ⟨fun h3 => absurd (h1.symm.trans h3) (by decide), fun _ => hu⟩
theorem two_short (n d : Int) : Short [be n 5, be d 8] := by
  intro p hp
  simp at hp
  rcases hp with rfl | rfl
  · rw [be_len]; simp [maxLen]
  · exact be8_short _
set_option maxRecDepth 100000 in
set_option maxHeartbeats 1000000 in
theorem holds_any (wd root : Int) (s : List UInt8) (hs : s.length ≤ maxLen) (n a : Int) (ds : List Int) (A : Option Addr) (c B : Nat) (w : World) (hr : Rd w B 1 A ds.length (digs ds)) (hB : B ≤ w.heap.size) (hd : ∀ d ∈ ds, 0 ≤ d ∧ d < 18446744073709551616) (hdl : ds.length ≤ 9000000000000000000) :
    Calls Try.prog 23 #[.int .i64 wd, .int .u64 root, .string (bs s), .agg #[.int .i64 n, .int .i64 a, .slice A ds.length c]] w fun e w' => e = .returned (.bool (holdsS wd root s n a ds)) ∧ Below w.heap.size w w' := by
  have hH : Hid (holdsS wd root s n a ds = (okP n a ds && (peakS wd s n a ds == root))) := rfl
  have hT : Hid (peakS wd s n a ds = ofS wd 2 [be n 5, be (climb wd (ofS wd 0 [s]) (wayS n a) ds) 8]) := rfl
  have hi := fun W g1 g2 => images_all wd s hs n a ds A c B W g1 g2 hd (by simp [maxLen]; omega)
  go_enter Try.func23, Try.ntmps23
  go_wp2_with fail
  refine (hi _ (Rd.alloc hr hB _) (by simp; omega)).mono ?_
  rintro e w1 ⟨h1, h2⟩
  generalize hk : okP n a ds = k at *
  cases k
  · obtain ⟨rfl, hb1⟩ := h2 rfl
    have hbel : Below w.heap.size w w1 := ((Below.refl _ _).alloc (Nat.le_refl _) _).trans (hb1.mono (by simp))
    go_wp2_with fail
    go_ret
    exact ⟨ret_bool (by rw [hH.out, Bool.false_and]), hbel⟩
  · obtain ⟨v, xs, rfl, hown, himg, hb1⟩ := h1 rfl
    have hbel : Below w.heap.size w w1 := ((Below.refl _ _).alloc (Nat.le_refl _) _).trans (hb1.mono (by simp))
    clear h1 h2 hi
    unfold imgsS at himg
    have hlen := himg.len
    have hxl := hown.1
    generalize hm : ds.length + 2 = m at *
    obtain ⟨b, off, cap, A3, c3, rfl, hmc, hcm, g0, g1, hs0⟩ := Imgs.last hown (by simp at hlen ⊢; omega) himg
    have hw1 : IntKind.i64.wrap ((m : Int) - 1) = ((m - 1 : Nat) : Int) := by rw [IntWalk.i64_in _ (by omega)]; omega
    have hm1 : ((m - 1 : Nat) : Int) < (m : Int) := by omega
    clear hm hlen hxl himg hown
    go_wp2_with fail
    refine (ofImage_any wd 2 _ A3 c3 w1.heap.size _ hs0 (Nat.le_refl _) (by simp [maxLen]) (two_short _ _)).mono ?_
    rintro e w2 ⟨rfl, hb2⟩
    rw [← hT.out]
    go_wp2_with fail
    go_ret
    exact ⟨ret_bool (by rw [hH.out]; simp), hbel.trans (hb2.mono hbel.size)⟩
set_option maxRecDepth 100000 in
set_option maxHeartbeats 1000000 in
theorem rholds_any (wd root : Int) (s : List UInt8) (hs : s.length ≤ maxLen) (n a : Int) (ds : List Int) (A : Option Addr) (c B : Nat) (w : World) (hr : Rd w B 1 A ds.length (digs ds)) (hB : B ≤ w.heap.size) (hd : ∀ d ∈ ds, 0 ≤ d ∧ d < 18446744073709551616) (hdl : ds.length ≤ 9000000000000000000) :
    Calls Try.prog 26 #[.int .i64 wd, .int .u64 root, .string (bs s), .agg #[.int .i64 n, .int .i64 a, .slice A ds.length c]] w fun e w' => e = .returned (.bool (holdsS wd root s n a ds)) ∧ Below w.heap.size w w' := by
  have hH : Hid (holdsS wd root s n a ds = (okP n a ds && (peakS wd s n a ds == root))) := rfl
  have hT : Hid (peakS wd s n a ds = ofS wd 2 [be n 5, be (climb wd (ofS wd 0 [s]) (wayS n a) ds) 8]) := rfl
  have hi := fun W g1 g2 => up_all wd s hs n a ds A c B W g1 g2 hd (by simp [maxLen]; omega)
  go_enter Try.func26, Try.ntmps26
  go_wp2_with fail
  refine (hi _ (Rd.alloc hr hB _) (by simp; omega)).mono ?_
  rintro e w1 ⟨h1, h2⟩
  generalize hk : okP n a ds = k at *
  cases k
  · obtain ⟨rfl, hb1⟩ := h2 rfl
    have hbel : Below w.heap.size w w1 := ((Below.refl _ _).alloc (Nat.le_refl _) _).trans (hb1.mono (by simp))
    go_wp2_with fail
    go_ret
    exact ⟨ret_bool (by rw [hH.out, Bool.false_and]), hbel⟩
  · obtain ⟨v, xs, rfl, hown, himg, hb1⟩ := h1 rfl
    have hbel : Below w.heap.size w w1 := ((Below.refl _ _).alloc (Nat.le_refl _) _).trans (hb1.mono (by simp))
    clear h1 h2 hi
    unfold imgsS at himg
    have hlen := himg.len
    have hxl := hown.1
    generalize hm : ds.length + 2 = m at *
    obtain ⟨b, off, cap, A3, c3, rfl, hmc, hcm, g0, g1, hs0⟩ := Imgs.last hown (by simp at hlen ⊢; omega) himg
    have hw1 : IntKind.i64.wrap ((m : Int) - 1) = ((m - 1 : Nat) : Int) := by rw [IntWalk.i64_in _ (by omega)]; omega
    have hm1 : ((m - 1 : Nat) : Int) < (m : Int) := by omega
    clear hm hlen hxl himg hown
    go_wp2_with fail
    refine (rimageDigest_any wd 2 _ A3 c3 w1.heap.size _ hs0 (Nat.le_refl _) (by simp [maxLen]) (two_short _ _)).mono ?_
    rintro e w2 ⟨rfl, hb2⟩
    rw [← hT.out]
    go_wp2_with fail
    go_ret
    exact ⟨ret_bool (by rw [hH.out]; simp), hbel.trans (hb2.mono hbel.size)⟩
end Go.Proofs.Ytjmkcndjjfokiaa
