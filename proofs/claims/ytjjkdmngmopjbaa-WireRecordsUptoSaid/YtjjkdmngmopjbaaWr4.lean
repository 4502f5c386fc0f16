/- The reference's writer: what num, dig, flag, count, text, odd and out do. -/
import Derived.Test.YtjjkdmngmopjbaaProg
import Derived.Test.YtjjkdmngmopjbaaWr2
import Derived.Test.YtjjkdmngmopjbaaWrS
import Derived.BigGuardPart
namespace Go.Proofs.Ytjjkdmngmopjbaa
open Go.RowKit
set_option maxRecDepth 100000 in
theorem rneed_any (b : Bool) (w : World) (g : Nat) (S : Out) (h : Ref w g S) :
    Calls Try.prog 97 #[.pointer (some ⟨g, 0, none⟩), .bool b] w fun e w' => e = .returned (.tuple #[]) ∧ Ref w' g (S.need (!b)) ∧ Turned w w' g := by
  obtain ⟨l, o, hb, hln, ho⟩ := h
  have c1 := (hb.cell 2).trans (show _ = some (.bool o) from rfl)
  have f1 := hb.frozen 2
  have hgt := hb.lt
  cases b
  · go_enter Try.func97, Try.ntmps97
    go_wp2
    go_end0
    exact ⟨rfl, ⟨l, o, by simpa [Out.need] using hb, hln, fun hf => by simpa [Out.need] using ho hf⟩, Turned.refl _ _⟩
  · go_enter Try.func97, Try.ntmps97
    go_wp2
    go_end0
    exact ⟨rfl, ⟨l, true, by simpa [Out.need] using hb.set_ 2 (.bool true), hln, fun hf => by simpa [Out.need] using (ho hf).1⟩, (Turned.refl _ _).setCell _ _⟩
set_option maxRecDepth 100000 in
theorem rflag_any (b : Bool) (w : World) (g : Nat) (S : Out) (h : Ref w g S) (hl : S.b.length ≤ 70368744177000) :
    Calls Try.prog 143 #[.pointer (some ⟨g, 0, none⟩), .bool b] w fun e w' => e = .returned (.tuple #[]) ∧ Ref w' g (S.flag b) ∧ Turned w w' g := by
  obtain ⟨l, o, hb, hln, ho⟩ := h
  have c1 := (hb.cell 0).trans (show _ = some (Value.string (bs l)) from rfl)
  have f1 := hb.frozen 0
  have hgt := hb.lt
  have e1 : bs l ++ ({ data := #[1] } : ByteArray) = bs (l ++ [1]) := bs_add l [1]
  have e0 : bs l ++ ({ data := #[0] } : ByteArray) = bs (l ++ [0]) := bs_add l [0]
  cases b
  · go_enter Try.func143, Try.ntmps143
    go_wp2
    go_end0
    exact ⟨rfl, ⟨l ++ [0], o, hb.set_ 0 _, by simp [Out.flag]; omega, fun hf => by have := ho hf; simp [Out.flag, this.1, this.2]⟩, (Turned.refl _ _).setCell _ _⟩
  · go_enter Try.func143, Try.ntmps143
    go_wp2
    go_end0
    exact ⟨rfl, ⟨l ++ [1], o, hb.set_ 0 _, by simp [Out.flag]; omega, fun hf => by have := ho hf; simp [Out.flag, this.1, this.2]⟩, (Turned.refl _ _).setCell _ _⟩
set_option maxRecDepth 100000 in
theorem rdigest_any (d : Int) (w : World) (g : Nat) (S : Out) (h : Ref w g S) (hl : S.b.length ≤ 70368744177000) (h0 : 0 ≤ d) (h1 : d < 18446744073709551616) :
    Calls Try.prog 144 #[.pointer (some ⟨g, 0, none⟩), .int .u64 d] w fun e w' => e = .returned (.tuple #[]) ∧ Ref w' g (S.dig d) ∧ Turned w w' g := by
  obtain ⟨l, o, hb, hln, ho⟩ := h
  have hgt := hb.lt
  go_enter Try.func144, Try.ntmps144
  go_wp2_with fail
  refine (reight_any d _ h0 h1).mono ?_
  rintro e w1 ⟨rfl, hb1⟩
  have hb2 := hb.below hb1 hgt
  have c1 := (hb2.cell 0).trans (show _ = some (Value.string (bs l)) from rfl)
  have f1 := hb2.frozen 0
  have hT : Turned w w1 g := ⟨hb1.mono (Nat.le_of_lt hgt), fun k hk _ _ => hb1.block k hk⟩
  go_wp2_with fail
  go_end0
  exact ⟨rfl, ⟨l ++ be d 8, o, hb2.set_ 0 _, by simp [Out.dig]; omega, fun hf => by have := ho hf; simp [Out.dig, this.1, this.2]⟩, hT.setCell _ _⟩
set_option maxRecDepth 100000 in
theorem rnumber_any (n : Int) (w : World) (g : Nat) (S : Out) (h : Ref w g S) (hl : S.b.length ≤ 70368744177000) :
    Calls Try.prog 96 #[.pointer (some ⟨g, 0, none⟩), .int .i64 n] w fun e w' => e = .returned (.tuple #[]) ∧ Ref w' g (S.num n) ∧ Turned w w' g := by
  obtain ⟨l, o, hb, hln, ho⟩ := h
  have hgt := hb.lt
  have hc := @conv1 Try.prog 144 9 5 Try.underlying144 Try.underlying5 Try.underlying9
  by_cases hbad : n < 0 ∨ 1099511627775 < n
  · have hS : Ref (w.setCell ⟨g, 1, none⟩ (.bool true)) g (S.num n) := by
      refine ⟨l, o, ?_, by simp [Out.num]; omega, fun hf => ?_⟩
      · have := hb.set_ 1 (.bool true)
        simpa [Out.num, farN, hbad] using this
      · simp [Out.num, farN, hbad] at hf
    have HS := Lib.hid hS
    have c1 := (hb.cell 1).trans (show _ = some (.bool S.far) from rfl)
    have f1 := hb.frozen 1
    clear ho hS
    by_cases h0 : n < 0
    · go_enter Try.func96, Try.ntmps96
      go_wp2_with fail
      exact bodyPost_ret (v := .tuple #[]) (by simp [results, Try.results96, go_sem]) rfl ⟨rfl, HS.out, (Turned.refl _ _).setCell _ _⟩
    · have h1 : 1099511627775 < n := by omega
      clear hbad
      go_enter Try.func96, Try.ntmps96
      go_wp2_with fail
      exact bodyPost_ret (v := .tuple #[]) (by simp [results, Try.results96, go_sem]) rfl ⟨rfl, HS.out, (Turned.refl _ _).setCell _ _⟩
  · have h0 : ¬ n < 0 := by omega
    have h1 : ¬ 1099511627775 < n := by omega
    have HE : Hid (S.num n = ⟨S.b ++ numB n, S.far, S.odd⟩) := by show S.num n = _; simp [Out.num, numV, farN, h0, h1]
    clear hbad
    go_enter Try.func96, Try.ntmps96
    go_wp2_with fail
    go_loopw [1, 4] (fun x y wr => ∃ (k f : Nat) (m : Int), x = .int .i64 m ∧ y = .string (bs (be n k)) ∧ 0 ≤ m ∧ m ≤ n ∧ m < 256 ^ f ∧ k + f = 5 ∧ k + blenF f m = blenF 5 n ∧ m = n / 256 ^ k ∧ Blk wr g 122 #[.string (bs l), .bool S.far, .bool o] ∧ Turned w wr g) (fun x _ _ => (intOf x).toNat)
    case atStart => exact ⟨0, 5, n, rfl, rfl, by omega, by omega, by simp; omega, rfl, by simp, by simp, hb, Turned.refl _ _⟩
    case round =>
      obtain ⟨k, f, m, rfl, rfl, h2, hmn, h3, h4, h5, h6, hbr, hTr⟩ := hrel
      have hbk := be_len n k
      have H3 := Lib.hid h3
      have H5 := Lib.hid h5
      have H6 := Lib.hid h6
      clear h3 h5 h6
      have hgr := hbr.lt
      by_cases hm : 0 < m
      · obtain ⟨n1, n2, n3⟩ := blen_next f m hm H3.out
        have N2 := Lib.hid n2
        have N3 := Lib.hid n3
        clear n2 n3
        go_wp2_with fail
        go_roundw
        case rel =>
          refine ⟨k + 1, f - 1, m / 256, rfl, ?_, by omega, by omega, N3.out, by omega, (by have := H5.out; rw [N2.out] at this; omega), by rw [H6.out, div_step], hbr.alloc _, hTr.alloc (Nat.le_of_lt hgr) _⟩
          rw [H6.out]; simp [be]
        case measure => simp [intOf]; omega
      · have hk : k = blenF 5 n := by have := H5.out; rw [blen_stop f m hm] at this; simpa using this
        have hk5 := blenF_le 5 n
        have HK := Lib.hid hk
        clear hk
        rw [← HK.out] at hk5
        have hlen := be_len n k
        have c0 : wr.drew.cell? ⟨g, 0, none⟩ = some (Value.string (bs l)) := (hbr.cell 0).trans (show _ = some (Value.string (bs l)) from rfl)
        have f0 : wr.drew.frozen? ⟨g, 0, none⟩ = false := hbr.frozen 0
        have hwk : IntKind.u8.wrap (k : Int) = (k : Int) := by simp [IntKind.wrap_u8]; omega
        have hcD : Sem.run Try.prog (convert 144 9 (.slice (some ⟨wr.heap.size, 0, none⟩) 1 1)) (wr.alloc (.cells #[.int .u8 (k : Int)] 5)).drew = .ok (.string (bs [UInt8.ofNat k])) (wr.alloc (.cells #[.int .u8 (k : Int)] 5)).drew := hc (k : Int) wr.drew
        have cA : (wr.alloc (.cells #[.int .u8 (k : Int)] 5)).drew.cell? ⟨g, 0, none⟩ = some (Value.string (bs l)) := ((hbr.alloc _).cell 0).trans (show _ = some (Value.string (bs l)) from rfl)
        have fA : (wr.alloc (.cells #[.int .u8 (k : Int)] 5)).drew.frozen? ⟨g, 0, none⟩ = false := (hbr.alloc _).frozen 0
        clear hc
        have q1 : ¬ 9223372036854775807 < l.length + 1 := by omega
        have q2 : ¬ 9223372036854775807 < l.length + 1 + k := by omega
        go_wp2_with fail
        go_region_law (fail)
        all_goals
          go_wp2_with fail
          go_end0
          refine ⟨rfl, ⟨l ++ UInt8.ofNat k :: be n k, o, by rw [HE.out]; exact ((hbr.set_ 0 _).alloc _).drew, by rw [HE.out]; simp [numB, ← HK.out, be_len]; omega, fun hf => ?_⟩, ((hTr.setCell _ _).alloc (by simp [World.setCell]; omega) _).drew⟩
          rw [HE.out] at hf ⊢
          have := ho hf
          simp [numB, ← HK.out, this.1, this.2]
set_option maxRecDepth 100000 in
theorem rcount_any (n m : Int) (w : World) (g : Nat) (S : Out) (h : Ref w g S) (hl : S.b.length ≤ 70368744177000) :
    Calls Try.prog 146 #[.pointer (some ⟨g, 0, none⟩), .int .i64 n, .int .i64 m] w fun e w' => e = .returned (.tuple #[]) ∧ Ref w' g ((S.lim n m).num n) ∧ Turned w w' g := by
  have hgt := h.lt
  by_cases hm : m < n
  · have hS : Ref (w.setCell ⟨g, 1, none⟩ (.bool true)) g (S.lim n m) := by
      obtain ⟨l, o, hb, hln, ho⟩ := h
      refine ⟨l, o, by simpa [Out.lim, hm] using hb.set_ 1 (.bool true), hln, fun hf => ?_⟩
      simp [Out.lim, hm] at hf
    have c1 : ∃ x, w.cell? ⟨g, 1, none⟩ = some x := by
      obtain ⟨l, o, hb, hln, ho⟩ := h
      exact ⟨_, (hb.cell 1).trans (show _ = some (Value.bool S.far) from rfl)⟩
    obtain ⟨x, c1⟩ := c1
    have f1 : w.frozen? ⟨g, 1, none⟩ = false := by
      obtain ⟨l, o, hb, hln, ho⟩ := h
      exact hb.frozen 1
    have HS := Lib.hid hS
    clear h hS
    go_enter Try.func146, Try.ntmps146
    go_wp2_with fail
    refine (rnumber_any _ _ g _ HS.out hl).mono ?_
    rintro e w1 ⟨rfl, hW1, hC1⟩
    go_wp2_with fail
    go_end0
    exact ⟨rfl, hW1, ((Turned.refl _ _).setCell _ _).trans hC1⟩
  · have hd : S.lim n m = S := by simp [Out.lim, hm]
    have HD := Lib.hid hd
    clear hd
    go_enter Try.func146, Try.ntmps146
    go_wp2_with fail
    refine (rnumber_any _ _ g _ h hl).mono ?_
    rintro e w1 ⟨rfl, hW1, hC1⟩
    go_wp2_with fail
    go_end0
    exact ⟨rfl, by rw [HD.out]; exact hW1, hC1⟩
set_option maxRecDepth 100000 in
theorem rtext_any (s : List UInt8) (m : Int) (w : World) (g : Nat) (S : Out) (h : Ref w g S) (hl : S.b.length + s.length + 6 ≤ 70368744177000) :
    Calls Try.prog 180 #[.pointer (some ⟨g, 0, none⟩), .string (bs s), .int .i64 m] w fun e w' => e = .returned (.tuple #[]) ∧ Ref w' g (S.text s m) ∧ Turned w w' g := by
  have hz := bs_size s
  have hn := ((S.lim s.length m).num_len s.length)
  have hb0 : (S.lim s.length m).b.length = S.b.length := rfl
  have hE : Hid (S.text s m = ((S.lim s.length m).num s.length).raw s) := rfl
  go_enter Try.func180, Try.ntmps180
  go_wp2_with fail
  refine (rcount_any _ _ _ g _ h (by omega)).mono ?_
  rintro e w1 ⟨rfl, ⟨l, o, hb, hln, ho⟩, hT1⟩
  have hgt := hb.lt
  have c1 := (hb.cell 0).trans (show _ = some (Value.string (bs l)) from rfl)
  have f1 := hb.frozen 0
  generalize (S.lim s.length m).num s.length = S2 at *
  go_wp2_with fail
  go_end0
  rw [hE.out]
  exact ⟨rfl, ⟨l ++ s, o, hb.set_ 0 _, by simp [Out.raw]; omega, fun hf => by have := ho hf; simp [Out.raw, this.1, this.2]⟩, hT1.setCell _ _⟩
end Go.Proofs.Ytjjkdmngmopjbaa
