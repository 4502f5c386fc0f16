/- Of the texts VL3. -/
import Derived.Test.YtjjkdmngmopjbaaG14
import Derived.Test.YtjjkdmngmopjbaaG33
import Derived.Test.YtjjkdmngmopjbaaG28
set_option linter.unusedSimpArgs false
set_option linter.unusedVariables false
namespace Go.Proofs.Ytjjkdmngmopjbaa
open Go.RowKit Vc
/-- the seats that the sight shows -/
def seatsF (x : SightD) (t : Int) : List Seat := if bitsI .and .i64 (pickS t 64) 1 = 0 then seatedS x.seats else x.seats
def shP (x : SightD) (t : Int) (os : List U) : Prop := ∃ z : SightD, os = sightU z ∧ z.seats = seatsF x t ∧ z.cert.froms = x.cert.froms ∧ z.seats.length ≤ 4096
def shQ (x : SightD) (t : Int) (os : List U) (w : World) : Prop := ∀ z : SightD, os = sightU z → z.seats = seatsF x t → z.cert.froms = x.cert.froms → heldH w z
theorem sight_inj {z z' : SightD} (h : sightU z = sightU z') (hs : z.seats = z'.seats) (hf : z.cert.froms = z'.cert.froms) : z = z' := by
  obtain ⟨⟨⟩, ⟨⟩, _, _, _⟩ := z
  obtain ⟨⟨⟩, ⟨⟩, _, _, _⟩ := z'
  unfold sightU headerU certU at h
  simp only [List.cons_append, List.nil_append, List.cons.injEq, U.i.injEq, U.p.injEq, U.n.injEq, U.b.injEq, and_true] at h hs hf
  obtain ⟨rfl, rfl, rfl, rfl, rfl, rfl, rfl, rfl, rfl, rfl, rfl, rfl, rfl, rfl, rfl, _, rfl, rfl, _, rfl⟩ := h
  subst hs hf
  rfl
theorem shQ_of {x z : SightD} {t : Int} {os : List U} {w : World} (h : os = sightU z) (hs : z.seats = seatsF x t) (hf : z.cert.froms = x.cert.froms) (hh : heldH w z) : shQ x t os w := by
  intro z' h' hs' hf'
  obtain rfl := sight_inj (h.symm.trans h') (hs.trans hs'.symm) (hf.trans hf'.symm)
  exact hh
def shownU (wd : Int) (x : SightD) (t : Int) : List U := .i wd :: sightU x ++ [.i t, .g x]
theorem shown_inj {wd wd' t t' : Int} {x x' : SightD} (h : shownU wd x t = shownU wd' x' t') : wd = wd' ∧ x = x' ∧ t = t' := by
  unfold shownU sightU headerU certU at h
  simp only [List.cons_append, List.nil_append, List.cons.injEq, U.i.injEq, U.p.injEq, U.n.injEq, U.b.injEq, U.g.injEq, heq_eq_eq, true_and, and_true] at h
  exact ⟨h.1, h.2.2.2.2.2.2.2.2.2.2.2.2.2.2.2.2.2.2.2.2.2.2, h.2.2.2.2.2.2.2.2.2.2.2.2.2.2.2.2.2.2.2.2.2.1⟩
def ShownS : Ctr := {
  gh := 1
  pre := fun us w => ∃ (wd : Int) (x : SightD) (t : Int), us = shownU wd x t ∧ heldH w x ∧ Wide x.seats ∧ x.seats.length ≤ 4096 ∧ -9223372036854775808 ≤ t ∧ t ≤ 9223372036854775807
  post := fun us os => ∀ (wd : Int) (x : SightD) (t : Int), us = shownU wd x t → shP x t os
  fact := fun us os w => ∀ (wd : Int) (x : SightD) (t : Int), us = shownU wd x t → shQ x t os w }
theorem held_seats {w : World} {z : SightD} (h : heldH w z) {A : Option Addr} {c : Nat} {l : List Seat} (hl : SeatsL w w.heap.size A l) (hs : l.length ≤ maxLen) : heldH w { z with seats := l, sa := A, sc := c } := ⟨h.header, h.cert, hl, hs⟩
theorem held_b {w : World} {z : SightD} (h : heldH w z) {b : Int} (hb : 0 ≤ b ∧ b < 18446744073709551616) : heldH w { z with header := { z.header with b := b } } := ⟨⟨h.header.1, h.header.2.1, h.header.2.2.1, h.header.2.2.2.1, h.header.2.2.2.2.1, hb⟩, h.cert, h.read, h.short⟩
theorem held_cert {w : World} {z : SightD} (h : heldH w z) {a s : Int} {b : Bool} : heldH w { z with cert := { z.cert with h := a, s := s, has := b } } := ⟨h.header, ⟨h.cert.dig, h.cert.read, h.cert.short⟩, h.read, h.short⟩
theorem held_cb {w : World} {z : SightD} (h : heldH w z) {b : Int} (hb : 0 ≤ b ∧ b < 18446744073709551616) : heldH w { z with cert := { z.cert with b := b } } := ⟨h.header, ⟨hb, h.cert.read, h.cert.short⟩, h.read, h.short⟩
theorem ofS_lt (w tag : Int) (ps : List (List UInt8)) : 0 ≤ ofS w tag ps ∧ ofS w tag ps < 18446744073709551616 := by have := ofS_bd w tag ps; omega
def shI (x : SightD) (t : Int) : Inv := { inv := fun v => shP x t v, fact := fun v w => shQ x t v w, mea := fun _ => 0 }
theorem u1_inj {a b : Int} (h : [U.i a] = [U.i b]) : a = b := U.i.inj (List.cons.inj h).1
def cfg_shown : Cfg := { con := [(13, 0), (31, 1), (70, 1), (36, 0)], own := 1, loops := [], joins := [(3, { slots := [], blks := [5], rows := [], extra := [] }), (5, { slots := [], blks := [5], rows := [], extra := [] }), (7, { slots := [], blks := [5], rows := [], extra := [] })], wraps := [], rows := [], retire := [] }
set_option maxRecDepth 100000 in
def VC_shown (s : Ctr) (PickS SeatedS BDigS NameS : Ctr) (J3 J5 J7 : Inv) (x0 : Int) (x1 : Int) (x2 : Int) (x3 : Int) (x4 : Int) (x5 : Int) (x6 : Int) (x7 : Int) (x8 : Int) (x9 : Int) (x10 : Int) (x11 : Int) (x12 : Int) (x13 : Bool) (x14 : Int) (x15 : Option Addr) (x16 : Nat) (x17 : Nat) (x18 : Option Addr) (x19 : Nat) (x20 : Nat) (x21 : Int) {α22 : Type} (x22 : α22) (base : Nat) : Prop :=
    let us : List U := [.i x0, .i x1, .i x2, .i x3, .i x4, .i x5, .i x6, .i x7, .i x8, .i x9, .i x10, .i x11, .i x12, .b x13, .i x14, .p x15, .n x16, .n x17, .p x18, .n x19, .n x20, .i x21, .g x22]
    let K0 : World → Prop := fun w => s.pre us w
    (∀ w : World, K0 w → PickS.pre [.i x21, .i 64] w) ∧
    ∀ (x23 : Int),
    (PickS.post [.i x21, .i 64] [.i x23] →
    ((
     ((
      ((bitsI .and .i64 x23 1) = 0) →
      ∃ (α24 : Type) (x24 : α24),
      let gu24 : U := .g x24
      let u1 : List U := [.p x18, .n x19, .n x20, gu24]
      let K2 : World → Prop := fun w => K0 w ∧ PickS.fact [.i x21, .i 64] [.i x23] w
      (∀ w : World, K2 w → SeatedS.pre u1 w) ∧
      ∀ (x25 : Option Addr) (x26 : Nat) (x27 : Nat),
      let o3 : List U := [.p x25, .n x26, .n x27]
      (SeatedS.post u1 o3 →
      let v4 : List U := [.i x1, .i x2, .i x3, .i x4, .i x5, .i x6, .i x7, .i x8, .i x9, .i x10, .i x11, .i x12, .b x13, .i x14, .p x15, .n x16, .n x17, .p x25, .n x26, .n x27]
      let K5 : World → Prop := fun w => K2 w ∧ SeatedS.fact u1 o3 w
      J3.inv v4 ∧ (∀ w : World, K5 w → J3.fact v4 w) ∧
      True
      )
     ) ∧ (
      (¬ ((bitsI .and .i64 x23 1) = 0)) →
      let v1 : List U := [.i x1, .i x2, .i x3, .i x4, .i x5, .i x6, .i x7, .i x8, .i x9, .i x10, .i x11, .i x12, .b x13, .i x14, .p x15, .n x16, .n x17, .p x18, .n x19, .n x20]
      let K2 : World → Prop := fun w => K0 w ∧ PickS.fact [.i x21, .i 64] [.i x23] w
      J3.inv v1 ∧ (∀ w : World, K2 w → J3.fact v1 w) ∧
      True
     ))
    ) ∧ (
     ∀ (x24 : Int) (x25 : Int) (x26 : Int) (x27 : Int) (x28 : Int) (x29 : Int) (x30 : Int) (x31 : Int) (x32 : Int) (x33 : Int) (x34 : Int) (x35 : Int) (x36 : Bool) (x37 : Int) (x38 : Option Addr) (x39 : Nat) (x40 : Nat) (x41 : Option Addr) (x42 : Nat) (x43 : Nat),
     let v1 : List U := [.i x24, .i x25, .i x26, .i x27, .i x28, .i x29, .i x30, .i x31, .i x32, .i x33, .i x34, .i x35, .b x36, .i x37, .p x38, .n x39, .n x40, .p x41, .n x42, .n x43]
     (J3.inv v1 →
     ((
      ((
       ((bitsI .and .i64 x23 2) = 0) →
       ∃ (α44 : Type) (x44 : α44),
       let gu44 : U := .g x44
       let u2 : List U := [.i x0, .p x41, .n x42, .n x43, gu44]
       let K3 : World → Prop := fun w => K0 w ∧ PickS.fact [.i x21, .i 64] [.i x23] w
       let K4 : World → Prop := fun w => K3 w ∧ J3.fact v1 w
       (∀ w : World, K4 w → BDigS.pre u2 w) ∧
       ∀ (x45 : Int),
       (BDigS.post u2 [.i x45] →
       let v5 : List U := [.i x24, .i x25, .i x26, .i x27, .i x28, .i x29, .i x30, .i x45, .i x32, .i x33, .i x34, .i x35, .b x36, .i x37, .p x38, .n x39, .n x40, .p x41, .n x42, .n x43]
       let K6 : World → Prop := fun w => K4 w ∧ BDigS.fact u2 [.i x45] w
       J5.inv v5 ∧ (∀ w : World, K6 w → J5.fact v5 w) ∧
       True
       )
      ) ∧ (
       (¬ ((bitsI .and .i64 x23 2) = 0)) →
       let v2 : List U := [.i x24, .i x25, .i x26, .i x27, .i x28, .i x29, .i x30, .i x31, .i x32, .i x33, .i x34, .i x35, .b x36, .i x37, .p x38, .n x39, .n x40, .p x41, .n x42, .n x43]
       let K3 : World → Prop := fun w => K0 w ∧ PickS.fact [.i x21, .i 64] [.i x23] w
       let K4 : World → Prop := fun w => K3 w ∧ J3.fact v1 w
       J5.inv v2 ∧ (∀ w : World, K4 w → J5.fact v2 w) ∧
       True
      ))
     ) ∧ (
      ∀ (x44 : Int) (x45 : Int) (x46 : Int) (x47 : Int) (x48 : Int) (x49 : Int) (x50 : Int) (x51 : Int) (x52 : Int) (x53 : Int) (x54 : Int) (x55 : Int) (x56 : Bool) (x57 : Int) (x58 : Option Addr) (x59 : Nat) (x60 : Nat) (x61 : Option Addr) (x62 : Nat) (x63 : Nat),
      let v2 : List U := [.i x44, .i x45, .i x46, .i x47, .i x48, .i x49, .i x50, .i x51, .i x52, .i x53, .i x54, .i x55, .b x56, .i x57, .p x58, .n x59, .n x60, .p x61, .n x62, .n x63]
      (J5.inv v2 →
      ((
       ((
        ((bitsI .and .i64 x23 4) = 0) →
        let v3 : List U := [.i x44, .i x45, .i x46, .i x47, .i x48, .i x49, .i x50, .i x51, .i x52, .i x45, .i x54, .i 2, .b true, .i x57, .p x58, .n x59, .n x60, .p x61, .n x62, .n x63]
        let K4 : World → Prop := fun w => K0 w ∧ PickS.fact [.i x21, .i 64] [.i x23] w
        let K5 : World → Prop := fun w => K4 w ∧ J3.fact v1 w
        let K6 : World → Prop := fun w => K5 w ∧ J5.fact v2 w
        J7.inv v3 ∧ (∀ w : World, K6 w → J7.fact v3 w) ∧
        True
       ) ∧ (
        (¬ ((bitsI .and .i64 x23 4) = 0)) →
        let v3 : List U := [.i x44, .i x45, .i x46, .i x47, .i x48, .i x49, .i x50, .i x51, .i x52, .i x53, .i x54, .i x55, .b x56, .i x57, .p x58, .n x59, .n x60, .p x61, .n x62, .n x63]
        let K4 : World → Prop := fun w => K0 w ∧ PickS.fact [.i x21, .i 64] [.i x23] w
        let K5 : World → Prop := fun w => K4 w ∧ J3.fact v1 w
        let K6 : World → Prop := fun w => K5 w ∧ J5.fact v2 w
        J7.inv v3 ∧ (∀ w : World, K6 w → J7.fact v3 w) ∧
        True
       ))
      ) ∧ (
       ∀ (x64 : Int) (x65 : Int) (x66 : Int) (x67 : Int) (x68 : Int) (x69 : Int) (x70 : Int) (x71 : Int) (x72 : Int) (x73 : Int) (x74 : Int) (x75 : Int) (x76 : Bool) (x77 : Int) (x78 : Option Addr) (x79 : Nat) (x80 : Nat) (x81 : Option Addr) (x82 : Nat) (x83 : Nat),
       let v3 : List U := [.i x64, .i x65, .i x66, .i x67, .i x68, .i x69, .i x70, .i x71, .i x72, .i x73, .i x74, .i x75, .b x76, .i x77, .p x78, .n x79, .n x80, .p x81, .n x82, .n x83]
       (J7.inv v3 →
       ((
        ((bitsI .and .i64 x23 8) = 0) →
        let u4 : List U := [.i x0, .i x64, .i x65, .i x66, .i x67, .i x68, .i x69, .i x70, .i x71, .i x72]
        let K5 : World → Prop := fun w => K0 w ∧ PickS.fact [.i x21, .i 64] [.i x23] w
        let K6 : World → Prop := fun w => K5 w ∧ J3.fact v1 w
        let K7 : World → Prop := fun w => K6 w ∧ J5.fact v2 w
        let K8 : World → Prop := fun w => K7 w ∧ J7.fact v3 w
        (∀ w : World, K8 w → NameS.pre u4 w) ∧
        ∀ (x84 : Int),
        (NameS.post u4 [.i x84] →
        let o9 : List U := [.i x64, .i x65, .i x66, .i x67, .i x68, .i x69, .i x70, .i x71, .i x72, .i x73, .i x74, .i x75, .b x76, .i x84, .p x78, .n x79, .n x80, .p x81, .n x82, .n x83]
        let K10 : World → Prop := fun w => K8 w ∧ NameS.fact u4 [.i x84] w
        s.post us o9 ∧ (∀ w : World, K10 w → s.fact us o9 w)
        )
       ) ∧ (
        (¬ ((bitsI .and .i64 x23 8) = 0)) →
        let o4 : List U := [.i x64, .i x65, .i x66, .i x67, .i x68, .i x69, .i x70, .i x71, .i x72, .i x73, .i x74, .i x75, .b x76, .i x77, .p x78, .n x79, .n x80, .p x81, .n x82, .n x83]
        let K5 : World → Prop := fun w => K0 w ∧ PickS.fact [.i x21, .i 64] [.i x23] w
        let K6 : World → Prop := fun w => K5 w ∧ J3.fact v1 w
        let K7 : World → Prop := fun w => K6 w ∧ J5.fact v2 w
        let K8 : World → Prop := fun w => K7 w ∧ J7.fact v3 w
        s.post us o4 ∧ (∀ w : World, K8 w → s.fact us o4 w)
       ))
       )
      ))
      )
     ))
     )
    ))
    )
set_option maxRecDepth 100000 in
theorem vc_shown (s : Ctr) (PickS SeatedS BDigS NameS : Ctr) (J3 J5 J7 : Inv) (x0 : Int) (x1 : Int) (x2 : Int) (x3 : Int) (x4 : Int) (x5 : Int) (x6 : Int) (x7 : Int) (x8 : Int) (x9 : Int) (x10 : Int) (x11 : Int) (x12 : Int) (x13 : Bool) (x14 : Int) (x15 : Option Addr) (x16 : Nat) (x17 : Nat) (x18 : Option Addr) (x19 : Nat) (x20 : Nat) (x21 : Int) {α22 : Type} (x22 : α22) (base : Nat) : (vcOf Try.prog cfg_shown 30).den (smOf [(13, PickS), (31, SeatedS), (70, BDigS), (36, NameS)] s [(1003, J3), (1005, J5), (1007, J7)] [.i x0, .i x1, .i x2, .i x3, .i x4, .i x5, .i x6, .i x7, .i x8, .i x9, .i x10, .i x11, .i x12, .b x13, .i x14, .p x15, .n x16, .n x17, .p x18, .n x19, .n x20, .i x21, .g x22] base) (rhoOf [.i x0, .i x1, .i x2, .i x3, .i x4, .i x5, .i x6, .i x7, .i x8, .i x9, .i x10, .i x11, .i x12, .b x13, .i x14, .p x15, .n x16, .n x17, .p x18, .n x19, .n x20, .i x21, .g x22] [.i, .i, .i, .i, .i, .i, .i, .i, .i, .i, .i, .i, .i, .b, .i, .p, .n, .n, .p, .n, .n, .i, .g]) = VC_shown s PickS SeatedS BDigS NameS J3 J5 J7 x0 x1 x2 x3 x4 x5 x6 x7 x8 x9 x10 x11 x12 x13 x14 x15 x16 x17 x18 x19 x20 x21 x22 base := by kernel_rfl
set_option maxRecDepth 100000 in
theorem keeps_shown (s : Ctr) (hg : s.gh = 1) (PickS SeatedS BDigS NameS : Ctr) (hPickS13 : Keeps Try.prog 13 PickS) (gPickS13 : PickS.gh = 0) (hSeatedS31 : Keeps Try.prog 31 SeatedS) (gSeatedS31 : SeatedS.gh = 1) (hBDigS70 : Keeps Try.prog 70 BDigS) (gBDigS70 : BDigS.gh = 1) (hNameS36 : Keeps Try.prog 36 NameS) (gNameS36 : NameS.gh = 0) (mono : ∀ us w w', s.pre us w → Below w.heap.size w w' → s.pre us w')
    (vc : ∀ (x0 : Int) (x1 : Int) (x2 : Int) (x3 : Int) (x4 : Int) (x5 : Int) (x6 : Int) (x7 : Int) (x8 : Int) (x9 : Int) (x10 : Int) (x11 : Int) (x12 : Int) (x13 : Bool) (x14 : Int) (x15 : Option Addr) (x16 : Nat) (x17 : Nat) (x18 : Option Addr) (x19 : Nat) (x20 : Nat) (x21 : Int) (α22 : Type) (x22 : α22) (w : World), s.pre [.i x0, .i x1, .i x2, .i x3, .i x4, .i x5, .i x6, .i x7, .i x8, .i x9, .i x10, .i x11, .i x12, .b x13, .i x14, .p x15, .n x16, .n x17, .p x18, .n x19, .n x20, .i x21, .g x22] w → ∃ J3 : Inv, ∃ J5 : Inv, ∃ J7 : Inv, VC_shown s PickS SeatedS BDigS NameS J3 J5 J7 x0 x1 x2 x3 x4 x5 x6 x7 x8 x9 x10 x11 x12 x13 x14 x15 x16 x17 x18 x19 x20 x21 x22 w.heap.size) : Keeps Try.prog 30 s := by
  refine keeps_of (by kernel_rfl) Try.func30 (pin := [.one (.int .i64), .agg [.int .i64, .int .i64, .int .u64, .int .u64, .int .u64, .int .u64, .int .u64, .int .u64, .int .i64, .int .i64, .int .i64, .int .i64, .bool, .int .u64, .slc, .slc, .int .i64]]) (pout := [.agg [.int .i64, .int .i64, .int .u64, .int .u64, .int .u64, .int .u64, .int .u64, .int .u64, .int .i64, .int .i64, .int .i64, .int .i64, .bool, .int .u64, .slc, .slc]]) (by kernel_rfl) (by kernel_rfl) s [(13, PickS), (31, SeatedS), (70, BDigS), (36, NameS)] ⟨hPickS13, ⟨hSeatedS31, ⟨hBDigS70, ⟨hNameS36, trivial⟩⟩⟩⟩ cfg_shown (by show cfg_shown.con = [(13, PickS.gh), (31, SeatedS.gh), (70, BDigS.gh), (36, NameS.gh)]; rw [gPickS13, gSeatedS31, gBDigS70, gNameS36]; rfl) mono ?_
  intro us w ht hp
  rw [hg] at ht ⊢
  obtain ⟨x0, us, rfl, ht0⟩ := typed_i ht
  obtain ⟨x1, us, rfl, ht1⟩ := typed_i ht0
  obtain ⟨x2, us, rfl, ht2⟩ := typed_i ht1
  obtain ⟨x3, us, rfl, ht3⟩ := typed_i ht2
  obtain ⟨x4, us, rfl, ht4⟩ := typed_i ht3
  obtain ⟨x5, us, rfl, ht5⟩ := typed_i ht4
  obtain ⟨x6, us, rfl, ht6⟩ := typed_i ht5
  obtain ⟨x7, us, rfl, ht7⟩ := typed_i ht6
  obtain ⟨x8, us, rfl, ht8⟩ := typed_i ht7
  obtain ⟨x9, us, rfl, ht9⟩ := typed_i ht8
  obtain ⟨x10, us, rfl, ht10⟩ := typed_i ht9
  obtain ⟨x11, us, rfl, ht11⟩ := typed_i ht10
  obtain ⟨x12, us, rfl, ht12⟩ := typed_i ht11
  obtain ⟨x13, us, rfl, ht13⟩ := typed_b ht12
  obtain ⟨x14, us, rfl, ht14⟩ := typed_i ht13
  obtain ⟨x15, us, rfl, ht15⟩ := typed_p ht14
  obtain ⟨x16, us, rfl, ht16⟩ := typed_n ht15
  obtain ⟨x17, us, rfl, ht17⟩ := typed_n ht16
  obtain ⟨x18, us, rfl, ht18⟩ := typed_p ht17
  obtain ⟨x19, us, rfl, ht19⟩ := typed_n ht18
  obtain ⟨x20, us, rfl, ht20⟩ := typed_n ht19
  obtain ⟨x21, us, rfl, ht21⟩ := typed_i ht20
  obtain ⟨_, x22, us, rfl, ht22⟩ := typed_g ht21
  obtain rfl := typed_nil ht22
  obtain ⟨J3, J5, J7, hv⟩ := vc x0 x1 x2 x3 x4 x5 x6 x7 x8 x9 x10 x11 x12 x13 x14 x15 x16 x17 x18 x19 x20 x21 _ x22 w hp
  exact ⟨[(1003, J3), (1005, J5), (1007, J7)], Eq.mpr (vc_shown ..) hv⟩

set_option maxRecDepth 100000 in
theorem shown_ok : Keeps Try.prog 30 ShownS := by
  refine keeps_shown ShownS rfl PickS SeatedS BDigS NameS pick_ok rfl seated_ok rfl bdig_ok rfl rname_ok rfl ?_ ?_
  · rintro us w w' ⟨wd, x, t, rfl, h, hr⟩ hb
    exact ⟨wd, x, t, rfl, heldH_on h hb, hr⟩
  · intro x0 x1 x2 x3 x4 x5 x6 x7 x8 x9 x10 x11 x12 x13 x14 x15 x16 x17 x18 x19 x20 x21 α22 x22 w hp
    obtain ⟨wd, x, t, he, hH, hwide, hlen, ht⟩ := hp
    refine ⟨shI x t, shI x t, shI x t, ?_⟩
    unfold VC_shown
    intro us K0
    have hus : us = shownU wd x t := he
    have hF : ∀ w, K0 w → heldH w x := by
      rintro w ⟨wd', x', t', he', h', _⟩
      obtain ⟨rfl, rfl, rfl⟩ := shown_inj (he.symm.trans he')
      exact h'
    unfold shownU sightU headerU certU at he
    simp only [List.cons_append, List.nil_append, List.cons.injEq, U.i.injEq, U.p.injEq, U.n.injEq, U.b.injEq, and_true] at he
    obtain ⟨rfl, rfl, rfl, rfl, rfl, rfl, rfl, rfl, rfl, rfl, rfl, rfl, rfl, rfl, rfl, rfl, rfl, rfl, rfl, rfl, rfl, rfl, _⟩ := he
    obtain ⟨hp1, hp2⟩ := ht
    refine ⟨fun w _ => ⟨x21, 64, rfl, ⟨hp1, hp2⟩, by omega, by omega⟩, ?_⟩
    intro x23 hpk
    obtain rfl := u1_inj (hpk x21 64 rfl)
    refine ⟨⟨fun h1 => ?_, fun h1 => ?_⟩, ?_⟩
    · refine ⟨List Seat, x.seats, ?_⟩
      intro gu24 u1 K2
      refine ⟨fun w hw => ⟨x.sa, x.seats, x.sc, rfl, (hF w hw.1).read, hlen, hwide⟩, ?_⟩
      intro x25 x26 x27 o3 hpost
      obtain ⟨A', c', he⟩ := hpost x.sa x.seats x.sc rfl
      intro v4 K5
      simp only [o3, seatsU, List.cons.injEq, U.p.injEq, U.n.injEq, and_true] at he
      obtain ⟨rfl, rfl, rfl⟩ := he
      have hsl := (seatedS_ok x.seats).most
      have hsF : seatedS x.seats = seatsF x x21 := by unfold seatsF; rw [if_pos h1]
      refine ⟨⟨{ x with seats := seatedS x.seats, sa := x25, sc := x27 }, rfl, hsF, rfl, by show (seatedS x.seats).length ≤ 4096; omega⟩, fun w hw => ?_, trivial⟩
      refine shQ_of (z := { x with seats := seatedS x.seats, sa := x25, sc := x27 }) rfl hsF rfl (held_seats (hF w hw.1.1) (hw.2 x.sa x.seats x.sc rfl) ?_)
      exact Nat.le_trans hsl (by decide +kernel)
    · intro v1 K2
      have hsF : x.seats = seatsF x x21 := by unfold seatsF; rw [if_neg h1]
      exact ⟨⟨x, rfl, hsF, rfl, hlen⟩, fun w hw => shQ_of (z := x) rfl hsF rfl (hF w hw.1), trivial⟩
    · intro x24 x25 x26 x27 x28 x29 x30 x31 x32 x33 x34 x35 x36 x37 x38 x39 x40 x41 x42 x43 v1 hJ
      obtain ⟨z, he, hs, hf, hl⟩ := hJ
      have hv1 : v1 = sightU z := he
      have hz : ∀ w, (shI x x21).fact v1 w → heldH w z := fun w hw => hw z hv1 hs hf
      simp only [v1, sightU, headerU, certU, List.cons_append, List.nil_append, List.cons.injEq, U.i.injEq, U.p.injEq, U.n.injEq, U.b.injEq, and_true] at he
      obtain ⟨rfl, rfl, rfl, rfl, rfl, rfl, rfl, rfl, rfl, rfl, rfl, rfl, rfl, rfl, rfl, rfl, rfl, rfl, rfl, rfl⟩ := he
      refine ⟨⟨fun h2 => ?_, fun h2 => ?_⟩, ?_⟩
      · refine ⟨List Seat, z.seats, ?_⟩
        intro gu44 u2 K3 K4
        refine ⟨fun w hw => ⟨x0, z.sa, z.seats, z.sc, rfl, (hz w hw.2).read, by omega⟩, ?_⟩
        intro x45 hpost
        obtain rfl := u1_inj (hpost x0 z.sa z.seats z.sc rfl)
        intro v5 K6
        exact ⟨⟨{ z with header := { z.header with b := benchS x0 z.seats } }, rfl, hs, hf, hl⟩, fun w hw => shQ_of (z := { z with header := { z.header with b := benchS x0 z.seats } }) rfl hs hf (held_b (hz w hw.1.2) (ofS_lt _ _ _)), trivial⟩
      · intro v2 K3 K4
        exact ⟨⟨z, rfl, hs, hf, hl⟩, fun w hw => shQ_of (z := z) rfl hs hf (hz w hw.2), trivial⟩
      · clear hz
        clear hv1
        intro x44 x45 x46 x47 x48 x49 x50 x51 x52 x53 x54 x55 x56 x57 x58 x59 x60 x61 x62 x63 v2 hJ
        obtain ⟨z2, he, hs, hf, hl⟩ := hJ
        have hv1 : v2 = sightU z2 := he
        have hz : ∀ w, (shI x x21).fact v2 w → heldH w z2 := fun w hw => hw z2 hv1 hs hf
        simp only [v2, sightU, headerU, certU, List.cons_append, List.nil_append, List.cons.injEq, U.i.injEq, U.p.injEq, U.n.injEq, U.b.injEq, and_true] at he
        obtain ⟨rfl, rfl, rfl, rfl, rfl, rfl, rfl, rfl, rfl, rfl, rfl, rfl, rfl, rfl, rfl, rfl, rfl, rfl, rfl, rfl⟩ := he
        refine ⟨⟨fun h2 => ?_, fun h2 => ?_⟩, ?_⟩
        · intro v3 K4 K5 K6
          exact ⟨⟨{ z2 with cert := { z2.cert with h := z2.header.h, s := 2, has := true } }, rfl, hs, hf, hl⟩, fun w hw => shQ_of (z := { z2 with cert := { z2.cert with h := z2.header.h, s := 2, has := true } }) rfl hs hf (held_cert (hz w hw.2)), trivial⟩
        · intro v3 K4 K5 K6
          exact ⟨⟨z2, rfl, hs, hf, hl⟩, fun w hw => shQ_of (z := z2) rfl hs hf (hz w hw.2), trivial⟩
        · clear hz
          clear hv1
          intro x64 x65 x66 x67 x68 x69 x70 x71 x72 x73 x74 x75 x76 x77 x78 x79 x80 x81 x82 x83 v3 hJ
          obtain ⟨z3, he, hs, hf, hl⟩ := hJ
          have hv1 : v3 = sightU z3 := he
          have hz : ∀ w, (shI x x21).fact v3 w → heldH w z3 := fun w hw => hw z3 hv1 hs hf
          simp only [v3, sightU, headerU, certU, List.cons_append, List.nil_append, List.cons.injEq, U.i.injEq, U.p.injEq, U.n.injEq, U.b.injEq, and_true] at he
          obtain ⟨rfl, rfl, rfl, rfl, rfl, rfl, rfl, rfl, rfl, rfl, rfl, rfl, rfl, rfl, rfl, rfl, rfl, rfl, rfl, rfl⟩ := he
          refine ⟨fun h2 => ?_, fun h2 => ?_⟩
          · intro u4 K5 K6 K7 K8
            refine ⟨fun w hw => ⟨x0, z3.header, rfl, (hz w hw.2).header⟩, ?_⟩
            intro x84 hpost
            obtain rfl := u1_inj (hpost x0 z3.header rfl)
            intro o9 K10
            refine ⟨fun wd' x' t' he => ?_, fun w hw wd' x' t' he => ?_⟩
            · obtain ⟨rfl, rfl, rfl⟩ := shown_inj (hus.symm.trans he)
              exact ⟨{ z3 with cert := { z3.cert with b := nameS x0 z3.header } }, rfl, hs, hf, hl⟩
            · obtain ⟨rfl, rfl, rfl⟩ := shown_inj (hus.symm.trans he)
              exact shQ_of (z := { z3 with cert := { z3.cert with b := nameS x0 z3.header } }) rfl hs hf (held_cb (hz w hw.1.2) (ofS_lt _ _ _))
          · intro o4 K5 K6 K7 K8
            refine ⟨fun wd' x' t' he => ?_, fun w hw wd' x' t' he => ?_⟩
            · obtain ⟨rfl, rfl, rfl⟩ := shown_inj (hus.symm.trans he)
              exact ⟨z3, rfl, hs, hf, hl⟩
            · obtain ⟨rfl, rfl, rfl⟩ := shown_inj (hus.symm.trans he)
              exact shQ_of (z := z3) rfl hs hf (hz w hw.2)
end Go.Proofs.Ytjjkdmngmopjbaa
