/- Of the texts VL4. -/
import Derived.Test.YtjjkdmngmopjbaaG14
import Derived.Test.YtjjkdmngmopjbaaG34
import Derived.Test.YtjjkdmngmopjbaaG39
set_option linter.unusedSimpArgs false
set_option linter.unusedVariables false
namespace Go.Proofs.Ytjjkdmngmopjbaa
open Go.RowKit Vc
theorem loads_rd {w : World} {B size n : Nat} {A : Option Addr} {xs : List Value} (h : Rd w B size A n xs) (hn : 0 < n) {off : Nat} {part : List Value} (hp : ∀ j v, part[j]? = some v → xs[off + j]? = some v) : LoadsAt w (A.map (·.add off)) part := by
  obtain ⟨b, o, rfl, _, hc⟩ := h.2 hn
  refine ⟨⟨b, o + off, none⟩, ?_, fun j v hv => ?_⟩
  · show some ((⟨b, o, none⟩ : Addr).add off) = _
    rw [add_plain]
  · rw [add_plain, Nat.add_assoc]
    exact hc _ v (hp j v hv)
theorem rd_some {w : World} {B size n : Nat} {A : Option Addr} {xs : List Value} (h : Rd w B size A n xs) (hn : 0 < n) : ¬ (A.isNone = true) := by
  obtain ⟨b, o, rfl, _⟩ := h.2 hn
  simp
theorem loads_lay {α : Type} {n : Nat} {f : α → List Value} (hf : ∀ x, (f x).length = n) {w : World} {B : Nat} {A : Option Addr} {l : List α} (h : Lay n f w B A l) {k : Nat} (hk : k < l.length) {off : Nat} {part : List Value} (hl : off + part.length ≤ n) (hp : ∀ j v, part[j]? = some v → (f l[k])[off + j]? = some v) : LoadsAt w (A.map (·.add (k * n + off))) part := by
  refine loads_rd h (by omega) fun j v hv => ?_
  have hj : j < part.length := (List.getElem?_eq_some_iff.1 hv).1
  rw [Nat.add_assoc, flatMap_at n f hf l k (off + j) (by omega), List.getElem?_eq_getElem hk]
  exact hp j v hv
theorem sumL_mem {α : Type} (f : α → Nat) : ∀ {l : List α} {x : α}, x ∈ l → f x ≤ sumL f l
  | y :: l, x, h => by
    rw [sumL_cons]
    rcases List.mem_cons.1 h with rfl | h
    · omega
    · have := sumL_mem f h
      omega
theorem tri2 {a b L P : Prop} (hL : a → b → L) (hP : ¬ b ∨ ¬ a → P) : (a → (b → L) ∧ (¬ b → P)) ∧ (¬ a → P) := ⟨fun ha => ⟨hL ha, fun hb => hP (.inl hb)⟩, fun ha => hP (.inr ha)⟩
def costS (y : ShownD) : Nat := y.s.seats.length + y.s.cert.froms.length + 1
def lawU (b : Bel) (A : Option Addr) (k : Nat) (l : List ShownD) (LA : Option Addr) (lc : Nat) : List U := belU b A k ++ [.p LA, .n l.length, .n lc] ++ [.g b, .g l]
def lawH (w : World) (b : Bel) (A : Option Addr) (l : List ShownD) (LA : Option Addr) : Prop := SeatsL w w.heap.size A b.seats ∧ Lay 17 ShownD.cells w w.heap.size LA l ∧ ∀ y ∈ l, heldH w y.s
structure LawP (b : Bel) (l : List ShownD) : Prop where
  s : 0 ≤ b.s ∧ b.s < 18446744073709551616
  wide : Wide b.seats
  w : -9223372036854775808 ≤ b.w ∧ b.w ≤ 9223372036854775807
  e : -9223372036854775808 ≤ b.e ∧ b.e ≤ 9223372036854775807
  h : -9223372036854775808 ≤ b.h ∧ b.h ≤ 9223372036854775807
  each : ∀ y ∈ l, Wide y.s.seats ∧ -9223372036854775808 ≤ y.t ∧ y.t ≤ 9223372036854775807
  n : b.seats.length ≤ 1048576
  m : l.length ≤ 1048576
  ms : ∀ y ∈ l, y.s.seats.length ≤ 1048576 ∧ y.s.cert.froms.length ≤ 1048576
def LawS : Ctr := {
  gh := 2
  pre := fun us w => ∃ (b : Bel) (A : Option Addr) (k : Nat) (l : List ShownD) (LA : Option Addr) (lc : Nat), us = lawU b A k l LA lc ∧ LawP b l ∧ lawH w b A l LA
  post := fun _ os => os = [.b true]
  fact := fun _ _ _ => True }
theorem law_inj {b b' : Bel} {A A' : Option Addr} {k k' : Nat} {l l' : List ShownD} {LA LA' : Option Addr} {lc lc' : Nat} (h : lawU b A k l LA lc = lawU b' A' k' l' LA' lc') : b = b' ∧ l = l' ∧ A = A' ∧ LA = LA' := by
  unfold lawU belU at h
  simp only [List.cons_append, List.nil_append, List.cons.injEq, U.i.injEq, U.p.injEq, U.n.injEq, U.b.injEq, U.g.injEq, heq_eq_eq, true_and, and_true] at h
  exact ⟨h.2.2.2.2.2.2.2.2.2.2.2.1, h.2.2.2.2.2.2.2.2.2.2.2.2, h.2.2.2.2.2.1, h.2.2.2.2.2.2.2.2.1⟩
structure Good (l : List ShownD) (ls : List SightD) : Prop where
  len : ls.length ≤ l.length
  seats : ls.map SightD.seats = (l.take ls.length).map (fun y => seatsF y.s y.t)
  froms : ls.map (fun z => z.cert.froms) = (l.take ls.length).map (fun y => y.s.cert.froms)
  short : ∀ z ∈ ls, z.seats.length ≤ 4096 ∧ z.cert.froms.length ≤ 4096
def v11 (ls : List SightD) : List U := [.n ls.length, .l (ls.flatMap SightD.cells), .i ls.length]
theorem cell_eq {z z' : SightD} (h : SightD.cells z = SightD.cells z') (hs : z.seats = z'.seats) (hf : z.cert.froms = z'.cert.froms) : z = z' := by
  obtain ⟨⟨⟩, ⟨⟩, _, _, _⟩ := z
  obtain ⟨⟨⟩, ⟨⟩, _, _, _⟩ := z'
  unfold SightD.cells at h
  simp only [List.cons.injEq, Value.int.injEq, Value.bool.injEq, Value.slice.injEq, true_and, and_true] at h hs hf
  subst hs hf
  simp only [true_and] at h
  obtain ⟨rfl, rfl, rfl, rfl, rfl, rfl, rfl, rfl, rfl, rfl, rfl, rfl, rfl, rfl, ⟨rfl, rfl⟩, rfl, rfl⟩ := h
  rfl
theorem cells_inj : ∀ {ls ls' : List SightD}, ls.flatMap SightD.cells = ls'.flatMap SightD.cells → ls.map SightD.seats = ls'.map SightD.seats → ls.map (fun z => z.cert.froms) = ls'.map (fun z => z.cert.froms) → ls = ls'
  | [], [], _, _, _ => rfl
  | [], _ :: _, _, h, _ => by cases h
  | _ :: _, [], _, h, _ => by cases h
  | z :: ls, z' :: ls', h, hs, hf => by
    simp only [List.flatMap_cons, List.map_cons, List.cons.injEq] at h hs hf
    obtain ⟨h1, h2⟩ := List.append_inj h rfl
    rw [cell_eq h1 hs.1 hf.1, cells_inj h2 hs.2 hf.2]
theorem v11_inj {l : List ShownD} {ls ls' : List SightD} (h : v11 ls = v11 ls') (g : Good l ls) (g' : Good l ls') : ls = ls' := by
  unfold v11 at h
  simp only [List.cons.injEq, U.n.injEq, U.l.injEq] at h
  refine cells_inj h.2.1 ?_ ?_
  · rw [g.seats, g'.seats, h.1]
  · rw [g.froms, g'.froms, h.1]
theorem Good.snoc {l : List ShownD} {ls : List SightD} (g : Good l ls) (hk : ls.length < l.length) {z : SightD} (hs : z.seats = seatsF l[ls.length].s l[ls.length].t) (hf : z.cert.froms = l[ls.length].s.cert.froms) (h1 : z.seats.length ≤ 4096) (h2 : z.cert.froms.length ≤ 4096) : Good l (ls ++ [z]) := by
  refine ⟨by simp; omega, ?_, ?_, ?_⟩
  · rw [List.map_append, g.seats, List.length_append, List.length_singleton, List.take_succ_eq_append_getElem hk, List.map_append]
    simp [hs]
  · rw [List.map_append, g.froms, List.length_append, List.length_singleton, List.take_succ_eq_append_getElem hk, List.map_append]
    simp [hf]
  · intro y hy
    rcases List.mem_append.1 hy with hy | hy
    · exact g.short y hy
    · rw [List.mem_singleton.1 hy]
      exact ⟨h1, h2⟩
def lI3 (b : Bel) (l : List ShownD) : Inv := { inv := fun vs => ∃ k, k ≤ l.length ∧ vs = [.i ((b.seats.length + sumL costS (l.take k) : Nat) : Int), .i k], fact := fun _ _ => True, mea := fun vs => l.length - (at_ vs 1).I.toNat }
def lI11 (l : List ShownD) : Inv := { inv := fun vs => ∃ ls, Good l ls ∧ vs = v11 ls, fact := fun vs w => ∀ ls, Good l ls → vs = v11 ls → ∀ z ∈ ls, heldH w z, mea := fun vs => l.length - (at_ vs 0).N }
def lI23 (l : List ShownD) : Inv := { inv := fun vs => ∃ k : Nat, k ≤ l.length ∧ vs = [.i k], fact := fun _ _ => True, mea := fun vs => l.length - (at_ vs 0).I.toNat }
def benchF (b : Bel) : List Seat := if 0 < pickS b.h 8 then seatedS b.seats else b.seats
def lJ14 (b : Bel) : Inv := { inv := fun vs => ∃ (c : Bel) (A : Option Addr) (k : Nat), vs = belU c A k ∧ c.seats = benchF b ∧ c.seats.length ≤ 4096 ∧ (0 ≤ c.s ∧ c.s < 18446744073709551616) ∧ (-9223372036854775808 ≤ c.e ∧ c.e ≤ 9223372036854775807) ∧ -9223372036854775808 ≤ c.h ∧ c.h ≤ 9223372036854775807, fact := fun vs w => SeatsL w w.heap.size (at_ vs 5).P (benchF b), mea := fun _ => 0 }
theorem laccept_ok : Keeps Try.prog 37 AccS := accS_of Try.func37 (by kernel_rfl) (by kernel_rfl) fun b A k x w hb hx h1 h2 => acceptX_any b A k x w.heap.size w hb.1 hb.2.1 hx (Nat.le_refl _) hb.2.2 h1 h2
theorem raccept_ok : Keeps Try.prog 38 AccS := accS_of Try.func38 (by kernel_rfl) (by kernel_rfl) fun b A k x w hb hx h1 h2 => racceptX_any b A k x w.heap.size w hb.1 hb.2.1 hx (Nat.le_refl _) hb.2.2 h1 h2
def cfg_Light : Cfg := { con := [(13, 0), (31, 1), (30, 1), (32, 2), (33, 2), (37, 2), (38, 2), (35, 0), (36, 0), (34, 1), (39, 0), (40, 0)], own := 2, loops := [(3, { slots := [5, 6], blks := [], rows := [], extra := [] }), (11, { slots := [8, 9], blks := [], rows := [8], extra := [] }), (23, { slots := [14], blks := [], rows := [], extra := [] })], joins := [(14, { slots := [], blks := [2], rows := [], extra := [] })], wraps := [], rows := [(8, 85)], retire := [90] }
set_option maxRecDepth 100000 in
def VC_Light (s : Ctr) (PickS SeatedS ShownS FolS AccS NameS SameVS EpochS : Ctr) (I3 I11 I23 J14 : Inv) (x0 : Int) (x1 : Int) (x2 : Int) (x3 : Int) (x4 : Int) (x5 : Option Addr) (x6 : Nat) (x7 : Nat) (x8 : Option Addr) (x9 : Nat) (x10 : Nat) {α11 : Type} (x11 : α11) {α12 : Type} (x12 : α12) (base : Nat) : Prop :=
    let us : List U := [.i x0, .i x1, .i x2, .i x3, .i x4, .p x5, .n x6, .n x7, .p x8, .n x9, .n x10, .g x11, .g x12]
    let K0 : World → Prop := fun w => s.pre us w
    I3.inv [.i ((x6 : Nat) : Int), .i 0] ∧ (∀ w : World, K0 w → I3.fact [.i ((x6 : Nat) : Int), .i 0] w) ∧
    ∀ (x13 : Int) (x14 : Int),
    (I3.inv [.i x13, .i x14] →
    ((
     (x14 < ((x9 : Nat) : Int)) →
     ((
      (x13 ≤ 4096) →
      let K1 : World → Prop := fun w => K0 w ∧ I3.fact [.i x13, .i x14] w
      (∀ w : World, K1 w → (¬ (x8.isNone = true))) ∧
      (0 ≤ x14) ∧
      ∃ (x15 : Option Addr) (x16 : Nat) (x17 : Nat),
      (∀ w : World, K1 w → LoadsAt w (x8.map (·.add ((x14.toNat * 17) + 15))) [Value.slice x15 x16 x17]) ∧
      (((-9223372036854775808) ≤ (x13 + ((x16 : Nat) : Int))) ∧ ((x13 + ((x16 : Nat) : Int)) ≤ 9223372036854775807)) ∧
      ∃ (x18 : Option Addr) (x19 : Nat) (x20 : Nat),
      (∀ w : World, K1 w → LoadsAt w (x8.map (·.add (((x14.toNat * 17) + 9) + 5))) [Value.slice x18 x19 x20]) ∧
      (((-9223372036854775808) ≤ ((x13 + ((x16 : Nat) : Int)) + ((x19 : Nat) : Int))) ∧ (((x13 + ((x16 : Nat) : Int)) + ((x19 : Nat) : Int)) ≤ 9223372036854775807)) ∧
      (((-9223372036854775808) ≤ (((x13 + ((x16 : Nat) : Int)) + ((x19 : Nat) : Int)) + 1)) ∧ ((((x13 + ((x16 : Nat) : Int)) + ((x19 : Nat) : Int)) + 1) ≤ 9223372036854775807)) ∧
      (((-9223372036854775808) ≤ (x14 + 1)) ∧ ((x14 + 1) ≤ 9223372036854775807)) ∧
      I3.inv [.i (((x13 + ((x16 : Nat) : Int)) + ((x19 : Nat) : Int)) + 1), .i (x14 + 1)] ∧ (∀ w : World, K1 w → I3.fact [.i (((x13 + ((x16 : Nat) : Int)) + ((x19 : Nat) : Int)) + 1), .i (x14 + 1)] w) ∧
      I3.mea [.i (((x13 + ((x16 : Nat) : Int)) + ((x19 : Nat) : Int)) + 1), .i (x14 + 1)] < I3.mea [.i x13, .i x14] ∧
      True
     ) ∧ (
      (¬ (x13 ≤ 4096)) →
      ((
       (4096 < x13) →
       let K1 : World → Prop := fun w => K0 w ∧ I3.fact [.i x13, .i x14] w
       s.post us [.b true] ∧ (∀ w : World, K1 w → s.fact us [.b true] w)
      ) ∧ (
       (¬ (4096 < x13)) →
       let K1 : World → Prop := fun w => K0 w ∧ I3.fact [.i x13, .i x14] w
       (∀ w : World, K1 w → PickS.pre [.i x1, .i 8] w) ∧
       ∀ (x15 : Int),
       (PickS.post [.i x1, .i 8] [.i x15] →
       (((-9223372036854775808) ≤ (1 + x15)) ∧ ((1 + x15) ≤ 9223372036854775807)) ∧
       let v2 : List U := [.n 0, .l [], .i 0]
       let K3 : World → Prop := fun w => K1 w ∧ PickS.fact [.i x1, .i 8] [.i x15] w
       I11.inv v2 ∧ (∀ w : World, K3 w → I11.fact v2 w) ∧
       ∀ (x16 : Nat) (x17 : List Value) (x18 : Int),
       let v4 : List U := [.n x16, .l x17, .i x18]
       (I11.inv v4 →
       ((
        (x18 < ((x9 : Nat) : Int)) →
        let K5 : World → Prop := fun w => K3 w ∧ I11.fact v4 w
        (∀ w : World, K5 w → (¬ (x8.isNone = true))) ∧
        (0 ≤ x18) ∧
        ∃ (x19 : Int) (x20 : Int) (x21 : Int) (x22 : Int) (x23 : Int) (x24 : Int) (x25 : Int) (x26 : Int) (x27 : Int) (x28 : Int) (x29 : Int) (x30 : Int) (x31 : Bool) (x32 : Int) (x33 : Option Addr) (x34 : Nat) (x35 : Nat) (x36 : Option Addr) (x37 : Nat) (x38 : Nat) (x39 : Int),
        (∀ w : World, K5 w → LoadsAt w (x8.map (·.add (x18.toNat * 17))) [Value.int .i64 x19, Value.int .i64 x20, Value.int .u64 x21, Value.int .u64 x22, Value.int .u64 x23, Value.int .u64 x24, Value.int .u64 x25, Value.int .u64 x26, Value.int .i64 x27, Value.int .i64 x28, Value.int .i64 x29, Value.int .i64 x30, Value.bool x31, Value.int .u64 x32, Value.slice x33 x34 x35, Value.slice x36 x37 x38, Value.int .i64 x39]) ∧
        ∃ (α40 : Type) (x40 : α40),
        let gu40 : U := .g x40
        let u6 : List U := [.i (1 + x15), .i x19, .i x20, .i x21, .i x22, .i x23, .i x24, .i x25, .i x26, .i x27, .i x28, .i x29, .i x30, .b x31, .i x32, .p x33, .n x34, .n x35, .p x36, .n x37, .n x38, .i x39, gu40]
        (∀ w : World, K5 w → ShownS.pre u6 w) ∧
        ∀ (x41 : Int) (x42 : Int) (x43 : Int) (x44 : Int) (x45 : Int) (x46 : Int) (x47 : Int) (x48 : Int) (x49 : Int) (x50 : Int) (x51 : Int) (x52 : Int) (x53 : Bool) (x54 : Int) (x55 : Option Addr) (x56 : Nat) (x57 : Nat) (x58 : Option Addr) (x59 : Nat) (x60 : Nat),
        let o7 : List U := [.i x41, .i x42, .i x43, .i x44, .i x45, .i x46, .i x47, .i x48, .i x49, .i x50, .i x51, .i x52, .b x53, .i x54, .p x55, .n x56, .n x57, .p x58, .n x59, .n x60]
        (ShownS.post u6 o7 →
        (((x16 + 1 : Nat) : Int) ≤ 9223372036854775807) ∧
        ((((x16 + 1) * 160 : Nat) : Int) ≤ 140737488355328) ∧
        (((-9223372036854775808) ≤ (x18 + 1)) ∧ ((x18 + 1) ≤ 9223372036854775807)) ∧
        let v8 : List U := [.n (x16 + 1), .l (x17 ++ ([Value.int .i64 x41] ++ ([Value.int .i64 x42] ++ ([Value.int .u64 x43] ++ ([Value.int .u64 x44] ++ ([Value.int .u64 x45] ++ ([Value.int .u64 x46] ++ ([Value.int .u64 x47] ++ ([Value.int .u64 x48] ++ ([Value.int .i64 x49] ++ ([Value.int .i64 x50] ++ ([Value.int .i64 x51] ++ ([Value.int .i64 x52] ++ ([Value.bool x53] ++ ([Value.int .u64 x54] ++ ([Value.slice x55 x56 x57] ++ [Value.slice x58 x59 x60])))))))))))))))), .i (x18 + 1)]
        let K9 : World → Prop := fun w => K5 w ∧ ShownS.fact u6 o7 w
        I11.inv v8 ∧ (∀ w : World, K9 w → I11.fact v8 w) ∧
        I11.mea v8 < I11.mea v4 ∧
        True
        )
       ) ∧ (
        (¬ (x18 < ((x9 : Nat) : Int))) →
        ((
         let K5 : World → Prop := fun w => K3 w ∧ I11.fact v4 w
         (∀ w : World, K5 w → PickS.pre [.i x3, .i 8] w) ∧
         ∀ (x19 : Int),
         (PickS.post [.i x3, .i 8] [.i x19] →
         ((
          (0 < x19) →
          let K6 : World → Prop := fun w => K5 w ∧ PickS.fact [.i x3, .i 8] [.i x19] w
          (∀ w : World, K6 w → PickS.pre [.i x2, .i 9] w) ∧
          ∀ (x20 : Int),
          (PickS.post [.i x2, .i 9] [.i x20] →
          (((-9223372036854775808) ≤ (1 + x20)) ∧ ((1 + x20) ≤ 9223372036854775807)) ∧
          ∃ (α21 : Type) (x21 : α21),
          let gu21 : U := .g x21
          let u7 : List U := [.p x5, .n x6, .n x7, gu21]
          let K8 : World → Prop := fun w => K6 w ∧ PickS.fact [.i x2, .i 9] [.i x20] w
          (∀ w : World, K8 w → SeatedS.pre u7 w) ∧
          ∀ (x22 : Option Addr) (x23 : Nat) (x24 : Nat),
          let o9 : List U := [.p x22, .n x23, .n x24]
          (SeatedS.post u7 o9 →
          let v10 : List U := [.i x0, .i (1 + x15), .i (1 + x20), .i x3, .i x4, .p x22, .n x23, .n x24]
          let K11 : World → Prop := fun w => K8 w ∧ SeatedS.fact u7 o9 w
          J14.inv v10 ∧ (∀ w : World, K11 w → J14.fact v10 w) ∧
          True
          )
          )
         ) ∧ (
          (¬ (0 < x19)) →
          let v6 : List U := [.i x0, .i x1, .i x2, .i x3, .i x4, .p x5, .n x6, .n x7]
          let K7 : World → Prop := fun w => K5 w ∧ PickS.fact [.i x3, .i 8] [.i x19] w
          J14.inv v6 ∧ (∀ w : World, K7 w → J14.fact v6 w) ∧
          True
         ))
         )
        ) ∧ (
         ∀ (x19 : Int) (x20 : Int) (x21 : Int) (x22 : Int) (x23 : Int) (x24 : Option Addr) (x25 : Nat) (x26 : Nat),
         let v5 : List U := [.i x19, .i x20, .i x21, .i x22, .i x23, .p x24, .n x25, .n x26]
         (J14.inv v5 →
         ∀ (x27 : Option Addr) (x28 : Nat),
         ∃ (α29 : Type) (x29 : α29),
         let gu29 : U := .g x29
         ∃ (α30 : Type) (x30 : α30),
         let gu30 : U := .g x30
         let u6 : List U := [.i x19, .i x20, .i x21, .i x22, .i x23, .p x24, .n x25, .n x26, .p x27, .n x16, .n x28, gu29, gu30]
         let K7 : World → Prop := fun w => K3 w ∧ I11.fact v4 w
         let K8 : World → Prop := fun w => K7 w ∧ J14.fact v5 w
         let K9 : World → Prop := fun w => K8 w ∧ w.ownsRow base 85 16 (.slice x27 x16 x28) x16 x17
         (∀ w : World, K9 w → FolS.pre u6 w) ∧
         ∀ (x31 : Int) (x32 : Int) (x33 : Int) (x34 : Int) (x35 : Int) (x36 : Option Addr) (x37 : Nat) (x38 : Nat) (x39 : Option Addr) (x40 : Nat) (x41 : Nat),
         let o10 : List U := [.i x31, .i x32, .i x33, .i x34, .i x35, .p x36, .n x37, .n x38, .p x39, .n x40, .n x41]
         (FolS.post u6 o10 →
         ∃ (α42 : Type) (x42 : α42),
         let gu42 : U := .g x42
         ∃ (α43 : Type) (x43 : α43),
         let gu43 : U := .g x43
         let u11 : List U := [.i x19, .i x20, .i x21, .i x22, .i x23, .p x24, .n x25, .n x26, .p x27, .n x16, .n x28, gu42, gu43]
         let K12 : World → Prop := fun w => K9 w ∧ FolS.fact u6 o10 w
         (∀ w : World, K12 w → FolS.pre u11 w) ∧
         ∀ (x44 : Int) (x45 : Int) (x46 : Int) (x47 : Int) (x48 : Int) (x49 : Option Addr) (x50 : Nat) (x51 : Nat) (x52 : Option Addr) (x53 : Nat) (x54 : Nat),
         let o13 : List U := [.i x44, .i x45, .i x46, .i x47, .i x48, .p x49, .n x50, .n x51, .p x52, .n x53, .n x54]
         (FolS.post u11 o13 →
         ((
          (¬ (((x40 : Nat) : Int) = ((x53 : Nat) : Int))) →
          let K14 : World → Prop := fun w => K12 w ∧ FolS.fact u11 o13 w
          s.post us [.b false] ∧ (∀ w : World, K14 w → s.fact us [.b false] w)
         ) ∧ (
          (((x40 : Nat) : Int) = ((x53 : Nat) : Int)) →
          ∃ (α55 : Type) (x55 : α55),
          let gu55 : U := .g x55
          let u14 : List U := [.i x31, .i x32, .i x33, .i x34, .i x35, .p x36, .n x37, .n x38, .i x44, .i x45, .i x46, .i x47, .i x48, .p x49, .n x50, .n x51, gu55]
          let K15 : World → Prop := fun w => K12 w ∧ FolS.fact u11 o13 w
          (∀ w : World, K15 w → SameVS.pre u14 w) ∧
          ∀ (x56 : Bool),
          (SameVS.post u14 [.b x56] →
          ((
           (¬ (x56 = true)) →
           let K16 : World → Prop := fun w => K15 w ∧ SameVS.fact u14 [.b x56] w
           s.post us [.b false] ∧ (∀ w : World, K16 w → s.fact us [.b false] w)
          ) ∧ (
           (x56 = true) →
           let K16 : World → Prop := fun w => K15 w ∧ SameVS.fact u14 [.b x56] w
           I23.inv [.i 0] ∧ (∀ w : World, K16 w → I23.fact [.i 0] w) ∧
           ∀ (x57 : Int),
           (I23.inv [.i x57] →
           ((
            (x57 < ((x40 : Nat) : Int)) →
            let K17 : World → Prop := fun w => K16 w ∧ I23.fact [.i x57] w
            (∀ w : World, K17 w → (¬ (x39.isNone = true))) ∧
            (0 ≤ x57) ∧
            ∃ (x58 : Int),
            (∀ w : World, K17 w → LoadsAt w (x39.map (·.add x57.toNat)) [Value.int .i64 x58]) ∧
            (∀ w : World, K17 w → (¬ (x52.isNone = true))) ∧
            (x57 < ((x53 : Nat) : Int)) ∧
            ∃ (x59 : Int),
            (∀ w : World, K17 w → LoadsAt w (x52.map (·.add x57.toNat)) [Value.int .i64 x59]) ∧
            ((
             (¬ (x58 = x59)) →
             s.post us [.b false] ∧ (∀ w : World, K17 w → s.fact us [.b false] w)
            ) ∧ (
             (x58 = x59) →
             (∀ w : World, K17 w → (¬ (x27.isNone = true))) ∧
             (x57 < ((x16 : Nat) : Int)) ∧
             ∃ (x60 : Int) (x61 : Int) (x62 : Int) (x63 : Int) (x64 : Int) (x65 : Int) (x66 : Int) (x67 : Int) (x68 : Int),
             (∀ w : World, K17 w → LoadsAt w (x27.map (·.add (x57.toNat * 16))) [Value.int .i64 x60, Value.int .i64 x61, Value.int .u64 x62, Value.int .u64 x63, Value.int .u64 x64, Value.int .u64 x65, Value.int .u64 x66, Value.int .u64 x67, Value.int .i64 x68]) ∧
             ∃ (x69 : Int) (x70 : Int) (x71 : Int) (x72 : Int) (x73 : Int) (x74 : Int) (x75 : Int) (x76 : Int) (x77 : Int),
             (∀ w : World, K17 w → LoadsAt w (x27.map (·.add (x57.toNat * 16))) [Value.int .i64 x69, Value.int .i64 x70, Value.int .u64 x71, Value.int .u64 x72, Value.int .u64 x73, Value.int .u64 x74, Value.int .u64 x75, Value.int .u64 x76, Value.int .i64 x77]) ∧
             let u18 : List U := [.i (1 + x15), .i x60, .i x61, .i x62, .i x63, .i x64, .i x65, .i x66, .i x67, .i x68]
             (∀ w : World, K17 w → NameS.pre u18 w) ∧
             ∀ (x78 : Int),
             (NameS.post u18 [.i x78] →
             let u19 : List U := [.i (1 + x15), .i x69, .i x70, .i x71, .i x72, .i x73, .i x74, .i x75, .i x76, .i x77]
             let K20 : World → Prop := fun w => K17 w ∧ NameS.fact u18 [.i x78] w
             (∀ w : World, K20 w → NameS.pre u19 w) ∧
             ∀ (x79 : Int),
             (NameS.post u19 [.i x79] →
             ((
              (¬ (x78 = x79)) →
              let K21 : World → Prop := fun w => K20 w ∧ NameS.fact u19 [.i x79] w
              s.post us [.b false] ∧ (∀ w : World, K21 w → s.fact us [.b false] w)
             ) ∧ (
              (x78 = x79) →
              ∃ (x80 : Int) (x81 : Int) (x82 : Int) (x83 : Int) (x84 : Int) (x85 : Int) (x86 : Int) (x87 : Int) (x88 : Int) (x89 : Int) (x90 : Int) (x91 : Int) (x92 : Bool) (x93 : Int) (x94 : Option Addr) (x95 : Nat) (x96 : Nat) (x97 : Option Addr) (x98 : Nat) (x99 : Nat),
              let K21 : World → Prop := fun w => K20 w ∧ NameS.fact u19 [.i x79] w
              (∀ w : World, K21 w → LoadsAt w (x27.map (·.add (x57.toNat * 16))) [Value.int .i64 x80, Value.int .i64 x81, Value.int .u64 x82, Value.int .u64 x83, Value.int .u64 x84, Value.int .u64 x85, Value.int .u64 x86, Value.int .u64 x87, Value.int .i64 x88, Value.int .i64 x89, Value.int .i64 x90, Value.int .i64 x91, Value.bool x92, Value.int .u64 x93, Value.slice x94 x95 x96, Value.slice x97 x98 x99]) ∧
              ∃ (α100 : Type) (x100 : α100),
              let gu100 : U := .g x100
              ∃ (α101 : Type) (x101 : α101),
              let gu101 : U := .g x101
              let u22 : List U := [.i x19, .i x20, .i x21, .i x22, .i x23, .p x24, .n x25, .n x26, .i x80, .i x81, .i x82, .i x83, .i x84, .i x85, .i x86, .i x87, .i x88, .i x89, .i x90, .i x91, .b x92, .i x93, .p x94, .n x95, .n x96, .p x97, .n x98, .n x99, gu100, gu101]
              (∀ w : World, K21 w → AccS.pre u22 w) ∧
              ∀ (x102 : Int) (x103 : Int) (x104 : Int) (x105 : Int) (x106 : Int) (x107 : Option Addr) (x108 : Nat) (x109 : Nat) (x110 : Int),
              let o23 : List U := [.i x102, .i x103, .i x104, .i x105, .i x106, .p x107, .n x108, .n x109, .i x110]
              (AccS.post u22 o23 →
              ∃ (x111 : Int) (x112 : Int) (x113 : Int) (x114 : Int) (x115 : Int) (x116 : Int) (x117 : Int) (x118 : Int) (x119 : Int) (x120 : Int) (x121 : Int) (x122 : Int) (x123 : Bool) (x124 : Int) (x125 : Option Addr) (x126 : Nat) (x127 : Nat) (x128 : Option Addr) (x129 : Nat) (x130 : Nat),
              let K24 : World → Prop := fun w => K21 w ∧ AccS.fact u22 o23 w
              (∀ w : World, K24 w → LoadsAt w (x27.map (·.add (x57.toNat * 16))) [Value.int .i64 x111, Value.int .i64 x112, Value.int .u64 x113, Value.int .u64 x114, Value.int .u64 x115, Value.int .u64 x116, Value.int .u64 x117, Value.int .u64 x118, Value.int .i64 x119, Value.int .i64 x120, Value.int .i64 x121, Value.int .i64 x122, Value.bool x123, Value.int .u64 x124, Value.slice x125 x126 x127, Value.slice x128 x129 x130]) ∧
              ∃ (α131 : Type) (x131 : α131),
              let gu131 : U := .g x131
              ∃ (α132 : Type) (x132 : α132),
              let gu132 : U := .g x132
              let u25 : List U := [.i x19, .i x20, .i x21, .i x22, .i x23, .p x24, .n x25, .n x26, .i x111, .i x112, .i x113, .i x114, .i x115, .i x116, .i x117, .i x118, .i x119, .i x120, .i x121, .i x122, .b x123, .i x124, .p x125, .n x126, .n x127, .p x128, .n x129, .n x130, gu131, gu132]
              (∀ w : World, K24 w → AccS.pre u25 w) ∧
              ∀ (x133 : Int) (x134 : Int) (x135 : Int) (x136 : Int) (x137 : Int) (x138 : Option Addr) (x139 : Nat) (x140 : Nat) (x141 : Int),
              let o26 : List U := [.i x133, .i x134, .i x135, .i x136, .i x137, .p x138, .n x139, .n x140, .i x141]
              (AccS.post u25 o26 →
              ((
               (¬ (x110 = x141)) →
               let K27 : World → Prop := fun w => K24 w ∧ AccS.fact u25 o26 w
               s.post us [.b false] ∧ (∀ w : World, K27 w → s.fact us [.b false] w)
              ) ∧ (
               (x110 = x141) →
               ∃ (α142 : Type) (x142 : α142),
               let gu142 : U := .g x142
               let u27 : List U := [.i x102, .i x103, .i x104, .i x105, .i x106, .p x107, .n x108, .n x109, .i x133, .i x134, .i x135, .i x136, .i x137, .p x138, .n x139, .n x140, gu142]
               let K28 : World → Prop := fun w => K24 w ∧ AccS.fact u25 o26 w
               (∀ w : World, K28 w → SameVS.pre u27 w) ∧
               ∀ (x143 : Bool),
               (SameVS.post u27 [.b x143] →
               ((
                (¬ (x143 = true)) →
                let K29 : World → Prop := fun w => K28 w ∧ SameVS.fact u27 [.b x143] w
                s.post us [.b false] ∧ (∀ w : World, K29 w → s.fact us [.b false] w)
               ) ∧ (
                (x143 = true) →
                (((-9223372036854775808) ≤ (x57 + 1)) ∧ ((x57 + 1) ≤ 9223372036854775807)) ∧
                let K29 : World → Prop := fun w => K28 w ∧ SameVS.fact u27 [.b x143] w
                I23.inv [.i (x57 + 1)] ∧ (∀ w : World, K29 w → I23.fact [.i (x57 + 1)] w) ∧
                I23.mea [.i (x57 + 1)] < I23.mea [.i x57] ∧
                True
               ))
               )
              ))
              )
              )
             ))
             )
             )
            ))
           ) ∧ (
            (¬ (x57 < ((x40 : Nat) : Int))) →
            let K17 : World → Prop := fun w => K16 w ∧ I23.fact [.i x57] w
            (∀ w : World, K17 w → PickS.pre [.i x22, .i 99] w) ∧
            ∀ (x58 : Int),
            (PickS.post [.i x22, .i 99] [.i x58] →
            (((-9223372036854775808) ≤ (1 + x58)) ∧ ((1 + x58) ≤ 9223372036854775807)) ∧
            let K18 : World → Prop := fun w => K17 w ∧ PickS.fact [.i x22, .i 99] [.i x58] w
            (∀ w : World, K18 w → PickS.pre [.i x21, .i 9] w) ∧
            ∀ (x59 : Int),
            (PickS.post [.i x21, .i 9] [.i x59] →
            (((-9223372036854775808) ≤ (1 + x59)) ∧ ((1 + x59) ≤ 9223372036854775807)) ∧
            let K19 : World → Prop := fun w => K18 w ∧ PickS.fact [.i x21, .i 9] [.i x59] w
            (∀ w : World, K19 w → EpochS.pre [.i (1 + x58), .i (1 + x59)] w) ∧
            ∀ (x60 : Int),
            (EpochS.post [.i (1 + x58), .i (1 + x59)] [.i x60] →
            let K20 : World → Prop := fun w => K19 w ∧ EpochS.fact [.i (1 + x58), .i (1 + x59)] [.i x60] w
            (∀ w : World, K20 w → PickS.pre [.i x22, .i 99] w) ∧
            ∀ (x61 : Int),
            (PickS.post [.i x22, .i 99] [.i x61] →
            (((-9223372036854775808) ≤ (1 + x61)) ∧ ((1 + x61) ≤ 9223372036854775807)) ∧
            let K21 : World → Prop := fun w => K20 w ∧ PickS.fact [.i x22, .i 99] [.i x61] w
            (∀ w : World, K21 w → PickS.pre [.i x21, .i 9] w) ∧
            ∀ (x62 : Int),
            (PickS.post [.i x21, .i 9] [.i x62] →
            (((-9223372036854775808) ≤ (1 + x62)) ∧ ((1 + x62) ≤ 9223372036854775807)) ∧
            let K22 : World → Prop := fun w => K21 w ∧ PickS.fact [.i x21, .i 9] [.i x62] w
            (∀ w : World, K22 w → EpochS.pre [.i (1 + x61), .i (1 + x62)] w) ∧
            ∀ (x63 : Int),
            (EpochS.post [.i (1 + x61), .i (1 + x62)] [.i x63] →
            let K23 : World → Prop := fun w => K22 w ∧ EpochS.fact [.i (1 + x61), .i (1 + x62)] [.i x63] w
            s.post us [.b (x60 == x63)] ∧ (∀ w : World, K23 w → s.fact us [.b (x60 == x63)] w)
            )
            )
            )
            )
            )
            )
           ))
           )
          ))
          )
         ))
         )
         )
         )
        ))
       ))
       )
       )
      ))
     ))
    ) ∧ (
     (¬ (x14 < ((x9 : Nat) : Int))) →
     ((
      (4096 < x13) →
      let K1 : World → Prop := fun w => K0 w ∧ I3.fact [.i x13, .i x14] w
      s.post us [.b true] ∧ (∀ w : World, K1 w → s.fact us [.b true] w)
     ) ∧ (
      (¬ (4096 < x13)) →
      let K1 : World → Prop := fun w => K0 w ∧ I3.fact [.i x13, .i x14] w
      (∀ w : World, K1 w → PickS.pre [.i x1, .i 8] w) ∧
      ∀ (x15 : Int),
      (PickS.post [.i x1, .i 8] [.i x15] →
      (((-9223372036854775808) ≤ (1 + x15)) ∧ ((1 + x15) ≤ 9223372036854775807)) ∧
      let v2 : List U := [.n 0, .l [], .i 0]
      let K3 : World → Prop := fun w => K1 w ∧ PickS.fact [.i x1, .i 8] [.i x15] w
      I11.inv v2 ∧ (∀ w : World, K3 w → I11.fact v2 w) ∧
      ∀ (x16 : Nat) (x17 : List Value) (x18 : Int),
      let v4 : List U := [.n x16, .l x17, .i x18]
      (I11.inv v4 →
      ((
       (x18 < ((x9 : Nat) : Int)) →
       let K5 : World → Prop := fun w => K3 w ∧ I11.fact v4 w
       (∀ w : World, K5 w → (¬ (x8.isNone = true))) ∧
       (0 ≤ x18) ∧
       ∃ (x19 : Int) (x20 : Int) (x21 : Int) (x22 : Int) (x23 : Int) (x24 : Int) (x25 : Int) (x26 : Int) (x27 : Int) (x28 : Int) (x29 : Int) (x30 : Int) (x31 : Bool) (x32 : Int) (x33 : Option Addr) (x34 : Nat) (x35 : Nat) (x36 : Option Addr) (x37 : Nat) (x38 : Nat) (x39 : Int),
       (∀ w : World, K5 w → LoadsAt w (x8.map (·.add (x18.toNat * 17))) [Value.int .i64 x19, Value.int .i64 x20, Value.int .u64 x21, Value.int .u64 x22, Value.int .u64 x23, Value.int .u64 x24, Value.int .u64 x25, Value.int .u64 x26, Value.int .i64 x27, Value.int .i64 x28, Value.int .i64 x29, Value.int .i64 x30, Value.bool x31, Value.int .u64 x32, Value.slice x33 x34 x35, Value.slice x36 x37 x38, Value.int .i64 x39]) ∧
       ∃ (α40 : Type) (x40 : α40),
       let gu40 : U := .g x40
       let u6 : List U := [.i (1 + x15), .i x19, .i x20, .i x21, .i x22, .i x23, .i x24, .i x25, .i x26, .i x27, .i x28, .i x29, .i x30, .b x31, .i x32, .p x33, .n x34, .n x35, .p x36, .n x37, .n x38, .i x39, gu40]
       (∀ w : World, K5 w → ShownS.pre u6 w) ∧
       ∀ (x41 : Int) (x42 : Int) (x43 : Int) (x44 : Int) (x45 : Int) (x46 : Int) (x47 : Int) (x48 : Int) (x49 : Int) (x50 : Int) (x51 : Int) (x52 : Int) (x53 : Bool) (x54 : Int) (x55 : Option Addr) (x56 : Nat) (x57 : Nat) (x58 : Option Addr) (x59 : Nat) (x60 : Nat),
       let o7 : List U := [.i x41, .i x42, .i x43, .i x44, .i x45, .i x46, .i x47, .i x48, .i x49, .i x50, .i x51, .i x52, .b x53, .i x54, .p x55, .n x56, .n x57, .p x58, .n x59, .n x60]
       (ShownS.post u6 o7 →
       (((x16 + 1 : Nat) : Int) ≤ 9223372036854775807) ∧
       ((((x16 + 1) * 160 : Nat) : Int) ≤ 140737488355328) ∧
       (((-9223372036854775808) ≤ (x18 + 1)) ∧ ((x18 + 1) ≤ 9223372036854775807)) ∧
       let v8 : List U := [.n (x16 + 1), .l (x17 ++ ([Value.int .i64 x41] ++ ([Value.int .i64 x42] ++ ([Value.int .u64 x43] ++ ([Value.int .u64 x44] ++ ([Value.int .u64 x45] ++ ([Value.int .u64 x46] ++ ([Value.int .u64 x47] ++ ([Value.int .u64 x48] ++ ([Value.int .i64 x49] ++ ([Value.int .i64 x50] ++ ([Value.int .i64 x51] ++ ([Value.int .i64 x52] ++ ([Value.bool x53] ++ ([Value.int .u64 x54] ++ ([Value.slice x55 x56 x57] ++ [Value.slice x58 x59 x60])))))))))))))))), .i (x18 + 1)]
       let K9 : World → Prop := fun w => K5 w ∧ ShownS.fact u6 o7 w
       I11.inv v8 ∧ (∀ w : World, K9 w → I11.fact v8 w) ∧
       I11.mea v8 < I11.mea v4 ∧
       True
       )
      ) ∧ (
       (¬ (x18 < ((x9 : Nat) : Int))) →
       ((
        let K5 : World → Prop := fun w => K3 w ∧ I11.fact v4 w
        (∀ w : World, K5 w → PickS.pre [.i x3, .i 8] w) ∧
        ∀ (x19 : Int),
        (PickS.post [.i x3, .i 8] [.i x19] →
        ((
         (0 < x19) →
         let K6 : World → Prop := fun w => K5 w ∧ PickS.fact [.i x3, .i 8] [.i x19] w
         (∀ w : World, K6 w → PickS.pre [.i x2, .i 9] w) ∧
         ∀ (x20 : Int),
         (PickS.post [.i x2, .i 9] [.i x20] →
         (((-9223372036854775808) ≤ (1 + x20)) ∧ ((1 + x20) ≤ 9223372036854775807)) ∧
         ∃ (α21 : Type) (x21 : α21),
         let gu21 : U := .g x21
         let u7 : List U := [.p x5, .n x6, .n x7, gu21]
         let K8 : World → Prop := fun w => K6 w ∧ PickS.fact [.i x2, .i 9] [.i x20] w
         (∀ w : World, K8 w → SeatedS.pre u7 w) ∧
         ∀ (x22 : Option Addr) (x23 : Nat) (x24 : Nat),
         let o9 : List U := [.p x22, .n x23, .n x24]
         (SeatedS.post u7 o9 →
         let v10 : List U := [.i x0, .i (1 + x15), .i (1 + x20), .i x3, .i x4, .p x22, .n x23, .n x24]
         let K11 : World → Prop := fun w => K8 w ∧ SeatedS.fact u7 o9 w
         J14.inv v10 ∧ (∀ w : World, K11 w → J14.fact v10 w) ∧
         True
         )
         )
        ) ∧ (
         (¬ (0 < x19)) →
         let v6 : List U := [.i x0, .i x1, .i x2, .i x3, .i x4, .p x5, .n x6, .n x7]
         let K7 : World → Prop := fun w => K5 w ∧ PickS.fact [.i x3, .i 8] [.i x19] w
         J14.inv v6 ∧ (∀ w : World, K7 w → J14.fact v6 w) ∧
         True
        ))
        )
       ) ∧ (
        ∀ (x19 : Int) (x20 : Int) (x21 : Int) (x22 : Int) (x23 : Int) (x24 : Option Addr) (x25 : Nat) (x26 : Nat),
        let v5 : List U := [.i x19, .i x20, .i x21, .i x22, .i x23, .p x24, .n x25, .n x26]
        (J14.inv v5 →
        ∀ (x27 : Option Addr) (x28 : Nat),
        ∃ (α29 : Type) (x29 : α29),
        let gu29 : U := .g x29
        ∃ (α30 : Type) (x30 : α30),
        let gu30 : U := .g x30
        let u6 : List U := [.i x19, .i x20, .i x21, .i x22, .i x23, .p x24, .n x25, .n x26, .p x27, .n x16, .n x28, gu29, gu30]
        let K7 : World → Prop := fun w => K3 w ∧ I11.fact v4 w
        let K8 : World → Prop := fun w => K7 w ∧ J14.fact v5 w
        let K9 : World → Prop := fun w => K8 w ∧ w.ownsRow base 85 16 (.slice x27 x16 x28) x16 x17
        (∀ w : World, K9 w → FolS.pre u6 w) ∧
        ∀ (x31 : Int) (x32 : Int) (x33 : Int) (x34 : Int) (x35 : Int) (x36 : Option Addr) (x37 : Nat) (x38 : Nat) (x39 : Option Addr) (x40 : Nat) (x41 : Nat),
        let o10 : List U := [.i x31, .i x32, .i x33, .i x34, .i x35, .p x36, .n x37, .n x38, .p x39, .n x40, .n x41]
        (FolS.post u6 o10 →
        ∃ (α42 : Type) (x42 : α42),
        let gu42 : U := .g x42
        ∃ (α43 : Type) (x43 : α43),
        let gu43 : U := .g x43
        let u11 : List U := [.i x19, .i x20, .i x21, .i x22, .i x23, .p x24, .n x25, .n x26, .p x27, .n x16, .n x28, gu42, gu43]
        let K12 : World → Prop := fun w => K9 w ∧ FolS.fact u6 o10 w
        (∀ w : World, K12 w → FolS.pre u11 w) ∧
        ∀ (x44 : Int) (x45 : Int) (x46 : Int) (x47 : Int) (x48 : Int) (x49 : Option Addr) (x50 : Nat) (x51 : Nat) (x52 : Option Addr) (x53 : Nat) (x54 : Nat),
        let o13 : List U := [.i x44, .i x45, .i x46, .i x47, .i x48, .p x49, .n x50, .n x51, .p x52, .n x53, .n x54]
        (FolS.post u11 o13 →
        ((
         (¬ (((x40 : Nat) : Int) = ((x53 : Nat) : Int))) →
         let K14 : World → Prop := fun w => K12 w ∧ FolS.fact u11 o13 w
         s.post us [.b false] ∧ (∀ w : World, K14 w → s.fact us [.b false] w)
        ) ∧ (
         (((x40 : Nat) : Int) = ((x53 : Nat) : Int)) →
         ∃ (α55 : Type) (x55 : α55),
         let gu55 : U := .g x55
         let u14 : List U := [.i x31, .i x32, .i x33, .i x34, .i x35, .p x36, .n x37, .n x38, .i x44, .i x45, .i x46, .i x47, .i x48, .p x49, .n x50, .n x51, gu55]
         let K15 : World → Prop := fun w => K12 w ∧ FolS.fact u11 o13 w
         (∀ w : World, K15 w → SameVS.pre u14 w) ∧
         ∀ (x56 : Bool),
         (SameVS.post u14 [.b x56] →
         ((
          (¬ (x56 = true)) →
          let K16 : World → Prop := fun w => K15 w ∧ SameVS.fact u14 [.b x56] w
          s.post us [.b false] ∧ (∀ w : World, K16 w → s.fact us [.b false] w)
         ) ∧ (
          (x56 = true) →
          let K16 : World → Prop := fun w => K15 w ∧ SameVS.fact u14 [.b x56] w
          I23.inv [.i 0] ∧ (∀ w : World, K16 w → I23.fact [.i 0] w) ∧
          ∀ (x57 : Int),
          (I23.inv [.i x57] →
          ((
           (x57 < ((x40 : Nat) : Int)) →
           let K17 : World → Prop := fun w => K16 w ∧ I23.fact [.i x57] w
           (∀ w : World, K17 w → (¬ (x39.isNone = true))) ∧
           (0 ≤ x57) ∧
           ∃ (x58 : Int),
           (∀ w : World, K17 w → LoadsAt w (x39.map (·.add x57.toNat)) [Value.int .i64 x58]) ∧
           (∀ w : World, K17 w → (¬ (x52.isNone = true))) ∧
           (x57 < ((x53 : Nat) : Int)) ∧
           ∃ (x59 : Int),
           (∀ w : World, K17 w → LoadsAt w (x52.map (·.add x57.toNat)) [Value.int .i64 x59]) ∧
           ((
            (¬ (x58 = x59)) →
            s.post us [.b false] ∧ (∀ w : World, K17 w → s.fact us [.b false] w)
           ) ∧ (
            (x58 = x59) →
            (∀ w : World, K17 w → (¬ (x27.isNone = true))) ∧
            (x57 < ((x16 : Nat) : Int)) ∧
            ∃ (x60 : Int) (x61 : Int) (x62 : Int) (x63 : Int) (x64 : Int) (x65 : Int) (x66 : Int) (x67 : Int) (x68 : Int),
            (∀ w : World, K17 w → LoadsAt w (x27.map (·.add (x57.toNat * 16))) [Value.int .i64 x60, Value.int .i64 x61, Value.int .u64 x62, Value.int .u64 x63, Value.int .u64 x64, Value.int .u64 x65, Value.int .u64 x66, Value.int .u64 x67, Value.int .i64 x68]) ∧
            ∃ (x69 : Int) (x70 : Int) (x71 : Int) (x72 : Int) (x73 : Int) (x74 : Int) (x75 : Int) (x76 : Int) (x77 : Int),
            (∀ w : World, K17 w → LoadsAt w (x27.map (·.add (x57.toNat * 16))) [Value.int .i64 x69, Value.int .i64 x70, Value.int .u64 x71, Value.int .u64 x72, Value.int .u64 x73, Value.int .u64 x74, Value.int .u64 x75, Value.int .u64 x76, Value.int .i64 x77]) ∧
            let u18 : List U := [.i (1 + x15), .i x60, .i x61, .i x62, .i x63, .i x64, .i x65, .i x66, .i x67, .i x68]
            (∀ w : World, K17 w → NameS.pre u18 w) ∧
            ∀ (x78 : Int),
            (NameS.post u18 [.i x78] →
            let u19 : List U := [.i (1 + x15), .i x69, .i x70, .i x71, .i x72, .i x73, .i x74, .i x75, .i x76, .i x77]
            let K20 : World → Prop := fun w => K17 w ∧ NameS.fact u18 [.i x78] w
            (∀ w : World, K20 w → NameS.pre u19 w) ∧
            ∀ (x79 : Int),
            (NameS.post u19 [.i x79] →
            ((
             (¬ (x78 = x79)) →
             let K21 : World → Prop := fun w => K20 w ∧ NameS.fact u19 [.i x79] w
             s.post us [.b false] ∧ (∀ w : World, K21 w → s.fact us [.b false] w)
            ) ∧ (
             (x78 = x79) →
             ∃ (x80 : Int) (x81 : Int) (x82 : Int) (x83 : Int) (x84 : Int) (x85 : Int) (x86 : Int) (x87 : Int) (x88 : Int) (x89 : Int) (x90 : Int) (x91 : Int) (x92 : Bool) (x93 : Int) (x94 : Option Addr) (x95 : Nat) (x96 : Nat) (x97 : Option Addr) (x98 : Nat) (x99 : Nat),
             let K21 : World → Prop := fun w => K20 w ∧ NameS.fact u19 [.i x79] w
             (∀ w : World, K21 w → LoadsAt w (x27.map (·.add (x57.toNat * 16))) [Value.int .i64 x80, Value.int .i64 x81, Value.int .u64 x82, Value.int .u64 x83, Value.int .u64 x84, Value.int .u64 x85, Value.int .u64 x86, Value.int .u64 x87, Value.int .i64 x88, Value.int .i64 x89, Value.int .i64 x90, Value.int .i64 x91, Value.bool x92, Value.int .u64 x93, Value.slice x94 x95 x96, Value.slice x97 x98 x99]) ∧
             ∃ (α100 : Type) (x100 : α100),
             let gu100 : U := .g x100
             ∃ (α101 : Type) (x101 : α101),
             let gu101 : U := .g x101
             let u22 : List U := [.i x19, .i x20, .i x21, .i x22, .i x23, .p x24, .n x25, .n x26, .i x80, .i x81, .i x82, .i x83, .i x84, .i x85, .i x86, .i x87, .i x88, .i x89, .i x90, .i x91, .b x92, .i x93, .p x94, .n x95, .n x96, .p x97, .n x98, .n x99, gu100, gu101]
             (∀ w : World, K21 w → AccS.pre u22 w) ∧
             ∀ (x102 : Int) (x103 : Int) (x104 : Int) (x105 : Int) (x106 : Int) (x107 : Option Addr) (x108 : Nat) (x109 : Nat) (x110 : Int),
             let o23 : List U := [.i x102, .i x103, .i x104, .i x105, .i x106, .p x107, .n x108, .n x109, .i x110]
             (AccS.post u22 o23 →
             ∃ (x111 : Int) (x112 : Int) (x113 : Int) (x114 : Int) (x115 : Int) (x116 : Int) (x117 : Int) (x118 : Int) (x119 : Int) (x120 : Int) (x121 : Int) (x122 : Int) (x123 : Bool) (x124 : Int) (x125 : Option Addr) (x126 : Nat) (x127 : Nat) (x128 : Option Addr) (x129 : Nat) (x130 : Nat),
             let K24 : World → Prop := fun w => K21 w ∧ AccS.fact u22 o23 w
             (∀ w : World, K24 w → LoadsAt w (x27.map (·.add (x57.toNat * 16))) [Value.int .i64 x111, Value.int .i64 x112, Value.int .u64 x113, Value.int .u64 x114, Value.int .u64 x115, Value.int .u64 x116, Value.int .u64 x117, Value.int .u64 x118, Value.int .i64 x119, Value.int .i64 x120, Value.int .i64 x121, Value.int .i64 x122, Value.bool x123, Value.int .u64 x124, Value.slice x125 x126 x127, Value.slice x128 x129 x130]) ∧
             ∃ (α131 : Type) (x131 : α131),
             let gu131 : U := .g x131
             ∃ (α132 : Type) (x132 : α132),
             let gu132 : U := .g x132
             let u25 : List U := [.i x19, .i x20, .i x21, .i x22, .i x23, .p x24, .n x25, .n x26, .i x111, .i x112, .i x113, .i x114, .i x115, .i x116, .i x117, .i x118, .i x119, .i x120, .i x121, .i x122, .b x123, .i x124, .p x125, .n x126, .n x127, .p x128, .n x129, .n x130, gu131, gu132]
             (∀ w : World, K24 w → AccS.pre u25 w) ∧
             ∀ (x133 : Int) (x134 : Int) (x135 : Int) (x136 : Int) (x137 : Int) (x138 : Option Addr) (x139 : Nat) (x140 : Nat) (x141 : Int),
             let o26 : List U := [.i x133, .i x134, .i x135, .i x136, .i x137, .p x138, .n x139, .n x140, .i x141]
             (AccS.post u25 o26 →
             ((
              (¬ (x110 = x141)) →
              let K27 : World → Prop := fun w => K24 w ∧ AccS.fact u25 o26 w
              s.post us [.b false] ∧ (∀ w : World, K27 w → s.fact us [.b false] w)
             ) ∧ (
              (x110 = x141) →
              ∃ (α142 : Type) (x142 : α142),
              let gu142 : U := .g x142
              let u27 : List U := [.i x102, .i x103, .i x104, .i x105, .i x106, .p x107, .n x108, .n x109, .i x133, .i x134, .i x135, .i x136, .i x137, .p x138, .n x139, .n x140, gu142]
              let K28 : World → Prop := fun w => K24 w ∧ AccS.fact u25 o26 w
              (∀ w : World, K28 w → SameVS.pre u27 w) ∧
              ∀ (x143 : Bool),
              (SameVS.post u27 [.b x143] →
              ((
               (¬ (x143 = true)) →
               let K29 : World → Prop := fun w => K28 w ∧ SameVS.fact u27 [.b x143] w
               s.post us [.b false] ∧ (∀ w : World, K29 w → s.fact us [.b false] w)
              ) ∧ (
               (x143 = true) →
               (((-9223372036854775808) ≤ (x57 + 1)) ∧ ((x57 + 1) ≤ 9223372036854775807)) ∧
               let K29 : World → Prop := fun w => K28 w ∧ SameVS.fact u27 [.b x143] w
               I23.inv [.i (x57 + 1)] ∧ (∀ w : World, K29 w → I23.fact [.i (x57 + 1)] w) ∧
               I23.mea [.i (x57 + 1)] < I23.mea [.i x57] ∧
               True
              ))
              )
             ))
             )
             )
            ))
            )
            )
           ))
          ) ∧ (
           (¬ (x57 < ((x40 : Nat) : Int))) →
           let K17 : World → Prop := fun w => K16 w ∧ I23.fact [.i x57] w
           (∀ w : World, K17 w → PickS.pre [.i x22, .i 99] w) ∧
           ∀ (x58 : Int),
           (PickS.post [.i x22, .i 99] [.i x58] →
           (((-9223372036854775808) ≤ (1 + x58)) ∧ ((1 + x58) ≤ 9223372036854775807)) ∧
           let K18 : World → Prop := fun w => K17 w ∧ PickS.fact [.i x22, .i 99] [.i x58] w
           (∀ w : World, K18 w → PickS.pre [.i x21, .i 9] w) ∧
           ∀ (x59 : Int),
           (PickS.post [.i x21, .i 9] [.i x59] →
           (((-9223372036854775808) ≤ (1 + x59)) ∧ ((1 + x59) ≤ 9223372036854775807)) ∧
           let K19 : World → Prop := fun w => K18 w ∧ PickS.fact [.i x21, .i 9] [.i x59] w
           (∀ w : World, K19 w → EpochS.pre [.i (1 + x58), .i (1 + x59)] w) ∧
           ∀ (x60 : Int),
           (EpochS.post [.i (1 + x58), .i (1 + x59)] [.i x60] →
           let K20 : World → Prop := fun w => K19 w ∧ EpochS.fact [.i (1 + x58), .i (1 + x59)] [.i x60] w
           (∀ w : World, K20 w → PickS.pre [.i x22, .i 99] w) ∧
           ∀ (x61 : Int),
           (PickS.post [.i x22, .i 99] [.i x61] →
           (((-9223372036854775808) ≤ (1 + x61)) ∧ ((1 + x61) ≤ 9223372036854775807)) ∧
           let K21 : World → Prop := fun w => K20 w ∧ PickS.fact [.i x22, .i 99] [.i x61] w
           (∀ w : World, K21 w → PickS.pre [.i x21, .i 9] w) ∧
           ∀ (x62 : Int),
           (PickS.post [.i x21, .i 9] [.i x62] →
           (((-9223372036854775808) ≤ (1 + x62)) ∧ ((1 + x62) ≤ 9223372036854775807)) ∧
           let K22 : World → Prop := fun w => K21 w ∧ PickS.fact [.i x21, .i 9] [.i x62] w
           (∀ w : World, K22 w → EpochS.pre [.i (1 + x61), .i (1 + x62)] w) ∧
           ∀ (x63 : Int),
           (EpochS.post [.i (1 + x61), .i (1 + x62)] [.i x63] →
           let K23 : World → Prop := fun w => K22 w ∧ EpochS.fact [.i (1 + x61), .i (1 + x62)] [.i x63] w
           s.post us [.b (x60 == x63)] ∧ (∀ w : World, K23 w → s.fact us [.b (x60 == x63)] w)
           )
           )
           )
           )
           )
           )
          ))
          )
         ))
         )
        ))
        )
        )
        )
       ))
      ))
      )
      )
     ))
    ))
    )
set_option maxRecDepth 100000 in
theorem vc_Light (s : Ctr) (PickS SeatedS ShownS FolS AccS NameS SameVS EpochS : Ctr) (I3 I11 I23 J14 : Inv) (x0 : Int) (x1 : Int) (x2 : Int) (x3 : Int) (x4 : Int) (x5 : Option Addr) (x6 : Nat) (x7 : Nat) (x8 : Option Addr) (x9 : Nat) (x10 : Nat) {α11 : Type} (x11 : α11) {α12 : Type} (x12 : α12) (base : Nat) : (vcOf Try.prog cfg_Light 5).den (smOf [(13, PickS), (31, SeatedS), (30, ShownS), (32, FolS), (33, FolS), (37, AccS), (38, AccS), (35, NameS), (36, NameS), (34, SameVS), (39, EpochS), (40, EpochS)] s [(3, I3), (11, I11), (23, I23), (1014, J14)] [.i x0, .i x1, .i x2, .i x3, .i x4, .p x5, .n x6, .n x7, .p x8, .n x9, .n x10, .g x11, .g x12] base) (rhoOf [.i x0, .i x1, .i x2, .i x3, .i x4, .p x5, .n x6, .n x7, .p x8, .n x9, .n x10, .g x11, .g x12] [.i, .i, .i, .i, .i, .p, .n, .n, .p, .n, .n, .g, .g]) = VC_Light s PickS SeatedS ShownS FolS AccS NameS SameVS EpochS I3 I11 I23 J14 x0 x1 x2 x3 x4 x5 x6 x7 x8 x9 x10 x11 x12 base := by kernel_rfl
set_option maxRecDepth 100000 in
theorem keeps_Light (s : Ctr) (hg : s.gh = 2) (PickS SeatedS ShownS FolS AccS NameS SameVS EpochS : Ctr) (hPickS13 : Keeps Try.prog 13 PickS) (gPickS13 : PickS.gh = 0) (hSeatedS31 : Keeps Try.prog 31 SeatedS) (gSeatedS31 : SeatedS.gh = 1) (hShownS30 : Keeps Try.prog 30 ShownS) (gShownS30 : ShownS.gh = 1) (hFolS32 : Keeps Try.prog 32 FolS) (gFolS32 : FolS.gh = 2) (hFolS33 : Keeps Try.prog 33 FolS) (gFolS33 : FolS.gh = 2) (hAccS37 : Keeps Try.prog 37 AccS) (gAccS37 : AccS.gh = 2) (hAccS38 : Keeps Try.prog 38 AccS) (gAccS38 : AccS.gh = 2) (hNameS35 : Keeps Try.prog 35 NameS) (gNameS35 : NameS.gh = 0) (hNameS36 : Keeps Try.prog 36 NameS) (gNameS36 : NameS.gh = 0) (hSameVS34 : Keeps Try.prog 34 SameVS) (gSameVS34 : SameVS.gh = 1) (hEpochS39 : Keeps Try.prog 39 EpochS) (gEpochS39 : EpochS.gh = 0) (hEpochS40 : Keeps Try.prog 40 EpochS) (gEpochS40 : EpochS.gh = 0) (mono : ∀ us w w', s.pre us w → Below w.heap.size w w' → s.pre us w')
    (vc : ∀ (x0 : Int) (x1 : Int) (x2 : Int) (x3 : Int) (x4 : Int) (x5 : Option Addr) (x6 : Nat) (x7 : Nat) (x8 : Option Addr) (x9 : Nat) (x10 : Nat) (α11 : Type) (x11 : α11) (α12 : Type) (x12 : α12) (w : World), s.pre [.i x0, .i x1, .i x2, .i x3, .i x4, .p x5, .n x6, .n x7, .p x8, .n x9, .n x10, .g x11, .g x12] w → ∃ I3 : Inv, ∃ I11 : Inv, ∃ I23 : Inv, ∃ J14 : Inv, VC_Light s PickS SeatedS ShownS FolS AccS NameS SameVS EpochS I3 I11 I23 J14 x0 x1 x2 x3 x4 x5 x6 x7 x8 x9 x10 x11 x12 w.heap.size) : Keeps Try.prog 5 s := by
  refine keeps_of (by kernel_rfl) Try.func5 (pin := [.agg [.int .i64, .int .i64, .int .i64, .int .i64, .int .u64, .slc], .one (.slc)]) (pout := [.one (.bool)]) (by kernel_rfl) (by kernel_rfl) s [(13, PickS), (31, SeatedS), (30, ShownS), (32, FolS), (33, FolS), (37, AccS), (38, AccS), (35, NameS), (36, NameS), (34, SameVS), (39, EpochS), (40, EpochS)] ⟨hPickS13, ⟨hSeatedS31, ⟨hShownS30, ⟨hFolS32, ⟨hFolS33, ⟨hAccS37, ⟨hAccS38, ⟨hNameS35, ⟨hNameS36, ⟨hSameVS34, ⟨hEpochS39, ⟨hEpochS40, trivial⟩⟩⟩⟩⟩⟩⟩⟩⟩⟩⟩⟩ cfg_Light (by show cfg_Light.con = [(13, PickS.gh), (31, SeatedS.gh), (30, ShownS.gh), (32, FolS.gh), (33, FolS.gh), (37, AccS.gh), (38, AccS.gh), (35, NameS.gh), (36, NameS.gh), (34, SameVS.gh), (39, EpochS.gh), (40, EpochS.gh)]; rw [gPickS13, gSeatedS31, gShownS30, gFolS32, gAccS37, gNameS35, gSameVS34, gEpochS39]; rfl) mono ?_
  intro us w ht hp
  rw [hg] at ht ⊢
  obtain ⟨x0, us, rfl, ht0⟩ := typed_i ht
  obtain ⟨x1, us, rfl, ht1⟩ := typed_i ht0
  obtain ⟨x2, us, rfl, ht2⟩ := typed_i ht1
  obtain ⟨x3, us, rfl, ht3⟩ := typed_i ht2
  obtain ⟨x4, us, rfl, ht4⟩ := typed_i ht3
  obtain ⟨x5, us, rfl, ht5⟩ := typed_p ht4
  obtain ⟨x6, us, rfl, ht6⟩ := typed_n ht5
  obtain ⟨x7, us, rfl, ht7⟩ := typed_n ht6
  obtain ⟨x8, us, rfl, ht8⟩ := typed_p ht7
  obtain ⟨x9, us, rfl, ht9⟩ := typed_n ht8
  obtain ⟨x10, us, rfl, ht10⟩ := typed_n ht9
  obtain ⟨_, x11, us, rfl, ht11⟩ := typed_g ht10
  obtain ⟨_, x12, us, rfl, ht12⟩ := typed_g ht11
  obtain rfl := typed_nil ht12
  obtain ⟨I3, I11, I23, J14, hv⟩ := vc x0 x1 x2 x3 x4 x5 x6 x7 x8 x9 x10 _ x11 _ x12 w hp
  exact ⟨[(3, I3), (11, I11), (23, I23), (1014, J14)], Eq.mpr (vc_Light ..) hv⟩

set_option maxRecDepth 100000 in
theorem light_ok : Keeps Try.prog 5 LawS := by
  refine keeps_Light LawS rfl PickS SeatedS ShownS FolS AccS NameS SameVS EpochS pick_ok rfl seated_ok rfl shown_ok rfl (follow_ok (f := 0) laccept_ok) rfl (rfollow_ok (f := 0) raccept_ok) rfl laccept_ok rfl raccept_ok rfl lname_ok rfl rname_ok rfl same_ok rfl lepoch_ok rfl repoch_ok rfl ?_ ?_
  · rintro us w w' ⟨b, A, k, l, LA, lc, rfl, hP, h1, h2, h3⟩ hb
    exact ⟨b, A, k, l, LA, lc, rfl, hP, seats_on h1 hb, Rd.more (Rd.below h2 hb) hb.size, fun y hy => heldH_on (h3 y hy) hb⟩
  · intro x0 x1 x2 x3 x4 x5 x6 x7 x8 x9 x10 α11 x11 α12 x12 w hp
    obtain ⟨b, A, kk, l, LA, lc, he, hP, hH⟩ := hp
    refine ⟨lI3 b l, lI11 l, lI23 l, lJ14 b, ?_⟩
    unfold VC_Light
    intro us K0
    have hF : ∀ w, K0 w → lawH w b A l LA := by
      rintro w ⟨b', A', k', l', LA', lc', he', _, h'⟩
      obtain ⟨rfl, rfl, rfl, rfl⟩ := law_inj (he.symm.trans he')
      exact h'
    unfold lawU belU at he
    simp only [List.cons_append, List.nil_append, List.cons.injEq, U.i.injEq, U.p.injEq, U.n.injEq] at he
    obtain ⟨rfl, rfl, rfl, rfl, rfl, rfl, rfl, rfl, rfl, rfl, rfl, _⟩ := he
    have hcl : ∀ y : ShownD, (ShownD.cells y).length = 17 := fun _ => rfl
    have hm := hP.m
    have hn := hP.n
    refine ⟨⟨0, Nat.zero_le _, by simp [sumL]⟩, fun w hw => trivial, ?_⟩
    intro x13 x14 hI
    obtain ⟨k, hk, he⟩ := hI
    simp only [List.cons.injEq, U.i.injEq, and_true] at he
    obtain ⟨rfl, rfl⟩ := he
    refine tri2 (fun hlt hle => ?_) (fun hx => ⟨fun _ => ⟨rfl, fun _ _ => trivial⟩, fun h4 => ?_⟩)
    · intro K1
      have hkl : k < l.length := by omega
      have hms := hP.ms _ (List.getElem_mem hkl)
      have hsum : sumL costS (l.take (k + 1)) = sumL costS (l.take k) + (l[k].s.seats.length + l[k].s.cert.froms.length + 1) := by
        rw [List.take_succ_eq_append_getElem hkl, sumL_append, sumL_cons]
        rfl
      refine ⟨fun w hw => rd_some (hF w hw.1).2.1 (by omega), by omega, l[k].s.sa, l[k].s.seats.length, l[k].s.sc, ?_⟩
      refine ⟨fun w hw => loads_lay hcl (hF w hw.1).2.1 hkl (off := 15) (by simp) fun j v hv => ?_, by omega, l[k].s.cert.fa, l[k].s.cert.froms.length, l[k].s.cert.fc, fun w hw => loads_lay hcl (hF w hw.1).2.1 hkl (off := 14) (by simp) fun j v hv => ?_, by omega, by omega, by omega, ⟨k + 1, by omega, ?_⟩, fun _ _ => trivial, ?_, trivial⟩
      · match j, hv with
        | 0, hv => exact hv
        | j + 1, hv => simp at hv
      · match j, hv with
        | 0, hv => exact hv
        | j + 1, hv => simp at hv
      · rw [hsum]
        push_cast
        simp only [List.cons.injEq, U.i.injEq, and_true]
        omega
      · show l.length - ((k : Int) + 1).toNat < l.length - (k : Int).toNat
        omega
    · have hkl : k = l.length := by
        rcases hx with hx | hx <;> omega
      subst hkl
      rw [List.take_length] at h4
      have hbn : b.seats.length ≤ 4096 := by omega
      have hsum : sumL costS l ≤ 4096 := by omega
      have hcost : ∀ y ∈ l, y.s.seats.length ≤ 4096 ∧ y.s.cert.froms.length ≤ 4096 := fun y hy => by
        have h1 := sumL_mem costS hy
        unfold costS at h1 hsum
        omega
      have hll : l.length ≤ 4096 := Nat.le_trans (sumL_len costS (fun y => by unfold costS; omega) l) hsum
      clear hx h4 hk
      intro K1
      refine ⟨fun w hw => ⟨_, _, rfl, hP.w, by omega, by omega⟩, ?_⟩
      intro x15 hpk
      obtain rfl := u1_inj (hpk _ _ rfl)
      have p0 := pickS_lo b.w 8 (by omega)
      have p1 := pickS_hi b.w 8 (by omega)
      refine ⟨by omega, ?_⟩
      intro v2 K3
      have g0 : Good l [] := ⟨by simp, by simp, by simp, by simp⟩
      refine ⟨⟨[], g0, rfl⟩, fun w hw ls g he z hz => ?_, ?_⟩
      · rw [← v11_inj (show v11 [] = v11 ls from he) g0 g] at hz
        cases hz
      intro x16 x17 x18 v4 hI
      obtain ⟨ls, g, he⟩ := hI
      have hv4 : v4 = v11 ls := he
      have hK : ∀ w, K3 w ∧ (lI11 l).fact v4 w → lawH w b x5 l x8 ∧ ∀ z ∈ ls, heldH w z := fun w hw => ⟨hF w hw.1.1.1, hw.2 ls g hv4⟩
      simp only [v4, v11, List.cons.injEq, U.i.injEq, U.n.injEq, U.l.injEq, and_true] at he
      obtain ⟨rfl, rfl, rfl⟩ := he
      have hgl := g.len
      refine ⟨fun hlt => ?_, fun hge => ⟨?_, ?_⟩⟩
      · intro K5
        have hkl : ls.length < l.length := by omega
        have hy := List.getElem_mem hkl
        obtain ⟨y, hye⟩ : ∃ y, y = l[ls.length] := ⟨_, rfl⟩
        rw [← hye] at hy
        have hyt := hP.each y hy
        have hyc := hcost y hy
        refine ⟨fun w hw => rd_some (hK w hw).1.2.1 (by omega), by omega, y.s.header.c, y.s.header.h, y.s.header.p, y.s.header.t, y.s.header.g, y.s.header.s, y.s.header.r, y.s.header.b, y.s.header.o, y.s.cert.h, y.s.cert.r, y.s.cert.s, y.s.cert.has, y.s.cert.b, y.s.cert.fa, y.s.cert.froms.length, y.s.cert.fc, y.s.sa, y.s.seats.length, y.s.sc, y.t, ?_⟩
        refine ⟨fun w hw => loads_lay hcl (hK w hw).1.2.1 hkl (off := 0) (by simp) fun j v hv => ?_, SightD, y.s, ?_⟩
        · rw [← hye, Nat.zero_add]
          exact hv
        intro gu40 u6
        have hu6 : u6 = shownU (1 + pickS b.w 8) y.s y.t := rfl
        refine ⟨fun w hw => ⟨_, _, _, hu6, (hK w hw).1.2.2 y hy, hyt.1, hyc.1, hyt.2⟩, ?_⟩
        intro x41 x42 x43 x44 x45 x46 x47 x48 x49 x50 x51 x52 x53 x54 x55 x56 x57 x58 x59 x60 o7 hpost
        obtain ⟨z, he, hs, hf, hl⟩ := hpost _ _ _ hu6
        have ho7 : o7 = sightU z := he
        simp only [o7, sightU, headerU, certU, List.cons_append, List.nil_append, List.cons.injEq, U.i.injEq, U.p.injEq, U.n.injEq, U.b.injEq, and_true] at he
        obtain ⟨rfl, rfl, rfl, rfl, rfl, rfl, rfl, rfl, rfl, rfl, rfl, rfl, rfl, rfl, rfl, rfl, rfl, rfl, rfl, rfl⟩ := he
        refine ⟨by omega, by omega, by omega, ?_⟩
        intro v8 K9
        have hg' : Good l (ls ++ [z]) := g.snoc hkl (by rw [hs, hye]) (by rw [hf, hye]) hl (by rw [hf]; exact hyc.2)
        have hv8 : v8 = v11 (ls ++ [z]) := by
          simp only [v8, v11, List.length_append, List.length_singleton, List.flatMap_append, List.flatMap_singleton]
          rfl
        refine ⟨⟨ls ++ [z], hg', hv8⟩, fun w hw ls' g' he z' hz' => ?_, ?_, trivial⟩
        · rw [← v11_inj (hv8.symm.trans he) hg' g'] at hz'
          rcases List.mem_append.1 hz' with hz' | hz'
          · exact (hK w hw.1).2 z' hz'
          · rw [List.mem_singleton.1 hz']
            exact hw.2 _ _ _ hu6 z ho7 hs hf
        · show l.length - (ls.length + 1) < l.length - ls.length
          omega
      · intro K5
        refine ⟨fun w hw => ⟨_, _, rfl, hP.h, by omega, by omega⟩, ?_⟩
        intro x19 hpk
        obtain rfl := u1_inj (hpk _ _ rfl)
        refine ⟨fun h0 => ?_, fun h0 => ?_⟩
        · intro K6
          refine ⟨fun w hw => ⟨_, _, rfl, hP.e, by omega, by omega⟩, ?_⟩
          intro x20 hpk
          obtain rfl := u1_inj (hpk _ _ rfl)
          have q0 := pickS_lo b.e 9 (by omega)
          have q1 := pickS_hi b.e 9 (by omega)
          refine ⟨by omega, List Seat, b.seats, ?_⟩
          intro gu21 u7 K8
          refine ⟨fun w hw => ⟨x5, b.seats, x7, rfl, (hK w hw.1.1).1.1, hbn, hP.wide⟩, ?_⟩
          intro x22 x23 x24 o9 hpost
          obtain ⟨A', c', he⟩ := hpost x5 b.seats x7 rfl
          simp only [o9, seatsU, List.cons.injEq, U.p.injEq, U.n.injEq, and_true] at he
          obtain ⟨rfl, rfl, rfl⟩ := he
          intro v10 K11
          have hsl := (seatedS_ok b.seats).most
          have hbF : seatedS b.seats = benchF b := by unfold benchF; rw [if_pos h0]
          refine ⟨⟨⟨b.c, 1 + pickS b.w 8, 1 + pickS b.e 9, b.h, b.s, seatedS b.seats⟩, x22, x24, rfl, hbF, by show (seatedS b.seats).length ≤ 4096; omega, hP.s, by show _ ≤ 1 + pickS b.e 9 ∧ 1 + pickS b.e 9 ≤ _; omega, hP.h⟩, fun w hw => ?_, trivial⟩
          show SeatsL w w.heap.size x22 (benchF b)
          rw [← hbF]
          exact hw.2 x5 b.seats x7 rfl
        · intro v6 K7
          have hbF : b.seats = benchF b := by unfold benchF; rw [if_neg h0]
          refine ⟨⟨b, x5, x7, rfl, hbF, hbn, hP.s, hP.e, hP.h⟩, fun w hw => ?_, trivial⟩
          show SeatsL w w.heap.size x5 (benchF b)
          rw [← hbF]
          exact (hK w hw.1).1.1
      · intro x19 x20 x21 x22 x23 x24 x25 x26 v5 hJ
        obtain ⟨c, A, k, he, hcs, hcl4, hc1, hc2, hc3⟩ := hJ
        have hKc : ∀ w, (K3 w ∧ (lI11 l).fact v4 w) ∧ (lJ14 b).fact v5 w → belH w c x24 ∧ ∀ z ∈ ls, heldH w z := fun w hw => ⟨⟨hc1, by rw [hcs]; exact hw.2, by omega⟩, (hK w hw.1).2⟩
        simp only [v5, belU, List.cons.injEq, U.i.injEq, U.p.injEq, U.n.injEq, and_true] at he
        obtain ⟨rfl, rfl, rfl, rfl, rfl, rfl, rfl, rfl⟩ := he
        have hle : ls.length = l.length := by omega
        intro x27 x28
        refine ⟨Bel, c, ?_⟩
        intro gu29
        refine ⟨List SightD, ls, ?_⟩
        intro gu30 u6 K7 K8 K9
        have hu6 : u6 = folU c x24 x26 ls x27 x28 := rfl
        have hcert : ∀ z ∈ ls, z.seats.length ≤ 65536 ∧ certM z.cert ≤ 10000000 := fun z hz => by
          have := g.short z hz
          unfold certM
          omega
        have hfol : ∀ w, K9 w → folH w c x24 ls x27 := fun w hw => ⟨(hKc w hw.1).1, Rd.of_own hw.2, (hKc w hw.1).2, hcert, by omega⟩
        refine ⟨fun w hw => ⟨_, _, _, _, _, _, hu6, hfol w hw⟩, ?_⟩
        intro x31 x32 x33 x34 x35 x36 x37 x38 x39 x40 x41 o10 hpost
        obtain ⟨A1, k1, ev, cv, he⟩ := hpost _ _ _ _ _ _ hu6
        have hfa : ∀ w, FolS.fact u6 o10 w → belH w (folX c ls) x36 ∧ ∃ B, Rd w B 1 x39 ls.length (errCells (errX c ls)) := fun w hw => hw _ _ _ _ _ _ hu6
        simp only [o10, belU, List.cons_append, List.nil_append, List.cons.injEq, U.i.injEq, U.p.injEq, U.n.injEq, and_true] at he
        obtain ⟨rfl, rfl, rfl, rfl, rfl, rfl, rfl, rfl, rfl, rfl, rfl⟩ := he
        refine ⟨Bel, c, ?_⟩
        intro gu42
        refine ⟨List SightD, ls, ?_⟩
        intro gu43 u11 K12
        have hu11 : u11 = folU c x24 x26 ls x27 x28 := rfl
        refine ⟨fun w hw => ⟨_, _, _, _, _, _, hu11, hfol w hw.1⟩, ?_⟩
        intro x44 x45 x46 x47 x48 x49 x50 x51 x52 x53 x54 o13 hpost
        obtain ⟨A2, k2, ev, cv, he⟩ := hpost _ _ _ _ _ _ hu11
        have hfb : ∀ w, FolS.fact u11 o13 w → belH w (folX c ls) x49 ∧ ∃ B, Rd w B 1 x52 ls.length (errCells (errX c ls)) := fun w hw => hw _ _ _ _ _ _ hu11
        simp only [o13, belU, List.cons_append, List.nil_append, List.cons.injEq, U.i.injEq, U.p.injEq, U.n.injEq, and_true] at he
        obtain ⟨rfl, rfl, rfl, rfl, rfl, rfl, rfl, rfl, rfl, rfl, rfl⟩ := he
        refine ⟨fun h => absurd rfl h, fun _ => ?_⟩
        refine ⟨Bel, folX c ls, ?_⟩
        intro gu55 u14 K15
        have hK15 : ∀ w, K15 w → folH w c x24 ls x27 ∧ (belH w (folX c ls) x36 ∧ ∃ B, Rd w B 1 x39 ls.length (errCells (errX c ls))) ∧ (belH w (folX c ls) x49 ∧ ∃ B, Rd w B 1 x52 ls.length (errCells (errX c ls))) := fun w hw => ⟨hfol w hw.1.1, hfa w hw.1.2, hfb w hw.2⟩
        refine ⟨fun w hw => ⟨folX c ls, x36, x49, x38, x51, rfl, (hK15 w hw).2.1.1.2.1, (hK15 w hw).2.2.1.2.1, (hK15 w hw).2.1.1.2.2⟩, ?_⟩
        intro x56 hb
        obtain rfl := U.b.inj (List.cons.inj hb).1
        refine ⟨fun h => absurd rfl h, fun _ => ?_⟩
        intro K16
        refine ⟨⟨0, Nat.zero_le _, rfl⟩, fun _ _ => trivial, ?_⟩
        intro x57 hI
        obtain ⟨k, hk, he⟩ := hI
        obtain rfl := U.i.inj (List.cons.inj he).1
        refine ⟨fun hlt => ?_, fun hge => ?_⟩
        · intro K17
          have hkl : k < ls.length := by omega
          have hke : k < (errX c ls).length := by rw [errX_len]; exact hkl
          have hel : (errCells (errX c ls))[k]? = some (Value.int .i64 (errX c ls)[k]) := by
            unfold errCells
            rw [List.getElem?_map, List.getElem?_eq_getElem hke]
            rfl
          have hld : ∀ (w : World) (X : Option Addr), (∃ B, Rd w B 1 X ls.length (errCells (errX c ls))) → LoadsAt w (X.map (·.add k)) [Value.int .i64 (errX c ls)[k]] := by
            rintro w X ⟨B, h⟩
            refine loads_rd h (by omega) fun j v hv => ?_
            match j, hv with
            | 0, hv => rw [Nat.add_zero, hel]; exact hv
            | j + 1, hv => simp at hv
          refine ⟨fun w hw => (hK15 w hw.1.1).2.1.2.elim fun B h => rd_some h (by omega), by omega, (errX c ls)[k], fun w hw => hld w _ (hK15 w hw.1.1).2.1.2, fun w hw => (hK15 w hw.1.1).2.2.2.elim fun B h => rd_some h (by omega), by omega, (errX c ls)[k], fun w hw => hld w _ (hK15 w hw.1.1).2.2.2, fun h => absurd rfl h, fun _ => ?_⟩
          obtain ⟨z, hze⟩ : ∃ z, z = ls[k] := ⟨_, rfl⟩
          have hz : z ∈ ls := by rw [hze]; exact List.getElem_mem hkl
          have hzs := hcert z hz
          have hcl16 : ∀ x : SightD, (SightD.cells x).length = 16 := fun _ => rfl
          have hKz : ∀ w, K17 w → heldH w z := fun w hw => (hK15 w hw.1.1).1.2.2.1 z hz
          have hKb : ∀ w, K17 w → belH w c x24 := fun w hw => (hK15 w hw.1.1).1.1
          have hlz : ∀ w, K17 w → ∀ part : List Value, 0 + part.length ≤ 16 → (∀ j v, part[j]? = some v → (SightD.cells z)[0 + j]? = some v) → LoadsAt w (x27.map (·.add (k * 16 + 0))) part := fun w hw part h1 h2 => loads_lay hcl16 (hK15 w hw.1.1).1.2.1 hkl (off := 0) h1 (by rw [← hze]; exact h2)
          have hhd : ∀ w, K17 w → LoadsAt w (x27.map (·.add (k * 16 + 0))) [Value.int .i64 z.header.c, Value.int .i64 z.header.h, Value.int .u64 z.header.p, Value.int .u64 z.header.t, Value.int .u64 z.header.g, Value.int .u64 z.header.s, Value.int .u64 z.header.r, Value.int .u64 z.header.b, Value.int .i64 z.header.o] := fun w hw => hlz w hw _ (by simp) fun j v hv => by
            rw [Nat.zero_add]
            match j, hv with
            | 0, hv | 1, hv | 2, hv | 3, hv | 4, hv | 5, hv | 6, hv | 7, hv | 8, hv => exact hv
            | j + 9, hv => simp at hv
          have hal : ∀ w, K17 w → LoadsAt w (x27.map (·.add (k * 16 + 0))) (SightD.cells z) := fun w hw => hlz w hw _ (by rw [hcl16]; omega) fun j v hv => by
            rw [Nat.zero_add]
            exact hv
          refine ⟨fun w hw => rd_some (hK15 w hw.1.1).1.2.1 (by omega), by omega, z.header.c, z.header.h, z.header.p, z.header.t, z.header.g, z.header.s, z.header.r, z.header.b, z.header.o, hhd, z.header.c, z.header.h, z.header.p, z.header.t, z.header.g, z.header.s, z.header.r, z.header.b, z.header.o, hhd, ?_⟩
          intro u18
          refine ⟨fun w hw => ⟨_, z.header, rfl, (hKz w hw).header⟩, ?_⟩
          intro x78 hp
          obtain rfl := u1_inj (hp _ z.header rfl)
          intro u19 K20
          refine ⟨fun w hw => ⟨_, z.header, rfl, (hKz w hw.1).header⟩, ?_⟩
          intro x79 hp
          obtain rfl := u1_inj (hp _ z.header rfl)
          refine ⟨fun h => absurd rfl h, fun _ => ?_⟩
          refine ⟨z.header.c, z.header.h, z.header.p, z.header.t, z.header.g, z.header.s, z.header.r, z.header.b, z.header.o, z.cert.h, z.cert.r, z.cert.s, z.cert.has, z.cert.b, z.cert.fa, z.cert.froms.length, z.cert.fc, z.sa, z.seats.length, z.sc, ?_⟩
          intro K21
          refine ⟨fun w hw => hal w hw.1.1, Bel, c, ?_⟩
          intro gu100
          refine ⟨SightD, z, ?_⟩
          intro gu101 u22
          have hu22 : u22 = belU c x24 x26 ++ sightU z ++ [.g c, .g z] := rfl
          refine ⟨fun w hw => ⟨c, x24, x26, z, hu22, hKb w hw.1.1, hKz w hw.1.1, hzs.1, hzs.2⟩, ?_⟩
          intro x102 x103 x104 x105 x106 x107 x108 x109 x110 o23 hpost
          obtain ⟨A3, k3, he⟩ := hpost _ _ _ _ hu22
          have hga : ∀ w, AccS.fact u22 o23 w → SeatsL w w.heap.size x107 (if accX c z = 0 then z.seats else []) := fun w hw => hw _ _ _ _ hu22
          simp only [o23, accO, List.cons.injEq, U.i.injEq, U.p.injEq, U.n.injEq, and_true] at he
          obtain ⟨rfl, rfl, rfl, rfl, rfl, rfl, rfl, rfl, rfl⟩ := he
          refine ⟨z.header.c, z.header.h, z.header.p, z.header.t, z.header.g, z.header.s, z.header.r, z.header.b, z.header.o, z.cert.h, z.cert.r, z.cert.s, z.cert.has, z.cert.b, z.cert.fa, z.cert.froms.length, z.cert.fc, z.sa, z.seats.length, z.sc, ?_⟩
          intro K24
          refine ⟨fun w hw => hal w hw.1.1.1, Bel, c, ?_⟩
          intro gu131
          refine ⟨SightD, z, ?_⟩
          intro gu132 u25
          have hu25 : u25 = belU c x24 x26 ++ sightU z ++ [.g c, .g z] := rfl
          refine ⟨fun w hw => ⟨c, x24, x26, z, hu25, hKb w hw.1.1.1, hKz w hw.1.1.1, hzs.1, hzs.2⟩, ?_⟩
          intro x133 x134 x135 x136 x137 x138 x139 x140 x141 o26 hpost
          obtain ⟨A4, k4, he⟩ := hpost _ _ _ _ hu25
          have hgb : ∀ w, AccS.fact u25 o26 w → SeatsL w w.heap.size x138 (if accX c z = 0 then z.seats else []) := fun w hw => hw _ _ _ _ hu25
          simp only [o26, accO, List.cons.injEq, U.i.injEq, U.p.injEq, U.n.injEq, and_true] at he
          obtain ⟨rfl, rfl, rfl, rfl, rfl, rfl, rfl, rfl, rfl⟩ := he
          refine ⟨fun h => absurd rfl h, fun _ => ?_⟩
          obtain ⟨y, hy⟩ : ∃ y : Bel, y = ⟨if accX c z = 0 then c.c else 0, if accX c z = 0 then c.w else 0, if accX c z = 0 then c.e else 0, if accX c z = 0 then z.header.h else 0, if accX c z = 0 then z.header.s else 0, if accX c z = 0 then z.seats else []⟩ := ⟨_, rfl⟩
          have hyl : y.seats.length ≤ 65536 := by
            rw [hy]
            show (if accX c z = 0 then z.seats else []).length ≤ 65536
            split
            · exact hzs.1
            · simp
          refine ⟨Bel, y, ?_⟩
          intro gu142 u27 K28
          refine ⟨fun w hw => ⟨y, x107, x138, x109, x140, by subst hy; rfl, by rw [hy]; exact hga w hw.1.2, by rw [hy]; exact hgb w hw.2, hyl⟩, ?_⟩
          intro x143 hb
          obtain rfl := U.b.inj (List.cons.inj hb).1
          refine ⟨fun h => absurd rfl h, fun _ => ?_⟩
          refine ⟨by omega, ?_⟩
          intro K29
          refine ⟨⟨k + 1, by omega, rfl⟩, fun _ _ => trivial, ?_, trivial⟩
          show l.length - ((k : Int) + 1).toNat < l.length - (k : Int).toNat
          omega
        · intro K17
          have a0 := pickS_lo c.h 99 (by omega)
          have a1 := pickS_hi c.h 99 (by omega)
          have a2 := pickS_lo c.e 9 (by omega)
          have a3 := pickS_hi c.e 9 (by omega)
          refine ⟨fun w hw => ⟨_, _, rfl, hc3, by omega, by omega⟩, ?_⟩
          intro x58 hp
          obtain rfl := u1_inj (hp _ _ rfl)
          refine ⟨by omega, ?_⟩
          intro K18
          refine ⟨fun w hw => ⟨_, _, rfl, hc2, by omega, by omega⟩, ?_⟩
          intro x59 hp
          obtain rfl := u1_inj (hp _ _ rfl)
          refine ⟨by omega, ?_⟩
          intro K19
          refine ⟨fun w hw => ⟨_, _, rfl, ⟨by omega, by omega⟩, by omega, by omega⟩, ?_⟩
          intro x60 hp
          obtain rfl := u1_inj (hp _ _ rfl)
          intro K20
          refine ⟨fun w hw => ⟨_, _, rfl, hc3, by omega, by omega⟩, ?_⟩
          intro x61 hp
          obtain rfl := u1_inj (hp _ _ rfl)
          refine ⟨by omega, ?_⟩
          intro K21
          refine ⟨fun w hw => ⟨_, _, rfl, hc2, by omega, by omega⟩, ?_⟩
          intro x62 hp
          obtain rfl := u1_inj (hp _ _ rfl)
          refine ⟨by omega, ?_⟩
          intro K22
          refine ⟨fun w hw => ⟨_, _, rfl, ⟨by omega, by omega⟩, by omega, by omega⟩, ?_⟩
          intro x63 hp
          obtain rfl := u1_inj (hp _ _ rfl)
          intro K23
          refine ⟨?_, fun _ _ => trivial⟩
          show [U.b _] = [U.b true]
          rw [beq_self_eq_true]
end Go.Proofs.Ytjjkdmngmopjbaa
