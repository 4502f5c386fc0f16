/- Of the texts VL0, VL1, VL2. -/
import Derived.Test.YtjjkdmngmopjbaaG14
import Derived.Test.YtjjkdmngmopjbaaG32
import Derived.Test.YtjjkdmngmopjbaaG28
set_option linter.unusedSimpArgs false
set_option linter.unusedVariables false
namespace Go.Proofs.Ytjjkdmngmopjbaa
open Go.RowKit Vc
def belU (b : Bel) (A : Option Addr) (k : Nat) : List U := [.i b.c, .i b.w, .i b.e, .i b.h, .i b.s, .p A, .n b.seats.length, .n k]
def headerU (x : HeaderD) : List U := [.i x.c, .i x.h, .i x.p, .i x.t, .i x.g, .i x.s, .i x.r, .i x.b, .i x.o]
def certU (x : CertD) : List U := [.i x.h, .i x.r, .i x.s, .b x.has, .i x.b, .p x.fa, .n x.froms.length, .n x.fc]
def sightU (x : SightD) : List U := headerU x.header ++ certU x.cert ++ [.p x.sa, .n x.seats.length, .n x.sc]
def heldH (w : World) (x : SightD) : Prop := x.held w w.heap.size
def belH (w : World) (b : Bel) (A : Option Addr) : Prop := (0 ≤ b.s ∧ b.s < 18446744073709551616) ∧ SeatsL w w.heap.size A b.seats ∧ b.seats.length ≤ 65536
theorem seats_on {w w' : World} {A : Option Addr} {l : List Seat} (h : SeatsL w w.heap.size A l) (hb : Below w.heap.size w w') : SeatsL w' w'.heap.size A l := Rd.more (Rd.below h hb) hb.size
theorem heldH_on {w w' : World} {x : SightD} (h : heldH w x) (hb : Below w.heap.size w w') : heldH w' x :=
  have h' := SightD.held.below h hb
  ⟨h'.header, ⟨h'.cert.dig, Rd.more h'.cert.read hb.size, h'.cert.short⟩, Rd.more h'.read hb.size, h'.short⟩
theorem belH_on {w w' : World} {b : Bel} {A : Option Addr} (h : belH w b A) (hb : Below w.heap.size w w') : belH w' b A := ⟨h.1, seats_on h.2.1 hb, h.2.2⟩
/-- what lies in memory lies below its end -/
theorem rd_size {w : World} {B size n : Nat} {A : Option Addr} {xs : List Value} (hz : 0 < size) (h : Rd w B size A n xs) : Rd w w.heap.size size A n xs := by
  refine ⟨h.1, fun hn => ?_⟩
  obtain ⟨b, off, e1, _, e3⟩ := h.2 hn
  refine ⟨b, off, e1, ?_, e3⟩
  have hl : 0 < xs.length := by rw [h.1]; exact Nat.mul_pos hn hz
  have := e3 0 xs[0] (List.getElem?_eq_getElem hl)
  unfold World.cell? at this
  rcases Nat.lt_or_ge b w.heap.size with h' | h'
  · exact h'
  · rw [Array.getElem?_eq_none h'] at this; cases this
/-- what was made by a call stays where the blocks that it made do -/
theorem rd_seg {w w' u : World} {size n : Nat} {A : Option Addr} {xs : List Value} (hz : 0 < size) (h : Rd w' w'.heap.size size A n xs) (hf : From w.heap.size A) (hu : ∀ b, w.heap.size ≤ b → b < w'.heap.size → u.heap[b]? = w'.heap[b]?) : Rd u u.heap.size size A n xs := by
  refine rd_size (B := w'.heap.size) hz ⟨h.1, fun hn => ?_⟩
  obtain ⟨b, off, e1, e2, e3⟩ := h.2 hn
  subst e1
  exact ⟨b, off, rfl, e2, fun j v hv => by
    have : u.cell? ⟨b, off + j, none⟩ = w'.cell? ⟨b, off + j, none⟩ := World.cell?_of_block (hu b (hf b off rfl) e2)
    rw [this]
    exact e3 j v hv⟩
/-- what Accept hands back -/
def accO (b : Bel) (x : SightD) (A : Option Addr) (c : Nat) : List U :=
  let E := accX b x
  [.i (if E = 0 then b.c else 0), .i (if E = 0 then b.w else 0), .i (if E = 0 then b.e else 0), .i (if E = 0 then x.header.h else 0), .i (if E = 0 then x.header.s else 0), .p A, .n (if E = 0 then x.seats else []).length, .n c, .i E]
def AccS : Ctr := {
  gh := 2
  pre := fun us w => ∃ (b : Bel) (A : Option Addr) (k : Nat) (x : SightD), us = belU b A k ++ sightU x ++ [.g b, .g x] ∧ belH w b A ∧ heldH w x ∧ x.seats.length ≤ 65536 ∧ certM x.cert ≤ 10000000
  post := fun us os => ∀ (b : Bel) (A : Option Addr) (k : Nat) (x : SightD), us = belU b A k ++ sightU x ++ [.g b, .g x] → ∃ (A' : Option Addr) (c : Nat), os = accO b x A' c
  fact := fun us os w => ∀ (b : Bel) (A : Option Addr) (k : Nat) (x : SightD), us = belU b A k ++ sightU x ++ [.g b, .g x] → SeatsL w w.heap.size (at_ os 5).P (if accX b x = 0 then x.seats else []) }
theorem bel_inj {b b' : Bel} {A A' : Option Addr} {k k' : Nat} {x x' : SightD} (h : belU b A k ++ sightU x ++ [.g b, .g x] = belU b' A' k' ++ sightU x' ++ [.g b', .g x']) : b = b' ∧ A = A' ∧ k = k' ∧ x = x' := by
  unfold belU sightU headerU certU at h
  simp only [List.cons_append, List.nil_append, List.cons.injEq, U.i.injEq, U.p.injEq, U.n.injEq, U.b.injEq, U.g.injEq, heq_eq_eq, true_and, and_true] at h
  exact ⟨h.2.2.2.2.2.2.2.2.2.2.2.2.2.2.2.2.2.2.2.2.2.2.2.2.2.2.2.2.1, h.2.2.2.2.2.1, h.2.2.2.2.2.2.2.1, h.2.2.2.2.2.2.2.2.2.2.2.2.2.2.2.2.2.2.2.2.2.2.2.2.2.2.2.2.2⟩
/-- from a walk's contract to a contract of the executor -/
theorem accS_of {f : Nat} {fn : Func} (hfn : Try.prog.funcs[f]? = some fn) (hpin : shsOf Try.prog fn.params = some [.agg [.int .i64, .int .i64, .int .i64, .int .i64, .int .u64, .slc], .agg [.int .i64, .int .i64, .int .u64, .int .u64, .int .u64, .int .u64, .int .u64, .int .u64, .int .i64, .int .i64, .int .i64, .int .i64, .bool, .int .u64, .slc, .slc]]) (hpout : shsOf Try.prog fn.resultTypes = some [.agg [.int .i64, .int .i64, .int .i64, .int .i64, .int .u64, .slc], .one (.int .i64)])
    (h : ∀ (b : Bel) (A : Option Addr) (k : Nat) (x : SightD) (w : World), belH w b A → heldH w x → x.seats.length ≤ 65536 → certM x.cert ≤ 10000000 → Calls Try.prog f #[(b.view A k).val, x.val] w (AccX b x w)) : Keeps Try.prog f AccS := by
  intro fn' pin pout h1 h2 h3 us w ht hp
  rw [hfn] at h1; injection h1 with h1; subst h1
  rw [hpin] at h2; injection h2 with h2; subst h2
  rw [hpout] at h3; injection h3 with h3; subst h3
  obtain ⟨b, A, k, x, rfl, hb, hx, hl, hc⟩ := hp
  have hcall := h b A k x w hb hx hl hc
  refine Calls.mono (show Calls Try.prog f #[(b.view A k).val, x.val] w _ from hcall) ?_
  rintro e w' ⟨A', c, rfl, hs, hf, hbl⟩
  refine ⟨accO b x A' c, rfl, rfl, ?_, ?_, hbl⟩
  · intro b' A2 k' x' he
    obtain ⟨rfl, rfl, rfl, rfl⟩ := bel_inj he
    exact ⟨A', c, rfl⟩
  · intro u hu hpu b' A2 k' x' he
    obtain ⟨rfl, rfl, rfl, rfl⟩ := bel_inj he
    exact rd_seg (by omega) hs hf hu
end Go.Proofs.Ytjjkdmngmopjbaa

namespace Go.Proofs.Ytjjkdmngmopjbaa
open Go.RowKit Vc
def errCells (l : List Int) : List Value := l.map fun e => .int .i64 e
def folU (b : Bel) (A : Option Addr) (k : Nat) (l : List SightD) (LA : Option Addr) (lc : Nat) : List U := belU b A k ++ [.p LA, .n l.length, .n lc] ++ [.g b, .g l]
def folH (w : World) (b : Bel) (A : Option Addr) (l : List SightD) (LA : Option Addr) : Prop := belH w b A ∧ SightsL w w.heap.size LA l ∧ (∀ x ∈ l, heldH w x) ∧ (∀ x ∈ l, x.seats.length ≤ 65536 ∧ certM x.cert ≤ 10000000) ∧ l.length ≤ 1000000000
def FolS : Ctr := {
  gh := 2
  pre := fun us w => ∃ (b : Bel) (A : Option Addr) (k : Nat) (l : List SightD) (LA : Option Addr) (lc : Nat), us = folU b A k l LA lc ∧ folH w b A l LA
  post := fun us os => ∀ (b : Bel) (A : Option Addr) (k : Nat) (l : List SightD) (LA : Option Addr) (lc : Nat), us = folU b A k l LA lc → ∃ (A' : Option Addr) (k' : Nat) (ev : Option Addr) (cv : Nat), os = belU (folX b l) A' k' ++ [.p ev, .n l.length, .n cv]
  fact := fun us os w => ∀ (b : Bel) (A : Option Addr) (k : Nat) (l : List SightD) (LA : Option Addr) (lc : Nat), us = folU b A k l LA lc → belH w (folX b l) (at_ os 5).P ∧ ∃ B, Rd w B 1 (at_ os 8).P l.length (errCells (errX b l)) }
theorem fol_inj {b b' : Bel} {A A' : Option Addr} {k k' : Nat} {l l' : List SightD} {LA LA' : Option Addr} {lc lc' : Nat} (h : folU b A k l LA lc = folU b' A' k' l' LA' lc') : b = b' ∧ l = l' ∧ A = A' ∧ LA = LA' := by
  unfold folU belU at h
  simp only [List.cons_append, List.nil_append, List.cons.injEq, U.i.injEq, U.p.injEq, U.n.injEq, U.b.injEq, U.g.injEq, heq_eq_eq, true_and, and_true] at h
  exact ⟨h.2.2.2.2.2.2.2.2.2.2.2.1, h.2.2.2.2.2.2.2.2.2.2.2.2, h.2.2.2.2.2.1, h.2.2.2.2.2.2.2.2.1⟩
theorem folH_on {w w' : World} {b : Bel} {A : Option Addr} {l : List SightD} {LA : Option Addr} (h : folH w b A l LA) (hb : Below w.heap.size w w') : folH w' b A l LA :=
  ⟨belH_on h.1 hb, Rd.more (Rd.below h.2.1 hb) hb.size, fun x hx => heldH_on (h.2.2.1 x hx) hb, h.2.2.2⟩
def cfg_Follow : Cfg := { con := [(37, 2)], own := 2, loops := [(3, { slots := [6, 13], blks := [2], rows := [6], extra := [] })], joins := [], wraps := [], rows := [(6, 44)], retire := [] }
set_option maxRecDepth 100000 in
def VC_Follow (s : Ctr) (AccS : Ctr) (I3 : Inv) (x0 : Int) (x1 : Int) (x2 : Int) (x3 : Int) (x4 : Int) (x5 : Option Addr) (x6 : Nat) (x7 : Nat) (x8 : Option Addr) (x9 : Nat) (x10 : Nat) {α11 : Type} (x11 : α11) {α12 : Type} (x12 : α12) (base : Nat) : Prop :=
    let us : List U := [.i x0, .i x1, .i x2, .i x3, .i x4, .p x5, .n x6, .n x7, .p x8, .n x9, .n x10, .g x11, .g x12]
    let v0 : List U := [.n 0, .l [], .i 0, .i x0, .i x1, .i x2, .i x3, .i x4, .p x5, .n x6, .n x7]
    let K1 : World → Prop := fun w => s.pre us w
    I3.inv v0 ∧ (∀ w : World, K1 w → I3.fact v0 w) ∧
    ∀ (x13 : Nat) (x14 : List Value) (x15 : Int) (x16 : Int) (x17 : Int) (x18 : Int) (x19 : Int) (x20 : Int) (x21 : Option Addr) (x22 : Nat) (x23 : Nat),
    let v2 : List U := [.n x13, .l x14, .i x15, .i x16, .i x17, .i x18, .i x19, .i x20, .p x21, .n x22, .n x23]
    (I3.inv v2 →
    ((
     (x15 < ((x9 : Nat) : Int)) →
     let K3 : World → Prop := fun w => K1 w ∧ I3.fact v2 w
     (∀ w : World, K3 w → (¬ (x8.isNone = true))) ∧
     (0 ≤ x15) ∧
     ∃ (x24 : Int) (x25 : Int) (x26 : Int) (x27 : Int) (x28 : Int) (x29 : Int) (x30 : Int) (x31 : Int) (x32 : Int) (x33 : Int) (x34 : Int) (x35 : Int) (x36 : Bool) (x37 : Int) (x38 : Option Addr) (x39 : Nat) (x40 : Nat) (x41 : Option Addr) (x42 : Nat) (x43 : Nat),
     (∀ w : World, K3 w → LoadsAt w (x8.map (·.add (x15.toNat * 16))) [Value.int .i64 x24, Value.int .i64 x25, Value.int .u64 x26, Value.int .u64 x27, Value.int .u64 x28, Value.int .u64 x29, Value.int .u64 x30, Value.int .u64 x31, Value.int .i64 x32, Value.int .i64 x33, Value.int .i64 x34, Value.int .i64 x35, Value.bool x36, Value.int .u64 x37, Value.slice x38 x39 x40, Value.slice x41 x42 x43]) ∧
     ∃ (α44 : Type) (x44 : α44),
     let gu44 : U := .g x44
     ∃ (α45 : Type) (x45 : α45),
     let gu45 : U := .g x45
     let u4 : List U := [.i x16, .i x17, .i x18, .i x19, .i x20, .p x21, .n x22, .n x23, .i x24, .i x25, .i x26, .i x27, .i x28, .i x29, .i x30, .i x31, .i x32, .i x33, .i x34, .i x35, .b x36, .i x37, .p x38, .n x39, .n x40, .p x41, .n x42, .n x43, gu44, gu45]
     (∀ w : World, K3 w → AccS.pre u4 w) ∧
     ∀ (x46 : Int) (x47 : Int) (x48 : Int) (x49 : Int) (x50 : Int) (x51 : Option Addr) (x52 : Nat) (x53 : Nat) (x54 : Int),
     let o5 : List U := [.i x46, .i x47, .i x48, .i x49, .i x50, .p x51, .n x52, .n x53, .i x54]
     (AccS.post u4 o5 →
     ((
      (x54 = 0) →
      (((x13 + 1 : Nat) : Int) ≤ 9223372036854775807) ∧
      ((((x13 + 1) * 8 : Nat) : Int) ≤ 140737488355328) ∧
      (((-9223372036854775808) ≤ (x15 + 1)) ∧ ((x15 + 1) ≤ 9223372036854775807)) ∧
      let v6 : List U := [.n (x13 + 1), .l (x14 ++ [Value.int .i64 x54]), .i (x15 + 1), .i x46, .i x47, .i x48, .i x49, .i x50, .p x51, .n x52, .n x53]
      let K7 : World → Prop := fun w => K3 w ∧ AccS.fact u4 o5 w
      I3.inv v6 ∧ (∀ w : World, K7 w → I3.fact v6 w) ∧
      I3.mea v6 < I3.mea v2 ∧
      True
     ) ∧ (
      (¬ (x54 = 0)) →
      (((x13 + 1 : Nat) : Int) ≤ 9223372036854775807) ∧
      ((((x13 + 1) * 8 : Nat) : Int) ≤ 140737488355328) ∧
      (((-9223372036854775808) ≤ (x15 + 1)) ∧ ((x15 + 1) ≤ 9223372036854775807)) ∧
      let v6 : List U := [.n (x13 + 1), .l (x14 ++ [Value.int .i64 x54]), .i (x15 + 1), .i x16, .i x17, .i x18, .i x19, .i x20, .p x21, .n x22, .n x23]
      let K7 : World → Prop := fun w => K3 w ∧ AccS.fact u4 o5 w
      I3.inv v6 ∧ (∀ w : World, K7 w → I3.fact v6 w) ∧
      I3.mea v6 < I3.mea v2 ∧
      True
     ))
     )
    ) ∧ (
     (¬ (x15 < ((x9 : Nat) : Int))) →
     ∀ (x24 : Option Addr) (x25 : Nat),
     let o3 : List U := [.i x16, .i x17, .i x18, .i x19, .i x20, .p x21, .n x22, .n x23, .p x24, .n x13, .n x25]
     let K4 : World → Prop := fun w => K1 w ∧ I3.fact v2 w
     let K5 : World → Prop := fun w => K4 w ∧ w.ownsRow base 44 1 (.slice x24 x13 x25) x13 x14
     s.post us o3 ∧ (∀ w : World, K5 w → s.fact us o3 w)
    ))
    )
set_option maxRecDepth 100000 in
theorem vc_Follow (s : Ctr) (AccS : Ctr) (I3 : Inv) (x0 : Int) (x1 : Int) (x2 : Int) (x3 : Int) (x4 : Int) (x5 : Option Addr) (x6 : Nat) (x7 : Nat) (x8 : Option Addr) (x9 : Nat) (x10 : Nat) {α11 : Type} (x11 : α11) {α12 : Type} (x12 : α12) (base : Nat) : (vcOf Try.prog cfg_Follow 32).den (smOf [(37, AccS)] s [(3, I3)] [.i x0, .i x1, .i x2, .i x3, .i x4, .p x5, .n x6, .n x7, .p x8, .n x9, .n x10, .g x11, .g x12] base) (rhoOf [.i x0, .i x1, .i x2, .i x3, .i x4, .p x5, .n x6, .n x7, .p x8, .n x9, .n x10, .g x11, .g x12] [.i, .i, .i, .i, .i, .p, .n, .n, .p, .n, .n, .g, .g]) = VC_Follow s AccS I3 x0 x1 x2 x3 x4 x5 x6 x7 x8 x9 x10 x11 x12 base := by kernel_rfl
set_option maxRecDepth 100000 in
theorem keeps_Follow (s : Ctr) (hg : s.gh = 2) (AccS : Ctr) (hAccS37 : Keeps Try.prog 37 AccS) (gAccS37 : AccS.gh = 2) (mono : ∀ us w w', s.pre us w → Below w.heap.size w w' → s.pre us w')
    (vc : ∀ (x0 : Int) (x1 : Int) (x2 : Int) (x3 : Int) (x4 : Int) (x5 : Option Addr) (x6 : Nat) (x7 : Nat) (x8 : Option Addr) (x9 : Nat) (x10 : Nat) (α11 : Type) (x11 : α11) (α12 : Type) (x12 : α12) (w : World), s.pre [.i x0, .i x1, .i x2, .i x3, .i x4, .p x5, .n x6, .n x7, .p x8, .n x9, .n x10, .g x11, .g x12] w → ∃ I3 : Inv, VC_Follow s AccS I3 x0 x1 x2 x3 x4 x5 x6 x7 x8 x9 x10 x11 x12 w.heap.size) : Keeps Try.prog 32 s := by
  refine keeps_of (by kernel_rfl) Try.func32 (pin := [.agg [.int .i64, .int .i64, .int .i64, .int .i64, .int .u64, .slc], .one (.slc)]) (pout := [.agg [.int .i64, .int .i64, .int .i64, .int .i64, .int .u64, .slc], .one (.slc)]) (by kernel_rfl) (by kernel_rfl) s [(37, AccS)] ⟨hAccS37, trivial⟩ cfg_Follow (by show cfg_Follow.con = [(37, AccS.gh)]; rw [gAccS37]; rfl) mono ?_
  intro us w ht hp
  rw [hg] at ht ⊢
  obtain ⟨x0, us, rfl, ht0⟩ := typed_i ht
  obtain ⟨x1, us, rfl, ht1⟩ := typed_i ht0
  obtain ⟨x2, us, rfl, ht2⟩ := typed_i ht1
  obtain ⟨x3, us, rfl, ht3⟩ := typed_i ht2
  obtain ⟨x4, us, rfl, ht4⟩ := typed_i ht3
  obtain ⟨x5, us, rfl, ht5⟩ := typed_p ht4
  obtain ⟨x6, us, rfl, ht6⟩ := typed_n ht5
  obtain ⟨x7, us, rfl, ht7⟩ := typed_n ht6
  obtain ⟨x8, us, rfl, ht8⟩ := typed_p ht7
  obtain ⟨x9, us, rfl, ht9⟩ := typed_n ht8
  obtain ⟨x10, us, rfl, ht10⟩ := typed_n ht9
  obtain ⟨_, x11, us, rfl, ht11⟩ := typed_g ht10
  obtain ⟨_, x12, us, rfl, ht12⟩ := typed_g ht11
  obtain rfl := typed_nil ht12
  obtain ⟨I3, hv⟩ := vc x0 x1 x2 x3 x4 x5 x6 x7 x8 x9 x10 _ x11 _ x12 w hp
  exact ⟨[(3, I3)], Eq.mpr (vc_Follow ..) hv⟩
def cfg_RFollow : Cfg := { con := [(38, 2)], own := 2, loops := [(3, { slots := [6, 7], blks := [2], rows := [6], extra := [] })], joins := [], wraps := [], rows := [(6, 44)], retire := [] }
set_option maxRecDepth 100000 in
def VC_RFollow (s : Ctr) (AccS : Ctr) (I3 : Inv) (x0 : Int) (x1 : Int) (x2 : Int) (x3 : Int) (x4 : Int) (x5 : Option Addr) (x6 : Nat) (x7 : Nat) (x8 : Option Addr) (x9 : Nat) (x10 : Nat) {α11 : Type} (x11 : α11) {α12 : Type} (x12 : α12) (base : Nat) : Prop :=
    let us : List U := [.i x0, .i x1, .i x2, .i x3, .i x4, .p x5, .n x6, .n x7, .p x8, .n x9, .n x10, .g x11, .g x12]
    let v0 : List U := [.n 0, .l [], .i 0, .i x0, .i x1, .i x2, .i x3, .i x4, .p x5, .n x6, .n x7]
    let K1 : World → Prop := fun w => s.pre us w
    I3.inv v0 ∧ (∀ w : World, K1 w → I3.fact v0 w) ∧
    ∀ (x13 : Nat) (x14 : List Value) (x15 : Int) (x16 : Int) (x17 : Int) (x18 : Int) (x19 : Int) (x20 : Int) (x21 : Option Addr) (x22 : Nat) (x23 : Nat),
    let v2 : List U := [.n x13, .l x14, .i x15, .i x16, .i x17, .i x18, .i x19, .i x20, .p x21, .n x22, .n x23]
    (I3.inv v2 →
    ((
     (x15 < ((x9 : Nat) : Int)) →
     let K3 : World → Prop := fun w => K1 w ∧ I3.fact v2 w
     (∀ w : World, K3 w → (¬ (x8.isNone = true))) ∧
     (0 ≤ x15) ∧
     ∃ (x24 : Int) (x25 : Int) (x26 : Int) (x27 : Int) (x28 : Int) (x29 : Int) (x30 : Int) (x31 : Int) (x32 : Int) (x33 : Int) (x34 : Int) (x35 : Int) (x36 : Bool) (x37 : Int) (x38 : Option Addr) (x39 : Nat) (x40 : Nat) (x41 : Option Addr) (x42 : Nat) (x43 : Nat),
     (∀ w : World, K3 w → LoadsAt w (x8.map (·.add (x15.toNat * 16))) [Value.int .i64 x24, Value.int .i64 x25, Value.int .u64 x26, Value.int .u64 x27, Value.int .u64 x28, Value.int .u64 x29, Value.int .u64 x30, Value.int .u64 x31, Value.int .i64 x32, Value.int .i64 x33, Value.int .i64 x34, Value.int .i64 x35, Value.bool x36, Value.int .u64 x37, Value.slice x38 x39 x40, Value.slice x41 x42 x43]) ∧
     ∃ (α44 : Type) (x44 : α44),
     let gu44 : U := .g x44
     ∃ (α45 : Type) (x45 : α45),
     let gu45 : U := .g x45
     let u4 : List U := [.i x16, .i x17, .i x18, .i x19, .i x20, .p x21, .n x22, .n x23, .i x24, .i x25, .i x26, .i x27, .i x28, .i x29, .i x30, .i x31, .i x32, .i x33, .i x34, .i x35, .b x36, .i x37, .p x38, .n x39, .n x40, .p x41, .n x42, .n x43, gu44, gu45]
     (∀ w : World, K3 w → AccS.pre u4 w) ∧
     ∀ (x46 : Int) (x47 : Int) (x48 : Int) (x49 : Int) (x50 : Int) (x51 : Option Addr) (x52 : Nat) (x53 : Nat) (x54 : Int),
     let o5 : List U := [.i x46, .i x47, .i x48, .i x49, .i x50, .p x51, .n x52, .n x53, .i x54]
     (AccS.post u4 o5 →
     (((x13 + 1 : Nat) : Int) ≤ 9223372036854775807) ∧
     ((((x13 + 1) * 8 : Nat) : Int) ≤ 140737488355328) ∧
     ((
      (x54 = 0) →
      (((-9223372036854775808) ≤ (x15 + 1)) ∧ ((x15 + 1) ≤ 9223372036854775807)) ∧
      let v6 : List U := [.n (x13 + 1), .l (x14 ++ [Value.int .i64 x54]), .i (x15 + 1), .i x46, .i x47, .i x48, .i x49, .i x50, .p x51, .n x52, .n x53]
      let K7 : World → Prop := fun w => K3 w ∧ AccS.fact u4 o5 w
      I3.inv v6 ∧ (∀ w : World, K7 w → I3.fact v6 w) ∧
      I3.mea v6 < I3.mea v2 ∧
      True
     ) ∧ (
      (¬ (x54 = 0)) →
      (((-9223372036854775808) ≤ (x15 + 1)) ∧ ((x15 + 1) ≤ 9223372036854775807)) ∧
      let v6 : List U := [.n (x13 + 1), .l (x14 ++ [Value.int .i64 x54]), .i (x15 + 1), .i x16, .i x17, .i x18, .i x19, .i x20, .p x21, .n x22, .n x23]
      let K7 : World → Prop := fun w => K3 w ∧ AccS.fact u4 o5 w
      I3.inv v6 ∧ (∀ w : World, K7 w → I3.fact v6 w) ∧
      I3.mea v6 < I3.mea v2 ∧
      True
     ))
     )
    ) ∧ (
     (¬ (x15 < ((x9 : Nat) : Int))) →
     ∀ (x24 : Option Addr) (x25 : Nat),
     let o3 : List U := [.i x16, .i x17, .i x18, .i x19, .i x20, .p x21, .n x22, .n x23, .p x24, .n x13, .n x25]
     let K4 : World → Prop := fun w => K1 w ∧ I3.fact v2 w
     let K5 : World → Prop := fun w => K4 w ∧ w.ownsRow base 44 1 (.slice x24 x13 x25) x13 x14
     s.post us o3 ∧ (∀ w : World, K5 w → s.fact us o3 w)
    ))
    )
set_option maxRecDepth 100000 in
theorem vc_RFollow (s : Ctr) (AccS : Ctr) (I3 : Inv) (x0 : Int) (x1 : Int) (x2 : Int) (x3 : Int) (x4 : Int) (x5 : Option Addr) (x6 : Nat) (x7 : Nat) (x8 : Option Addr) (x9 : Nat) (x10 : Nat) {α11 : Type} (x11 : α11) {α12 : Type} (x12 : α12) (base : Nat) : (vcOf Try.prog cfg_RFollow 33).den (smOf [(38, AccS)] s [(3, I3)] [.i x0, .i x1, .i x2, .i x3, .i x4, .p x5, .n x6, .n x7, .p x8, .n x9, .n x10, .g x11, .g x12] base) (rhoOf [.i x0, .i x1, .i x2, .i x3, .i x4, .p x5, .n x6, .n x7, .p x8, .n x9, .n x10, .g x11, .g x12] [.i, .i, .i, .i, .i, .p, .n, .n, .p, .n, .n, .g, .g]) = VC_RFollow s AccS I3 x0 x1 x2 x3 x4 x5 x6 x7 x8 x9 x10 x11 x12 base := by kernel_rfl
set_option maxRecDepth 100000 in
theorem keeps_RFollow (s : Ctr) (hg : s.gh = 2) (AccS : Ctr) (hAccS38 : Keeps Try.prog 38 AccS) (gAccS38 : AccS.gh = 2) (mono : ∀ us w w', s.pre us w → Below w.heap.size w w' → s.pre us w')
    (vc : ∀ (x0 : Int) (x1 : Int) (x2 : Int) (x3 : Int) (x4 : Int) (x5 : Option Addr) (x6 : Nat) (x7 : Nat) (x8 : Option Addr) (x9 : Nat) (x10 : Nat) (α11 : Type) (x11 : α11) (α12 : Type) (x12 : α12) (w : World), s.pre [.i x0, .i x1, .i x2, .i x3, .i x4, .p x5, .n x6, .n x7, .p x8, .n x9, .n x10, .g x11, .g x12] w → ∃ I3 : Inv, VC_RFollow s AccS I3 x0 x1 x2 x3 x4 x5 x6 x7 x8 x9 x10 x11 x12 w.heap.size) : Keeps Try.prog 33 s := by
  refine keeps_of (by kernel_rfl) Try.func33 (pin := [.agg [.int .i64, .int .i64, .int .i64, .int .i64, .int .u64, .slc], .one (.slc)]) (pout := [.agg [.int .i64, .int .i64, .int .i64, .int .i64, .int .u64, .slc], .one (.slc)]) (by kernel_rfl) (by kernel_rfl) s [(38, AccS)] ⟨hAccS38, trivial⟩ cfg_RFollow (by show cfg_RFollow.con = [(38, AccS.gh)]; rw [gAccS38]; rfl) mono ?_
  intro us w ht hp
  rw [hg] at ht ⊢
  obtain ⟨x0, us, rfl, ht0⟩ := typed_i ht
  obtain ⟨x1, us, rfl, ht1⟩ := typed_i ht0
  obtain ⟨x2, us, rfl, ht2⟩ := typed_i ht1
  obtain ⟨x3, us, rfl, ht3⟩ := typed_i ht2
  obtain ⟨x4, us, rfl, ht4⟩ := typed_i ht3
  obtain ⟨x5, us, rfl, ht5⟩ := typed_p ht4
  obtain ⟨x6, us, rfl, ht6⟩ := typed_n ht5
  obtain ⟨x7, us, rfl, ht7⟩ := typed_n ht6
  obtain ⟨x8, us, rfl, ht8⟩ := typed_p ht7
  obtain ⟨x9, us, rfl, ht9⟩ := typed_n ht8
  obtain ⟨x10, us, rfl, ht10⟩ := typed_n ht9
  obtain ⟨_, x11, us, rfl, ht11⟩ := typed_g ht10
  obtain ⟨_, x12, us, rfl, ht12⟩ := typed_g ht11
  obtain rfl := typed_nil ht12
  obtain ⟨I3, hv⟩ := vc x0 x1 x2 x3 x4 x5 x6 x7 x8 x9 x10 _ x11 _ x12 w hp
  exact ⟨[(3, I3)], Eq.mpr (vc_RFollow ..) hv⟩

theorem step_pure (y : Bel) (x : SightD) : stepX y x = if accX y x = 0 then ⟨y.c, y.w, y.e, x.header.h, x.header.s, x.seats⟩ else y := rfl
/-- what the loop keeps -/
def folI (b : Bel) (l : List SightD) : Inv := {
  inv := fun vs => ∃ (k : Nat) (A' : Option Addr) (k' : Nat), k ≤ l.length ∧ vs = [.n k, .l (errCells (errX b (l.take k))), .i k] ++ belU (folX b (l.take k)) A' k'
  fact := fun vs w => belH w (folX b (l.take (at_ vs 0).N)) (at_ vs 8).P
  mea := fun vs => l.length - (at_ vs 0).N }
set_option maxRecDepth 100000 in
theorem follow_ok {f : Nat} : Keeps Try.prog 37 AccS → Keeps Try.prog 32 FolS := by
  intro hA
  refine keeps_Follow FolS rfl AccS hA rfl ?_ ?_
  · rintro us w w' ⟨b, A, k, l, LA, lc, rfl, h⟩ hb
    exact ⟨b, A, k, l, LA, lc, rfl, folH_on h hb⟩
  · intro x0 x1 x2 x3 x4 x5 x6 x7 x8 x9 x10 α11 x11 α12 x12 w hp
    obtain ⟨b, A, kk, l, LA, lc, he, hH⟩ := hp
    refine ⟨folI b l, ?_⟩
    unfold VC_Follow
    intro us v0 K1
    have hus : us = folU b A kk l LA lc := he
    have hF : ∀ w, K1 w → folH w b A l LA := by
      rintro w ⟨b', A', k', l', LA', lc', he', h'⟩
      obtain ⟨rfl, rfl, rfl, rfl⟩ := fol_inj (he.symm.trans he')
      exact h'
    unfold folU belU at he
    simp only [List.cons_append, List.nil_append, List.cons.injEq, U.i.injEq, U.p.injEq, U.n.injEq] at he
    obtain ⟨rfl, rfl, rfl, rfl, rfl, rfl, rfl, rfl, rfl, rfl, rfl, _⟩ := he
    refine ⟨⟨0, _, _, Nat.zero_le _, rfl⟩, fun w hw => (hF w hw).1, ?_⟩
    intro x13 x14 x15 x16 x17 x18 x19 x20 x21 x22 x23 v2 hI
    obtain ⟨k, A', k', hk, he⟩ := hI
    have hv2 : v2 = [.n k, .l (errCells (errX b (l.take k))), .i k] ++ belU (folX b (l.take k)) A' k' := he
    simp only [v2, belU, List.cons_append, List.nil_append, List.cons.injEq, U.i.injEq, U.p.injEq, U.n.injEq, U.l.injEq, and_true] at he
    obtain ⟨rfl, rfl, rfl, rfl, rfl, rfl, rfl, rfl, rfl, rfl, rfl⟩ := he
    obtain ⟨k, hkk⟩ : ∃ k, k = x13 := ⟨_, rfl⟩
    subst hkk
    have hz := hH.2.2.2.2
    have hKw : ∀ w, (K1 w ∧ (folI b l).fact v2 w) → folH w b x5 l x8 ∧ belH w (folX b (l.take k)) x21 := fun w hw => ⟨hF w hw.1, hw.2⟩
    refine ⟨fun hlt => ?_, fun hge => ?_⟩
    · have hkl : k < l.length := by omega
      have hsn := folX_snoc b l k hkl
      have hen := errX_snoc b l k hkl
      have hx := List.getElem_mem hkl
      obtain ⟨y, hy⟩ : ∃ y, y = folX b (l.take k) := ⟨_, rfl⟩
      rw [← hy] at hsn hen
      obtain ⟨ab, ao, hA1, _, _⟩ := SightsL.at_ hH.2.1 hkl
      intro K3
      refine ⟨fun w _ => by rw [hA1]; simp, by omega, ?_⟩
      obtain ⟨x, hxe⟩ : ∃ x, x = l[k] := ⟨_, rfl⟩
      rw [← hxe] at hsn hen hx
      rw [← hy]
      refine ⟨x.header.c, x.header.h, x.header.p, x.header.t, x.header.g, x.header.s, x.header.r, x.header.b, x.header.o, x.cert.h, x.cert.r, x.cert.s, x.cert.has, x.cert.b, x.cert.fa, x.cert.froms.length, x.cert.fc, x.sa, x.seats.length, x.sc, ?_⟩
      refine ⟨fun w hw => ?_, Bel, y, SightD, x, ?_⟩
      · obtain ⟨ab, ao, hA1, _, hcell⟩ := SightsL.at_ (hKw w hw).1.2.1 hkl
        rw [← hxe] at hcell
        refine ⟨⟨ab, ao + k * 16, none⟩, ?_, fun j v hv => ?_⟩
        · rw [hA1]
          show some ((⟨ab, ao, none⟩ : Addr).add (((k : Int).toNat) * 16)) = _
          rw [add_plain]
          rfl
        · rw [add_plain]
          exact hcell j v hv
      · intro gu45 u4
        have hu4 : u4 = belU y x21 x23 ++ sightU x ++ [.g y, .g x] := rfl
        have hyw : ∀ w, K3 w → belH w y x21 := fun w hw => by rw [hy]; exact (hKw w hw).2
        refine ⟨fun w hw => ⟨y, x21, x23, x, hu4, hyw w hw, (hKw w hw).1.2.2.1 x hx, (hH.2.2.2.1 x hx).1, (hH.2.2.2.1 x hx).2⟩, ?_⟩
        intro x46 x47 x48 x49 x50 x51 x52 x53 x54 o5 hpost
        obtain ⟨A2, c2, he⟩ := hpost y x21 x23 x hu4
        have hfact : ∀ w, AccS.fact u4 o5 w → SeatsL w w.heap.size x51 (if accX y x = 0 then x.seats else []) := fun w hw => hw y x21 x23 x hu4
        have hE : errCells (errX b (l.take (k + 1))) = errCells (errX b (l.take k)) ++ [Value.int .i64 (accX y x)] := by
          rw [hen]
          unfold errCells
          rw [List.map_append]
          rfl
        simp only [o5, accO, List.cons.injEq, U.i.injEq, U.p.injEq, U.n.injEq, and_true] at he
        obtain ⟨rfl, rfl, rfl, rfl, rfl, rfl, rfl, rfl, rfl⟩ := he
        have hst : folX b (l.take (k + 1)) = stepX y x := hsn
        refine ⟨fun h0 => ⟨by omega, by omega, by omega, ?_⟩, fun h0 => ⟨by omega, by omega, by omega, ?_⟩⟩
        · intro v6 K7
          unfold stepX at hst
          rw [if_pos h0] at hst
          refine ⟨⟨k + 1, x51, x53, by omega, ?_⟩, fun w hw => ?_, by show l.length - (k + 1) < l.length - k; omega, trivial⟩
          · simp only [v6]
            rw [hE, hst]
            simp only [h0, if_true, belU, List.cons_append, List.nil_append]
            rfl
          · show belH w (folX b (l.take (k + 1))) x51
            rw [hst]
            have := hfact w hw.2
            rw [if_pos h0] at this
            exact ⟨((hKw w hw.1).1.2.2.1 x hx).header.2.2.2.1, this, (hH.2.2.2.1 x hx).1⟩
        · intro v6 K7
          unfold stepX at hst
          rw [if_neg h0] at hst
          refine ⟨⟨k + 1, x21, x23, by omega, ?_⟩, fun w hw => ?_, by show l.length - (k + 1) < l.length - k; omega, trivial⟩
          · simp only [v6]
            rw [hE, hst]
            rfl
          · show belH w (folX b (l.take (k + 1))) x21
            rw [hst]
            exact hyw w hw.1
    · have : k = l.length := by omega
      subst this
      intro x24 x25 o3 K4 K5
      refine ⟨fun b' A' k' l' LA' lc' he => ?_, fun w hw b' A' k' l' LA' lc' he => ?_⟩
      · obtain ⟨rfl, rfl, rfl, rfl⟩ := fol_inj (hus.symm.trans he)
        refine ⟨x21, x23, x24, x25, ?_⟩
        simp only [o3, List.take_length]
        rfl
      · obtain ⟨rfl, rfl, rfl, rfl⟩ := fol_inj (hus.symm.trans he)
        have h1 := (hKw w hw.1).2
        have h2 := hw.2
        rw [List.take_length] at h1 h2
        exact ⟨h1, _, Rd.of_own h2⟩
set_option maxRecDepth 100000 in
theorem rfollow_ok {f : Nat} : Keeps Try.prog 38 AccS → Keeps Try.prog 33 FolS := by
  intro hA
  refine keeps_RFollow FolS rfl AccS hA rfl ?_ ?_
  · rintro us w w' ⟨b, A, k, l, LA, lc, rfl, h⟩ hb
    exact ⟨b, A, k, l, LA, lc, rfl, folH_on h hb⟩
  · intro x0 x1 x2 x3 x4 x5 x6 x7 x8 x9 x10 α11 x11 α12 x12 w hp
    obtain ⟨b, A, kk, l, LA, lc, he, hH⟩ := hp
    refine ⟨folI b l, ?_⟩
    unfold VC_RFollow
    intro us v0 K1
    have hus : us = folU b A kk l LA lc := he
    have hF : ∀ w, K1 w → folH w b A l LA := by
      rintro w ⟨b', A', k', l', LA', lc', he', h'⟩
      obtain ⟨rfl, rfl, rfl, rfl⟩ := fol_inj (he.symm.trans he')
      exact h'
    unfold folU belU at he
    simp only [List.cons_append, List.nil_append, List.cons.injEq, U.i.injEq, U.p.injEq, U.n.injEq] at he
    obtain ⟨rfl, rfl, rfl, rfl, rfl, rfl, rfl, rfl, rfl, rfl, rfl, _⟩ := he
    refine ⟨⟨0, _, _, Nat.zero_le _, rfl⟩, fun w hw => (hF w hw).1, ?_⟩
    intro x13 x14 x15 x16 x17 x18 x19 x20 x21 x22 x23 v2 hI
    obtain ⟨k, A', k', hk, he⟩ := hI
    have hv2 : v2 = [.n k, .l (errCells (errX b (l.take k))), .i k] ++ belU (folX b (l.take k)) A' k' := he
    simp only [v2, belU, List.cons_append, List.nil_append, List.cons.injEq, U.i.injEq, U.p.injEq, U.n.injEq, U.l.injEq, and_true] at he
    obtain ⟨rfl, rfl, rfl, rfl, rfl, rfl, rfl, rfl, rfl, rfl, rfl⟩ := he
    obtain ⟨k, hkk⟩ : ∃ k, k = x13 := ⟨_, rfl⟩
    subst hkk
    have hz := hH.2.2.2.2
    have hKw : ∀ w, (K1 w ∧ (folI b l).fact v2 w) → folH w b x5 l x8 ∧ belH w (folX b (l.take k)) x21 := fun w hw => ⟨hF w hw.1, hw.2⟩
    refine ⟨fun hlt => ?_, fun hge => ?_⟩
    · have hkl : k < l.length := by omega
      have hsn := folX_snoc b l k hkl
      have hen := errX_snoc b l k hkl
      have hx := List.getElem_mem hkl
      obtain ⟨y, hy⟩ : ∃ y, y = folX b (l.take k) := ⟨_, rfl⟩
      rw [← hy] at hsn hen
      obtain ⟨ab, ao, hA1, _, _⟩ := SightsL.at_ hH.2.1 hkl
      intro K3
      refine ⟨fun w _ => by rw [hA1]; simp, by omega, ?_⟩
      obtain ⟨x, hxe⟩ : ∃ x, x = l[k] := ⟨_, rfl⟩
      rw [← hxe] at hsn hen hx
      rw [← hy]
      refine ⟨x.header.c, x.header.h, x.header.p, x.header.t, x.header.g, x.header.s, x.header.r, x.header.b, x.header.o, x.cert.h, x.cert.r, x.cert.s, x.cert.has, x.cert.b, x.cert.fa, x.cert.froms.length, x.cert.fc, x.sa, x.seats.length, x.sc, ?_⟩
      refine ⟨fun w hw => ?_, Bel, y, SightD, x, ?_⟩
      · obtain ⟨ab, ao, hA1, _, hcell⟩ := SightsL.at_ (hKw w hw).1.2.1 hkl
        rw [← hxe] at hcell
        refine ⟨⟨ab, ao + k * 16, none⟩, ?_, fun j v hv => ?_⟩
        · rw [hA1]
          show some ((⟨ab, ao, none⟩ : Addr).add (((k : Int).toNat) * 16)) = _
          rw [add_plain]
          rfl
        · rw [add_plain]
          exact hcell j v hv
      · intro gu45 u4
        have hu4 : u4 = belU y x21 x23 ++ sightU x ++ [.g y, .g x] := rfl
        have hyw : ∀ w, K3 w → belH w y x21 := fun w hw => by rw [hy]; exact (hKw w hw).2
        refine ⟨fun w hw => ⟨y, x21, x23, x, hu4, hyw w hw, (hKw w hw).1.2.2.1 x hx, (hH.2.2.2.1 x hx).1, (hH.2.2.2.1 x hx).2⟩, ?_⟩
        intro x46 x47 x48 x49 x50 x51 x52 x53 x54 o5 hpost
        obtain ⟨A2, c2, he⟩ := hpost y x21 x23 x hu4
        have hfact : ∀ w, AccS.fact u4 o5 w → SeatsL w w.heap.size x51 (if accX y x = 0 then x.seats else []) := fun w hw => hw y x21 x23 x hu4
        have hE : errCells (errX b (l.take (k + 1))) = errCells (errX b (l.take k)) ++ [Value.int .i64 (accX y x)] := by
          rw [hen]
          unfold errCells
          rw [List.map_append]
          rfl
        simp only [o5, accO, List.cons.injEq, U.i.injEq, U.p.injEq, U.n.injEq, and_true] at he
        obtain ⟨rfl, rfl, rfl, rfl, rfl, rfl, rfl, rfl, rfl⟩ := he
        have hst : folX b (l.take (k + 1)) = stepX y x := hsn
        refine ⟨by omega, by omega, fun h0 => ⟨by omega, ?_⟩, fun h0 => ⟨by omega, ?_⟩⟩
        · intro v6 K7
          unfold stepX at hst
          rw [if_pos h0] at hst
          refine ⟨⟨k + 1, x51, x53, by omega, ?_⟩, fun w hw => ?_, by show l.length - (k + 1) < l.length - k; omega, trivial⟩
          · simp only [v6]
            rw [hE, hst]
            simp only [h0, if_true, belU, List.cons_append, List.nil_append]
            rfl
          · show belH w (folX b (l.take (k + 1))) x51
            rw [hst]
            have := hfact w hw.2
            rw [if_pos h0] at this
            exact ⟨((hKw w hw.1).1.2.2.1 x hx).header.2.2.2.1, this, (hH.2.2.2.1 x hx).1⟩
        · intro v6 K7
          unfold stepX at hst
          rw [if_neg h0] at hst
          refine ⟨⟨k + 1, x21, x23, by omega, ?_⟩, fun w hw => ?_, by show l.length - (k + 1) < l.length - k; omega, trivial⟩
          · simp only [v6]
            rw [hE, hst]
            rfl
          · show belH w (folX b (l.take (k + 1))) x21
            rw [hst]
            exact hyw w hw.1
    · have : k = l.length := by omega
      subst this
      intro x24 x25 o3 K4 K5
      refine ⟨fun b' A' k' l' LA' lc' he => ?_, fun w hw b' A' k' l' LA' lc' he => ?_⟩
      · obtain ⟨rfl, rfl, rfl, rfl⟩ := fol_inj (hus.symm.trans he)
        refine ⟨x21, x23, x24, x25, ?_⟩
        simp only [o3, List.take_length]
        rfl
      · obtain ⟨rfl, rfl, rfl, rfl⟩ := fol_inj (hus.symm.trans he)
        have h1 := (hKw w hw.1).2
        have h2 := hw.2
        rw [List.take_length] at h1 h2
        exact ⟨h1, _, Rd.of_own h2⟩
end Go.Proofs.Ytjjkdmngmopjbaa

namespace Go.Proofs.Ytjjkdmngmopjbaa
open Go.RowKit Vc
theorem keeps_bridge {f : Nat} {fn : Func} {pin pout : List Sh} (hfn : Try.prog.funcs[f]? = some fn) (hpin : shsOf Try.prog fn.params = some pin) (hpout : shsOf Try.prog fn.resultTypes = some pout) (s : Ctr)
    (h : ∀ us w, us.map U.srt = lfsSrts (shsLfs pin) ++ List.replicate s.gh .g → s.pre us w → Calls Try.prog f (shsV us 0 pin).toArray w fun e w' => ∃ os : List U, os.map U.srt = lfsSrts (shsLfs pout) ∧ e = .returned (resV os pout) ∧ s.post us os ∧
      (∀ u : World, (∀ b, w.heap.size ≤ b → b < w'.heap.size → u.heap[b]? = w'.heap[b]?) → s.pre us u → s.fact us os u) ∧ Below w.heap.size w w') : Keeps Try.prog f s := by
  intro fn' pin' pout' h1 h2 h3 us w ht hp
  rw [hfn] at h1; injection h1 with h1; subst h1
  rw [hpin] at h2; injection h2 with h2; subst h2
  rw [hpout] at h3; injection h3 with h3; subst h3
  exact h us w ht hp
/-- a contract whose answer hangs on the arguments alone -/
def PureS (pre : List U → Prop) (post : List U → List U → Prop) : Ctr := { gh := 0, pre := fun us _ => pre us, post := post, fact := fun _ _ _ => True }
def PickS : Ctr := PureS (fun us => ∃ c n : Int, us = [.i c, .i n] ∧ (-9223372036854775808 ≤ c ∧ c ≤ 9223372036854775807) ∧ 1 ≤ n ∧ n ≤ 9223372036854775807) (fun us os => ∀ c n : Int, us = [.i c, .i n] → os = [.i (pickS c n)])
theorem pick_ok : Keeps Try.prog 13 PickS := by
  refine keeps_bridge Try.func13 (pin := [.one (.int .i64), .one (.int .i64)]) (pout := [.one (.int .i64)]) (by kernel_rfl) (by kernel_rfl) PickS ?_
  rintro us w _ ⟨c, n, rfl, hc, hn⟩
  refine (pick_any c n w hc.1 hn.1).mono ?_
  rintro e w' ⟨rfl, rfl⟩
  refine ⟨[.i (pickS c n)], rfl, rfl, fun c' n' h => ?_, fun _ _ _ => trivial, Below.refl _ _⟩
  injection h with h1 h2; injection h2 with h2 _
  injection h1 with h1; injection h2 with h2
  rw [h1, h2]
def NameS : Ctr := PureS (fun us => ∃ (wd : Int) (x : HeaderD), us = .i wd :: headerU x ∧ x.ok) (fun us os => ∀ (wd : Int) (x : HeaderD), us = .i wd :: headerU x → os = [.i (nameS wd x)])
theorem header_inj {x y : HeaderD} (h : headerU x = headerU y) : x = y := by
  obtain ⟨⟩ := x
  obtain ⟨⟩ := y
  unfold headerU at h
  simp only [List.cons.injEq, U.i.injEq, and_true] at h
  obtain ⟨rfl, rfl, rfl, rfl, rfl, rfl, rfl, rfl, rfl⟩ := h
  rfl
theorem name_of {f : Nat} {fn : Func} (hfn : Try.prog.funcs[f]? = some fn) (hpin : shsOf Try.prog fn.params = some [.one (.int .i64), .agg [.int .i64, .int .i64, .int .u64, .int .u64, .int .u64, .int .u64, .int .u64, .int .u64, .int .i64]]) (hpout : shsOf Try.prog fn.resultTypes = some [.one (.int .u64)])
    (h : ∀ (wd : Int) (x : HeaderD) (_ : x.ok) (w : World), Calls Try.prog f #[.int .i64 wd, .agg #[.int .i64 x.c, .int .i64 x.h, .int .u64 x.p, .int .u64 x.t, .int .u64 x.g, .int .u64 x.s, .int .u64 x.r, .int .u64 x.b, .int .i64 x.o]] w fun e w' => e = .returned (.int .u64 (nameS wd x)) ∧ Below w.heap.size w w') : Keeps Try.prog f NameS := by
  refine keeps_bridge hfn hpin hpout NameS ?_
  rintro us w _ ⟨wd, x, rfl, hx⟩
  refine (h wd x hx w).mono ?_
  rintro e w' ⟨rfl, hb⟩
  refine ⟨[.i (nameS wd x)], rfl, rfl, fun wd' x' h => ?_, fun _ _ _ => trivial, hb⟩
  have h1 := List.cons.inj h
  rw [header_inj h1.2, U.i.inj h1.1]
theorem lname_ok : Keeps Try.prog 35 NameS := name_of Try.func35 (by kernel_rfl) (by kernel_rfl) lname_any
theorem rname_ok : Keeps Try.prog 36 NameS := name_of Try.func36 (by kernel_rfl) (by kernel_rfl) rname_any
def seatsU (A : Option Addr) (l : List Seat) (c : Nat) : List U := [.p A, .n l.length, .n c]
def BDigS : Ctr := {
  gh := 1
  pre := fun us w => ∃ (wd : Int) (A : Option Addr) (l : List Seat) (c : Nat), us = .i wd :: seatsU A l c ++ [.g l] ∧ SeatsL w w.heap.size A l ∧ l.length ≤ 65536
  post := fun us os => ∀ (wd : Int) (A : Option Addr) (l : List Seat) (c : Nat), us = .i wd :: seatsU A l c ++ [.g l] → os = [.i (benchS wd l)]
  fact := fun _ _ _ => True }
theorem seats_inj {wd wd' : Int} {A A' : Option Addr} {l l' : List Seat} {c c' : Nat} (h : U.i wd :: seatsU A l c ++ [U.g l] = U.i wd' :: seatsU A' l' c' ++ [U.g l']) : wd = wd' ∧ A = A' ∧ l = l' ∧ c = c' := by
  unfold seatsU at h
  simp only [List.cons_append, List.nil_append, List.cons.injEq, U.i.injEq, U.p.injEq, U.n.injEq, U.g.injEq, heq_eq_eq, true_and, and_true] at h
  exact ⟨h.1, h.2.1, h.2.2.2.2, h.2.2.2.1⟩
theorem bdig_ok : Keeps Try.prog 70 BDigS := by
  refine keeps_bridge Try.func70 (pin := [.one (.int .i64), .one .slc]) (pout := [.one (.int .u64)]) (by kernel_rfl) (by kernel_rfl) BDigS ?_
  rintro us w _ ⟨wd, A, l, c, rfl, hl, hn⟩
  refine (rbdigest_any wd l A c w.heap.size w hl (Nat.le_refl _) hn).mono ?_
  rintro e w' ⟨rfl, hb⟩
  refine ⟨[.i (benchS wd l)], rfl, rfl, fun wd' A' l' c' h => ?_, fun _ _ _ => trivial, hb⟩
  obtain ⟨rfl, rfl, rfl, rfl⟩ := seats_inj h
  rfl
def SeatedS : Ctr := {
  gh := 1
  pre := fun us w => ∃ (A : Option Addr) (l : List Seat) (c : Nat), us = seatsU A l c ++ [.g l] ∧ SeatsL w w.heap.size A l ∧ l.length ≤ 4096 ∧ Wide l
  post := fun us os => ∀ (A : Option Addr) (l : List Seat) (c : Nat), us = seatsU A l c ++ [.g l] → ∃ A' c', os = seatsU A' (seatedS l) c'
  fact := fun us os w => ∀ (A : Option Addr) (l : List Seat) (c : Nat), us = seatsU A l c ++ [.g l] → SeatsL w w.heap.size (at_ os 0).P (seatedS l) }
theorem seats1_inj {A A' : Option Addr} {l l' : List Seat} {c c' : Nat} (h : seatsU A l c ++ [U.g l] = seatsU A' l' c' ++ [U.g l']) : A = A' ∧ l = l' ∧ c = c' := by
  unfold seatsU at h
  simp only [List.cons_append, List.nil_append, List.cons.injEq, U.i.injEq, U.p.injEq, U.n.injEq, U.g.injEq, heq_eq_eq, true_and, and_true] at h
  exact ⟨h.1, h.2.2.2, h.2.2.1⟩
theorem seated_ok : Keeps Try.prog 31 SeatedS := by
  refine keeps_bridge Try.func31 (pin := [.one .slc]) (pout := [.one .slc]) (by kernel_rfl) (by kernel_rfl) SeatedS ?_
  rintro us w _ ⟨A, l, c, rfl, hl, hn, hw⟩
  refine (seated_any l A c w.heap.size w (show Seats w w.heap.size A l from hl) (Nat.le_refl _) hn hw).mono ?_
  rintro e w' ⟨v, rfl, hown, hb⟩
  obtain ⟨A', c', rfl⟩ := own_shape hown
  refine ⟨seatsU A' (seatedS l) c', rfl, rfl, fun A2 l2 c2 h => ?_, fun u hu _ A2 l2 c2 h => ?_, hb⟩
  · obtain ⟨rfl, rfl, rfl⟩ := seats1_inj h
    exact ⟨A', c', rfl⟩
  · obtain ⟨rfl, rfl, rfl⟩ := seats1_inj h
    exact rd_seg (by omega) (Rd.of_own hown) (own_from hown (Nat.le_refl _)) hu
def SameVS : Ctr := {
  gh := 1
  pre := fun us w => ∃ (b : Bel) (A A' : Option Addr) (k k' : Nat), us = belU b A k ++ belU b A' k' ++ [.g b] ∧ SeatsL w w.heap.size A b.seats ∧ SeatsL w w.heap.size A' b.seats ∧ b.seats.length ≤ 65536
  post := fun _ os => os = [.b true]
  fact := fun _ _ _ => True }
theorem same_ok : Keeps Try.prog 34 SameVS := by
  refine keeps_bridge Try.func34 (pin := [.agg [.int .i64, .int .i64, .int .i64, .int .i64, .int .u64, .slc], .agg [.int .i64, .int .i64, .int .i64, .int .i64, .int .u64, .slc]]) (pout := [.one .bool]) (by kernel_rfl) (by kernel_rfl) SameVS ?_
  rintro us w _ ⟨b, A, A', k, k', rfl, h, h', hl⟩
  refine (sameView_any b.c b.w b.e b.h b.s b.seats A A' k k' w.heap.size w.heap.size w h h' (Nat.le_refl _) (Nat.le_refl _) (by omega)).mono ?_
  rintro e w' ⟨rfl, hb⟩
  exact ⟨[.b true], rfl, rfl, rfl, fun _ _ _ => trivial, hb⟩
def EpochS : Ctr := PureS (fun us => ∃ h e : Int, us = [.i h, .i e] ∧ (1 ≤ h ∧ h ≤ 9223372036854775807) ∧ 1 ≤ e ∧ e ≤ 9223372036854775807) (fun us os => ∀ h e : Int, us = [.i h, .i e] → os = [.i ((h - 1) / e)])
theorem epoch_of {f : Nat} {fn : Func} (hfn : Try.prog.funcs[f]? = some fn) (hpin : shsOf Try.prog fn.params = some [.one (.int .i64), .one (.int .i64)]) (hpout : shsOf Try.prog fn.resultTypes = some [.one (.int .i64)])
    (hc : ∀ (h e : Int) (w : World) (_ : 1 ≤ h) (_ : h ≤ 9223372036854775807) (_ : 1 ≤ e) (_ : e ≤ 9223372036854775807), Calls Try.prog f #[.int .i64 h, .int .i64 e] w fun e' w' => e' = .returned (.int .i64 ((h - 1) / e)) ∧ w = w') : Keeps Try.prog f EpochS := by
  refine keeps_bridge hfn hpin hpout EpochS ?_
  rintro us w _ ⟨h, e, rfl, hh, he⟩
  refine (hc h e w hh.1 hh.2 he.1 he.2).mono ?_
  rintro e' w' ⟨rfl, rfl⟩
  refine ⟨[.i ((h - 1) / e)], rfl, rfl, fun h' e2 hq => ?_, fun _ _ _ => trivial, Below.refl _ _⟩
  have h1 := List.cons.inj hq
  have h2 := List.cons.inj h1.2
  rw [U.i.inj h1.1, U.i.inj h2.1]
theorem lepoch_ok : Keeps Try.prog 39 EpochS := epoch_of Try.func39 (by kernel_rfl) (by kernel_rfl) lepoch_any
theorem repoch_ok : Keeps Try.prog 40 EpochS := epoch_of Try.func40 (by kernel_rfl) (by kernel_rfl) repoch_any
end Go.Proofs.Ytjjkdmngmopjbaa
