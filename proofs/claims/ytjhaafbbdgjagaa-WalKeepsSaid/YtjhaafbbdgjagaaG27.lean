/- Of the texts Wr7, WrT, WrU, Heavy, Wr8, Wr9, Wr11, Wr10, Wr13, Wr14, Wr15. -/
import Derived.Test.YtjhaafbbdgjagaaProg
import Derived.Test.YtjhaafbbdgjagaaG25
import Derived.Test.YtjhaafbbdgjagaaG26
import Derived.Deep.QuietTactic
import Derived.BigQuiet
import Derived.Deep.DeepCutAuto
set_option linter.unusedSimpArgs false
set_option linter.unusedVariables false
namespace Go.Proofs.Ytjhaafbbdgjagaa
open Go.RowKit
def allTo (f : Nat → Bool) : Nat → Bool
 | 0 => true
 | k + 1 => allTo f k && f k
def prevWho (l : List Seat) (k : Nat) : Int := if k = 0 then 0 else (l.getD (k - 1) ⟨0, 0⟩).who
def benchOkAt (l : List Seat) (k : Nat) : Bool := decide (prevWho l k < (l.getD k ⟨0, 0⟩).who) && decide (1 ≤ (l.getD k ⟨0, 0⟩).weight)
def Out.bench (S : Out) (l : List Seat) : Out := (S.list l 7 Out.seat).need (allTo (benchOkAt l) l.length)
theorem Out.need_true (S : Out) : S.need true = S := by simp [Out.need]
theorem Out.bench_len (S : Out) (l : List Seat) : (S.bench l).b.length ≤ S.b.length + 6 + 12 * l.length := by
 have := list_len Out.seat seatW Out.seat_len l 7 S; rw [show sumL seatW l = 12 * l.length from sumL_const 12 l] at this; exact this
set_option maxRecDepth 100000 in
set_option maxHeartbeats 400000 in
theorem wbench_any (l : List Seat) (A : Option Addr) (c B : Nat) (w : World) (g : Nat) (S : Out) (h : Wrt w g S) (hr : SeatsL w B A l) (hB : B ≤ g) (hl : S.b.length + 200 + 12 * l.length ≤ 70368744176000) (hm : l.length ≤ maxLen) :
  Calls Try.prog 74 #[.pointer (some ⟨g, 0, none⟩), .slice A l.length c] w fun e w' => e = .returned (.tuple #[]) ∧ Wrt w' g (S.bench l) ∧ Turned w w' g := by
 have hgt := h.lt; have hE : Hid (S.bench l = (S.list l 7 Out.seat).need (allTo (benchOkAt l) l.length)) := rfl; have hm' := hm; unfold maxLen at hm; go_enter Try.func74, Try.ntmps74; go_wp2_with fail; refine (putsSeat_any l A c B 7 _ g S h hr hB (by rw [show sumL seatW l = 12 * l.length from sumL_const 12 l]; omega) hm').mono ?_; rintro e w1 ⟨rfl, hW1, hT1⟩; generalize S.list l 7 Out.seat = S2 at *; go_wp2_with fail
 go_loopw [4, 6, 12] (fun x _ i wr => ∃ j : Nat, i = .int .i64 (j : Int) ∧ j ≤ l.length ∧ x = .int .i64 (prevWho l j) ∧ Wrt wr g (S2.need (allTo (benchOkAt l) j)) ∧ Turned w wr g) (fun _ _ i _ => l.length - (intOf i).toNat)
 case atStart => exact ⟨0, rfl, by omega, rfl, by rw [show allTo (benchOkAt l) 0 = true from rfl, Out.need_true]; exact hW1, hT1⟩
 case round =>
  obtain ⟨j, rfl, hj, rfl, hW, hT⟩ := hrel; have hgw := hW.lt
  by_cases hlt : j < l.length
  ·have hji : (j : Int) < (l.length : Int) := by omega
   obtain ⟨b, off, rfl, hbB, hc⟩ := SeatsL.at_ (hT.rd hr hB) hlt; have hs : Hid (benchOkAt l j = (decide (prevWho l j < l[j].who) && decide (1 ≤ l[j].weight))) := by show _ = _; simp [benchOkAt, List.getElem?_eq_getElem hlt]
   have hs2 : Hid (allTo (benchOkAt l) (j + 1) = (allTo (benchOkAt l) j && benchOkAt l j)) := rfl; have hs3 : Hid (prevWho l (j + 1) = l[j].who) := by show _ = _; simp [prevWho, List.getElem?_eq_getElem hlt]
   have c0 : wr.cell? ⟨b, off + j * 2, none⟩ = some (.int .i64 l[j].who) := hc 0 _ rfl; have c1 : wr.cell? ⟨b, off + j * 2 + 1, none⟩ = some (.int .i64 l[j].weight) := hc 1 _ rfl; generalize l[j] = x at *; clear hc; generalize prevWho l j = pv at *; go_wp2_with fail
   all_goals
    refine (need_any _ _ g _ (hW.alloc _)).mono ?_; rintro e w3 ⟨rfl, hW3, hT3⟩; have hB3 := hT3.blk (Blk.new _ _ _) (by omega) (by decide); have c2 := hB3.c 0 rfl; go_wp2_with fail
    go_roundw
    case rel => exact ⟨j + 1, by go_num, by omega, by rw [hs3.out], hW3.eq (by rw [Out.need_need, hs2.out, hs.out]; congr 2; grind), (hT.alloc (Nat.le_of_lt hgw) _).trans hT3⟩
    case measure => simp [intOf]; omega
  ·have hji : ¬ (j : Int) < (l.length : Int) := by omega
   have hjl : Hid (j = l.length) := show j = l.length by omega
   go_wp2
   go_end0
   exact ⟨rfl, by rw [hE.out, ← hjl.out]; exact hW, hT⟩
structure ResultD where
 c : Int
 u : Int
 v : Int
 notes : List NoteD
 na : Option Addr
 nc : Nat
def ResultD.val (x : ResultD) : Value := .agg #[.int .i64 x.c, .int .i64 x.u, .int .i64 x.v, .slice x.na x.notes.length x.nc]
structure ViewD where
 c : Int
 w : Int
 e : Int
 h : Int
 s : Int
 seats : List Seat
 sa : Option Addr
 sc : Nat
def ViewD.val (x : ViewD) : Value := .agg #[.int .i64 x.c, .int .i64 x.w, .int .i64 x.e, .int .i64 x.h, .int .u64 x.s, .slice x.sa x.seats.length x.sc]
def ViewD.ok (x : ViewD) : Prop := 0 ≤ x.s ∧ x.s < 18446744073709551616
structure GuiltD where
 a : VoteD
 b : VoteD
def GuiltD.cells (x : GuiltD) : List Value := [.int .i64 x.a.h, .int .i64 x.a.r, .int .i64 x.a.s, .bool x.a.has, .int .u64 x.a.b, .int .i64 x.a.f, .int .i64 x.b.h, .int .i64 x.b.r, .int .i64 x.b.s, .bool x.b.has, .int .u64 x.b.b, .int .i64 x.b.f]
def GuiltD.val (x : GuiltD) : Value := .agg #[.int .i64 x.a.h, .int .i64 x.a.r, .int .i64 x.a.s, .bool x.a.has, .int .u64 x.a.b, .int .i64 x.a.f, .int .i64 x.b.h, .int .i64 x.b.r, .int .i64 x.b.s, .bool x.b.has, .int .u64 x.b.b, .int .i64 x.b.f]
def GuiltD.ok (x : GuiltD) : Prop := x.a.ok ∧ x.b.ok
def Out.guilt (S : Out) (x : GuiltD) : Out := (S.vote x.a).vote x.b
structure HeaderD where
 c : Int
 h : Int
 p : Int
 t : Int
 g : Int
 s : Int
 r : Int
 b : Int
 o : Int
def HeaderD.cells (x : HeaderD) : List Value := [.int .i64 x.c, .int .i64 x.h, .int .u64 x.p, .int .u64 x.t, .int .u64 x.g, .int .u64 x.s, .int .u64 x.r, .int .u64 x.b, .int .i64 x.o]
def HeaderD.val (x : HeaderD) : Value := .agg #[.int .i64 x.c, .int .i64 x.h, .int .u64 x.p, .int .u64 x.t, .int .u64 x.g, .int .u64 x.s, .int .u64 x.r, .int .u64 x.b, .int .i64 x.o]
def HeaderD.ok (x : HeaderD) : Prop := (0 ≤ x.p ∧ x.p < 18446744073709551616) ∧ (0 ≤ x.t ∧ x.t < 18446744073709551616) ∧ (0 ≤ x.g ∧ x.g < 18446744073709551616) ∧ (0 ≤ x.s ∧ x.s < 18446744073709551616) ∧ (0 ≤ x.r ∧ x.r < 18446744073709551616) ∧ (0 ≤ x.b ∧ x.b < 18446744073709551616)
def headerM (_ : HeaderD) : Nat := 10
def Out.digs (S : Out) (l : List Int) : Out := l.foldl Out.dig S
def Out.header (S : Out) (x : HeaderD) : Out := ((S.nums [x.c, x.h]).digs [x.p, x.t, x.g, x.s, x.r, x.b]).num x.o
theorem Out.digs_len (S : Out) (l : List Int) : (S.digs l).b.length ≤ S.b.length + 8 * l.length := by
 induction l generalizing S with
 | nil => simp [Out.digs]
 | cons n l ih =>
  have h1 := ih (S.dig n); have h2 : (S.dig n).b.length = S.b.length + 8 := by simp [Out.dig, be_len]
  show ((S.dig n).digs l).b.length ≤ _; simp; omega
theorem Out.header_len (S : Out) (x : HeaderD) : (S.header x).b.length ≤ S.b.length + 66 := by
 have h1 := S.nums_len [x.c, x.h]; have h2 := (S.nums [x.c, x.h]).digs_len [x.p, x.t, x.g, x.s, x.r, x.b]; have h3 := ((S.nums [x.c, x.h]).digs [x.p, x.t, x.g, x.s, x.r, x.b]).num_len x.o; simp at h1 h2; unfold Out.header; omega
structure CertD where
 h : Int
 r : Int
 s : Int
 has : Bool
 b : Int
 froms : List Int
 fa : Option Addr
 fc : Nat
def CertD.cells (x : CertD) : List Value := [.int .i64 x.h, .int .i64 x.r, .int .i64 x.s, .bool x.has, .int .u64 x.b, .slice x.fa x.froms.length x.fc]
def CertD.val (x : CertD) : Value := .agg #[.int .i64 x.h, .int .i64 x.r, .int .i64 x.s, .bool x.has, .int .u64 x.b, .slice x.fa x.froms.length x.fc]
structure CertD.held (w : World) (B : Nat) (x : CertD) : Prop where
 dig : 0 ≤ x.b ∧ x.b < 18446744073709551616
 read : Ints w B x.fa x.froms
 short : x.froms.length ≤ maxLen
theorem CertD.held.below {w w' : World} {B : Nat} {x : CertD} (h : x.held w B) (hb : Below B w w') : x.held w' B := ⟨h.dig, Rd.below h.read hb, h.short⟩
def certM (x : CertD) : Nat := x.froms.length + 1 + 6
def prevI (l : List Int) (k : Nat) : Int := if k = 0 then 0 else l.getD (k - 1) 0
def fromOk (l : List Int) (k : Nat) : Bool := decide (prevI l k < l.getD k 0)
def certOk (x : CertD) : Bool := (decide (x.s = 1) || decide (x.s = 2)) && (x.has || decide (x.b = 0))
def numW (_ : Int) : Nat := 6
def Out.cert (S : Out) (x : CertD) : Out := ((((((S.nums [x.h, x.r, x.s]).flag x.has).dig x.b).list x.froms 7 Out.num).need (certOk x)).need (allTo (fromOk x.froms) x.froms.length))
theorem Out.num_lenW (S : Out) (x : Int) : (S.num x).b.length ≤ S.b.length + numW x := S.num_len x
theorem Out.cert_len (S : Out) (x : CertD) : (S.cert x).b.length ≤ S.b.length + 40 * certM x := by
 have h1 := S.nums_len [x.h, x.r, x.s]; have h2 := list_len Out.num numW Out.num_lenW x.froms 7 (((S.nums [x.h, x.r, x.s]).flag x.has).dig x.b); rw [show sumL numW x.froms = 6 * x.froms.length from sumL_const 6 x.froms] at h2; simp [Out.cert, Out.need, Out.flag, Out.dig, be_len, certM] at h1 h2 ⊢
 omega
theorem Out.turn_len (S : Out) (x : TurnD) : (S.turn x).b.length ≤ S.b.length + 14 := by
 have := S.num_len x.p; simp [Out.turn, Out.lim, Out.dig, be_len]; omega
def turnM (_ : TurnD) : Nat := 3
def turnW (_ : TurnD) : Nat := 14
abbrev TurnsL (w : World) (B : Nat) (A : Option Addr) (l : List TurnD) : Prop := Lay 2 TurnD.cells w B A l
theorem TurnsL.at_ {w : World} {B : Nat} {A : Option Addr} {l : List TurnD} (h : TurnsL w B A l) {k : Nat} (hk : k < l.length) :
  ∃ b off, A = some ⟨b, off, none⟩ ∧ b < B ∧ ∀ j u, (l[k].cells)[j]? = some u → w.cell? ⟨b, off + k * 2 + j, none⟩ = some u := Lay.at_ (n := 2) (fun _ => rfl) (by omega) h hk
structure ProofD where
 turns : List TurnD
 ta : Option Addr
 tc : Nat
 leaf : Bool
 key : List UInt8
 value : List UInt8
def ProofD.cells (x : ProofD) : List Value := [.slice x.ta x.turns.length x.tc, .bool x.leaf, .string (bs x.key), .string (bs x.value)]
def ProofD.val (x : ProofD) : Value := .agg #[.slice x.ta x.turns.length x.tc, .bool x.leaf, .string (bs x.key), .string (bs x.value)]
structure ProofD.held (w : World) (B : Nat) (x : ProofD) : Prop where
 read : TurnsL w B x.ta x.turns
 short : x.turns.length ≤ maxLen
 digs : ∀ t ∈ x.turns, t.ok
theorem ProofD.held.below {w w' : World} {B : Nat} {x : ProofD} (h : x.held w B) (hb : Below B w w') : x.held w' B := ⟨Rd.below h.read hb, h.short, h.digs⟩
def proofM (x : ProofD) : Nat := sumL turnM x.turns + 1 + 1 + (x.key.length + 1) + (x.value.length + 1) + 1
def prevT (l : List TurnD) (k : Nat) : Int := if k = 0 then -1 else (l.getD (k - 1) ⟨0, 0⟩).p
def turnOkAt (l : List TurnD) (k : Nat) : Bool := decide (prevT l k < (l.getD k ⟨0, 0⟩).p)
def emp (l : List UInt8) : Bool := l.isEmpty
def proofOk (x : ProofD) : Bool := (x.leaf && !emp x.value) || (!x.leaf && decide (x.turns.length = 0) && emp x.key && emp x.value)
def Out.proof (S : Out) (x : ProofD) : Out := (((((S.list x.turns 288 Out.turn).flag x.leaf).text x.key 32).text x.value 4096).need (allTo (turnOkAt x.turns) x.turns.length)).need (proofOk x)
theorem Out.text_len (S : Out) (s : List UInt8) (m : Int) : (S.text s m).b.length ≤ S.b.length + 6 + s.length := by
 have h1 := (S.lim s.length m).num_len s.length; have h2 : (S.lim s.length m).b.length = S.b.length := rfl; simp [Out.text, Out.raw]; omega
theorem Out.turn_lenW (S : Out) (x : TurnD) : (S.turn x).b.length ≤ S.b.length + turnW x := S.turn_len x
theorem turns_M (l : List TurnD) : sumL turnM l = 3 * l.length := sumL_const 3 l
theorem turns_W (l : List TurnD) : sumL turnW l = 14 * l.length := sumL_const 14 l
theorem Out.proof_len (S : Out) (x : ProofD) : (S.proof x).b.length ≤ S.b.length + 40 * proofM x := by
 have h1 := list_len Out.turn turnW Out.turn_lenW x.turns 288 S; have h2 := ((S.list x.turns 288 Out.turn).flag x.leaf).text_len x.key 32; have h3 := (((S.list x.turns 288 Out.turn).flag x.leaf).text x.key 32).text_len x.value 4096; have h4 : ((S.list x.turns 288 Out.turn).flag x.leaf).b.length = (S.list x.turns 288 Out.turn).b.length + 1 := by simp [Out.flag]
 rw [turns_W] at h1; simp only [proofM, turns_M]; show ((((S.list x.turns 288 Out.turn).flag x.leaf).text x.key 32).text x.value 4096).b.length ≤ _; omega
structure SightD where
 header : HeaderD
 cert : CertD
 seats : List Seat
 sa : Option Addr
 sc : Nat
def SightD.cells (x : SightD) : List Value := [.int .i64 x.header.c, .int .i64 x.header.h, .int .u64 x.header.p, .int .u64 x.header.t, .int .u64 x.header.g, .int .u64 x.header.s, .int .u64 x.header.r, .int .u64 x.header.b, .int .i64 x.header.o, .int .i64 x.cert.h, .int .i64 x.cert.r, .int .i64 x.cert.s, .bool x.cert.has, .int .u64 x.cert.b, .slice x.cert.fa x.cert.froms.length x.cert.fc, .slice x.sa x.seats.length x.sc]
def SightD.val (x : SightD) : Value := .agg #[.int .i64 x.header.c, .int .i64 x.header.h, .int .u64 x.header.p, .int .u64 x.header.t, .int .u64 x.header.g, .int .u64 x.header.s, .int .u64 x.header.r, .int .u64 x.header.b, .int .i64 x.header.o, .int .i64 x.cert.h, .int .i64 x.cert.r, .int .i64 x.cert.s, .bool x.cert.has, .int .u64 x.cert.b, .slice x.cert.fa x.cert.froms.length x.cert.fc, .slice x.sa x.seats.length x.sc]
structure SightD.held (w : World) (B : Nat) (x : SightD) : Prop where
 header : x.header.ok
 cert : x.cert.held w B
 read : SeatsL w B x.sa x.seats
 short : x.seats.length ≤ maxLen
theorem SightD.held.below {w w' : World} {B : Nat} {x : SightD} (h : x.held w B) (hb : Below B w w') : x.held w' B := ⟨h.header, h.cert.below hb, Rd.below h.read hb, h.short⟩
def sightM (x : SightD) : Nat := headerM x.header + certM x.cert + (3 * x.seats.length + 1) + 1
def sightW (x : SightD) : Nat := 40 * sightM x
def Out.sight (S : Out) (x : SightD) : Out := ((S.header x.header).cert x.cert).bench x.seats
theorem Out.sight_len (S : Out) (x : SightD) : (S.sight x).b.length ≤ S.b.length + sightW x := by
 have h1 := S.header_len x.header; have h2 := (S.header x.header).cert_len x.cert; have h3 := ((S.header x.header).cert x.cert).bench_len x.seats; unfold Out.sight sightW sightM headerM; omega
def proofW (x : ProofD) : Nat := 40 * proofM x
theorem Out.proof_lenW (S : Out) (x : ProofD) : (S.proof x).b.length ≤ S.b.length + proofW x := S.proof_len x
abbrev SightsL (w : World) (B : Nat) (A : Option Addr) (l : List SightD) : Prop := Lay 16 SightD.cells w B A l
theorem SightsL.at_ {w : World} {B : Nat} {A : Option Addr} {l : List SightD} (h : SightsL w B A l) {k : Nat} (hk : k < l.length) :
  ∃ b off, A = some ⟨b, off, none⟩ ∧ b < B ∧ ∀ j u, (l[k].cells)[j]? = some u → w.cell? ⟨b, off + k * 16 + j, none⟩ = some u := Lay.at_ (n := 16) (fun _ => rfl) (by omega) h hk
abbrev ProofsL (w : World) (B : Nat) (A : Option Addr) (l : List ProofD) : Prop := Lay 4 ProofD.cells w B A l
theorem ProofsL.at_ {w : World} {B : Nat} {A : Option Addr} {l : List ProofD} (h : ProofsL w B A l) {k : Nat} (hk : k < l.length) :
  ∃ b off, A = some ⟨b, off, none⟩ ∧ b < B ∧ ∀ j u, (l[k].cells)[j]? = some u → w.cell? ⟨b, off + k * 4 + j, none⟩ = some u := Lay.at_ (n := 4) (fun _ => rfl) (by omega) h hk
structure TxD where
 k : Int
 f : Int
 n : Int
 p : Int
 l : Int
 t : Int
 a : Int
 text : List UInt8
 args : List Int
 aa : Option Addr
 ac : Nat
 sights : List SightD
 sa : Option Addr
 sc : Nat
 proofs : List ProofD
 pa : Option Addr
 pc : Nat
def TxD.cells (x : TxD) : List Value := [.int .i64 x.k, .int .i64 x.f, .int .i64 x.n, .int .i64 x.p, .int .i64 x.l, .int .i64 x.t, .int .i64 x.a, .string (bs x.text), .slice x.aa x.args.length x.ac, .slice x.sa x.sights.length x.sc, .slice x.pa x.proofs.length x.pc]
def TxD.val (x : TxD) : Value := .agg #[.int .i64 x.k, .int .i64 x.f, .int .i64 x.n, .int .i64 x.p, .int .i64 x.l, .int .i64 x.t, .int .i64 x.a, .string (bs x.text), .slice x.aa x.args.length x.ac, .slice x.sa x.sights.length x.sc, .slice x.pa x.proofs.length x.pc]
structure TxD.held (w : World) (B : Nat) (x : TxD) : Prop where
 args : Ints w B x.aa x.args
 sights : SightsL w B x.sa x.sights
 proofs : ProofsL w B x.pa x.proofs
 short : x.args.length ≤ maxLen ∧ x.sights.length ≤ maxLen ∧ x.proofs.length ≤ maxLen
 sight : ∀ s ∈ x.sights, s.held w B
 proof : ∀ s ∈ x.proofs, s.held w B
theorem TxD.held.below {w w' : World} {B : Nat} {x : TxD} (h : x.held w B) (hb : Below B w w') : x.held w' B :=
 ⟨Rd.below h.args hb, Rd.below h.sights hb, Rd.below h.proofs hb, h.short, fun s hs => (h.sight s hs).below hb, fun s hs => (h.proof s hs).below hb⟩
def txM (x : TxD) : Nat := 7 + (x.text.length + 1) + (x.args.length + 1) + (sumL sightM x.sights + 1) + (sumL proofM x.proofs + 1) + 1
def toF (k : Int) : Bool := decide (k = 1) || decide (k = 3) || decide (k = 7) || decide (k = 8)
def amountF (k : Int) : Bool := toF k || decide (k = 2) || decide (k = 4) || decide (k = 5)
def textF (k : Int) : Bool := decide (k = 2) || decide (k = 3)
def argsF (k : Int) : Bool := decide (k = 3)
def sightF (k : Int) : Bool := decide (k = 9)
def proofF (k : Int) : Bool := decide (k = 10)
def txOk1 (x : TxD) : Bool := decide (1 ≤ x.k) && decide (x.k ≤ 10) && decide (1 ≤ x.f) && (toF x.k == decide (1 ≤ x.t))
def txOk2 (x : TxD) : Bool := (amountF x.k || decide (x.a = 0)) && (textF x.k || emp x.text) && (argsF x.k || decide (x.args.length = 0))
def txOk3 (x : TxD) : Bool := (sightF x.k == decide (x.sights.length = 1)) && (proofF x.k == decide (x.proofs.length = 1))
def Out.tx (S : Out) (x : TxD) : Out := (((((((S.nums [x.k, x.f, x.n, x.p, x.l, x.t, x.a]).text x.text 2048).list x.args 8 Out.num).list x.sights 1 Out.sight).list x.proofs 1 Out.proof).need (txOk1 x)).need (txOk2 x)).need (txOk3 x)
theorem sights_W (l : List SightD) : sumL sightW l ≤ 40 * sumL sightM l := by
 induction l with
 | nil => simp [sumL]
 | cons x l ih => rw [sumL_cons, sumL_cons, Nat.mul_add]; have : sightW x = 40 * sightM x := rfl; omega
theorem proofs_W (l : List ProofD) : sumL proofW l ≤ 40 * sumL proofM l := by
 induction l with
 | nil => simp [sumL]
 | cons x l ih => rw [sumL_cons, sumL_cons, Nat.mul_add]; have : proofW x = 40 * proofM x := rfl; omega
theorem Out.tx_len (S : Out) (x : TxD) : (S.tx x).b.length ≤ S.b.length + 40 * txM x := by
 have h1 := S.nums_len [x.k, x.f, x.n, x.p, x.l, x.t, x.a]; have h2 := (S.nums [x.k, x.f, x.n, x.p, x.l, x.t, x.a]).text_len x.text 2048; have h3 := list_len Out.num numW Out.num_lenW x.args 8 ((S.nums [x.k, x.f, x.n, x.p, x.l, x.t, x.a]).text x.text 2048); have h4 := list_len Out.sight sightW Out.sight_len x.sights 1 (((S.nums [x.k, x.f, x.n, x.p, x.l, x.t, x.a]).text x.text 2048).list x.args 8 Out.num); have h5 := list_len Out.proof proofW Out.proof_lenW x.proofs 1 ((((S.nums [x.k, x.f, x.n, x.p, x.l, x.t, x.a]).text x.text 2048).list x.args 8 Out.num).list x.sights 1 Out.sight); rw [show sumL numW x.args = 6 * x.args.length from sumL_const 6 x.args] at h3; have h6 := sights_W x.sights; have h7 := proofs_W x.proofs; simp at h1; show (((((S.nums [x.k, x.f, x.n, x.p, x.l, x.t, x.a]).text x.text 2048).list x.args 8 Out.num).list x.sights 1 Out.sight).list x.proofs 1 Out.proof).b.length ≤ _; unfold txM; omega
abbrev TxsL (w : World) (B : Nat) (A : Option Addr) (l : List TxD) : Prop := Lay 11 TxD.cells w B A l
theorem TxsL.at_ {w : World} {B : Nat} {A : Option Addr} {l : List TxD} (h : TxsL w B A l) {k : Nat} (hk : k < l.length) :
  ∃ b off, A = some ⟨b, off, none⟩ ∧ b < B ∧ ∀ j u, (l[k].cells)[j]? = some u → w.cell? ⟨b, off + k * 11 + j, none⟩ = some u := Lay.at_ (n := 11) (fun _ => rfl) (by omega) h hk
set_option maxRecDepth 100000 in
set_option maxHeartbeats 400000 in
theorem wguilt_any (x : GuiltD) (hx : x.ok) (w : World) (g : Nat) (S : Out) (h : Wrt w g S) (hl : S.b.length + 400 ≤ 70368744177000) :
  Calls Try.prog 53 #[.pointer (some ⟨g, 0, none⟩), x.val] w fun e w' => e = .returned (.tuple #[]) ∧ Wrt w' g (S.guilt x) ∧ Turned w w' g := by
 have hgt := h.lt; have hE : Hid (S.guilt x = (S.vote x.a).vote x.b) := rfl; obtain ⟨⟨a1, a2, a3, a4, a5, a6⟩, ⟨b1, b2, b3, b4, b5, b6⟩⟩ := x; obtain ⟨⟨hx0, hx1⟩, ⟨hx2, hx3⟩⟩ := hx; dsimp only at hx0 hx1 hx2 hx3; dsimp only [GuiltD.val]; go_enter Try.func53, Try.ntmps53; go_wp2_with fail; refine (wvote_any ⟨a1, a2, a3, a4, a5, a6⟩ ⟨hx0, hx1⟩ _ g _ (h.alloc _) (by omega)).mono ?_; rintro e w1 ⟨rfl, hW1, hC1⟩; have hB1 := hC1.blk (Blk.new _ _ _) (by omega) (by decide); have hT1 := ((Turned.refl w g).alloc (by omega) _).trans hC1; have hlt1 := hB1.lt; have hgl1 := hW1.lt; have ll1 := S.vote_len ⟨a1, a2, a3, a4, a5, a6⟩; generalize S.vote ⟨a1, a2, a3, a4, a5, a6⟩ = S1 at *; have c1_0 := hB1.c 0 rfl; have c1_1 := hB1.c 1 rfl; have c1_2 := hB1.c 2 rfl; have c1_3 := hB1.c 3 rfl; have c1_4 := hB1.c 4 rfl; have c1_5 := hB1.c 5 rfl; have c1_6 := hB1.c 6 rfl; have c1_7 := hB1.c 7 rfl; have c1_8 := hB1.c 8 rfl; have c1_9 := hB1.c 9 rfl; have c1_10 := hB1.c 10 rfl; have c1_11 := hB1.c 11 rfl; go_wp2_with fail; refine (wvote_any ⟨b1, b2, b3, b4, b5, b6⟩ ⟨hx2, hx3⟩ _ g _ hW1 (by omega)).mono ?_; rintro e w2 ⟨rfl, hW2, hC2⟩; have hB2 := hC2.blk hB1 (by omega) (by decide); have hT2 := hT1.trans hC2; have hlt2 := hB2.lt; have hgl2 := hW2.lt; generalize S1.vote ⟨b1, b2, b3, b4, b5, b6⟩ = S2 at *; go_wp2_with fail
 go_end0
 exact ⟨rfl, Wrt.eq hW2 (by rw [hE.out] <;> (first | rfl | ((try rw [Out.need_need]); congr 1; grind))), hT2⟩
set_option maxRecDepth 100000 in
theorem conv_nil (w : World) : Sem.run Try.prog (convert 58 9 (.slice none 0 0)) w = .ok (.string (bs [])) w := by kernel_rfl
theorem strOfNums_u8 (l : List UInt8) : strOfNums (l.map fun c => (c.toNat : Int)) = bs l := by
 simp [strOfNums, bs, Function.comp_def]
set_option maxRecDepth 100000 in
theorem conv_own (w : World) {base : Nat} {v : Value} {l : List UInt8} (ho : w.ownsRow base 5 1 v l.length (u8s l)) : Sem.run Try.prog (convert 58 9 v) w = .ok (.string (bs l)) w := by
 by_cases h0 : v = .slice none 0 0
 ·subst h0; have hl : l = [] := by
   rcases ho.2 with ⟨_, h⟩ | ⟨g, cap, cur, e, _⟩
   ·exact List.eq_nil_of_length_eq_zero h
   ·cases e
  subst hl; exact conv_nil w
 ·rcases ho.2 with ⟨h, _⟩ | ⟨g, cap, cur, rfl, hb, hh, hn, hc, hs, ht⟩
  ·exact absurd h h0
  ·have := run_convert_bytes_arg (P := Try.prog) w 58 5 Try.underlying58 Try.underlying5 g 0 l.length cap (l.map fun c => (c.toNat : Int)) (by simp) (fun i hi => by
    rw [Nat.zero_add, cell_of_row w g i cur 5 (0, 0) hh]; have h1 : cur.toList[i]? = (u8s l)[i]? := by rw [← ht, List.getElem?_take, if_pos (by omega)]
    rw [show cur[i]? = cur.toList[i]? by simp, h1]; simp [u8s, List.getElem?_eq_getElem hi, List.getD, List.getElem?_map]) 9 Try.underlying9
   rw [strOfNums_u8] at this; exact this
def Out.rs (S : Out) : List UInt8 := if S.far then [] else if S.odd then [] else S.b
def Out.re (S : Out) : Int := if S.far then 3 else if S.odd then 2 else 0
theorem Wrt.new (w : World) : Wrt (w.alloc (.cells #[.slice none 0 0, .bool false, .bool false] 80)) w.heap.size Out.empty :=
 ⟨.slice none 0 0, Blk.new _ _ _, World.ownsRow_nil _ _ _ _⟩
set_option maxRecDepth 100000 in
set_option maxHeartbeats 1000000 in
theorem putsInt_any (l : List Int) (A : Option Addr) (c B : Nat) (m : Int) (w : World) (g : Nat) (S : Out) (h : Wrt w g S) (hr : Ints w B A l) (hB : B ≤ g) (hl : S.b.length + 6 + sumL numW l ≤ 60000000000000) (hm : l.length ≤ maxLen) :
  Calls Try.prog 55 #[.pointer (some ⟨g, 0, none⟩), .slice A l.length c, .int .i64 m, .func (.func 23) #[] #[]] w fun e w' => e = .returned (.tuple #[]) ∧ Wrt w' g (S.list l m Out.num) ∧ Turned w w' g := by
 unfold maxLen at hm; have hgt := h.lt; have hn := ((S.lim l.length m).num_len l.length)
 have hb0 : (S.lim l.length m).b.length = S.b.length := rfl; have hE : Hid (S.list l m Out.num = l.foldl Out.num ((S.lim l.length m).num l.length)) := rfl; go_enter Try.func55, Try.ntmps55; go_wp2_with fail; refine (limited_any _ _ _ g _ h).mono ?_; rintro e w1 ⟨rfl, hW1, hT1⟩; go_wp2_with fail; refine (number_any _ _ g _ hW1 (by omega)).mono ?_; rintro e w2 ⟨rfl, hW2, hT2⟩; have hT02 := hT1.trans hT2; clear hT1 hT2 hW1; generalize (S.lim l.length m).num l.length = S2 at *; go_wp2_with fail
 go_loopw [9, 21] (fun _ i wr => ∃ j : Nat, i = .int .i64 (j : Int) ∧ j ≤ l.length ∧ Wrt wr g ((l.take j).foldl Out.num S2) ∧ Turned w wr g) (fun _ i _ => l.length - (intOf i).toNat)
 case atStart => exact ⟨0, rfl, by omega, by simpa using hW2, hT02⟩
 case round =>
  obtain ⟨j, rfl, hj, hW, hT⟩ := hrel; have hgw := hW.lt
  by_cases hlt : j < l.length
  ·have hji : (j : Int) < (l.length : Int) := by omega
   obtain ⟨b, off, rfl, hbB, hc⟩ := Ints.at_ (hT.rd hr hB) hlt; have HS := Lib.hid (fold_take Out.num S2 l j hlt); have hle := fold_len Out.num numW Out.num_lenW (l.take j) S2; have hle2 := sumL_take numW l j hlt; generalize hxx : l[j] = x at *; clear hxx; have c0 : wr.cell? ⟨b, off + j, none⟩ = some (.int .i64 x) := hc; clear hc; go_wp2_with fail; refine (number_any x _ g _ hW (by unfold numW at *; omega)).mono ?_; rintro e w3 ⟨rfl, hW3, hT3⟩; go_wp2_with fail
   go_roundw
   case rel => exact ⟨j + 1, by go_num, by omega, by rw [HS.out]; exact hW3, hT.trans hT3⟩
   case measure => simp [intOf]; omega
  ·have hji : ¬ (j : Int) < (l.length : Int) := by omega
   go_wp2
   go_end0
   rw [List.take_of_length_le (by omega)] at hW; exact ⟨rfl, by rw [hE.out]; exact hW, hT⟩
set_option maxRecDepth 100000 in
set_option maxHeartbeats 1000000 in
theorem putsTurn_any (l : List TurnD) (A : Option Addr) (c B : Nat) (m : Int) (w : World) (g : Nat) (S : Out) (h : Wrt w g S) (hr : TurnsL w B A l) (hB : B ≤ g) (hd : ∀ x ∈ l, x.ok) (hl : S.b.length + 6 + sumL turnW l ≤ 60000000000000) (hm : l.length ≤ maxLen) :
  Calls Try.prog 75 #[.pointer (some ⟨g, 0, none⟩), .slice A l.length c, .int .i64 m, .func (.func 76) #[] #[]] w fun e w' => e = .returned (.tuple #[]) ∧ Wrt w' g (S.list l m Out.turn) ∧ Turned w w' g := by
 unfold maxLen at hm; have hgt := h.lt; have hn := ((S.lim l.length m).num_len l.length)
 have hb0 : (S.lim l.length m).b.length = S.b.length := rfl; have hE : Hid (S.list l m Out.turn = l.foldl Out.turn ((S.lim l.length m).num l.length)) := rfl; go_enter Try.func75, Try.ntmps75; go_wp2_with fail; refine (limited_any _ _ _ g _ h).mono ?_; rintro e w1 ⟨rfl, hW1, hT1⟩; go_wp2_with fail; refine (number_any _ _ g _ hW1 (by omega)).mono ?_; rintro e w2 ⟨rfl, hW2, hT2⟩; have hT02 := hT1.trans hT2; clear hT1 hT2 hW1; generalize (S.lim l.length m).num l.length = S2 at *; go_wp2_with fail
 go_loopw [9, 21] (fun _ i wr => ∃ j : Nat, i = .int .i64 (j : Int) ∧ j ≤ l.length ∧ Wrt wr g ((l.take j).foldl Out.turn S2) ∧ Turned w wr g) (fun _ i _ => l.length - (intOf i).toNat)
 case atStart => exact ⟨0, rfl, by omega, by simpa using hW2, hT02⟩
 case round =>
  obtain ⟨j, rfl, hj, hW, hT⟩ := hrel; have hgw := hW.lt
  by_cases hlt : j < l.length
  ·have hji : (j : Int) < (l.length : Int) := by omega
   obtain ⟨b, off, rfl, hbB, hc⟩ := TurnsL.at_ (hT.rd hr hB) hlt; have HS := Lib.hid (fold_take Out.turn S2 l j hlt); have hle := fold_len Out.turn turnW Out.turn_lenW (l.take j) S2; have hle2 := sumL_take turnW l j hlt; have hx := (hd l[j] (List.getElem_mem hlt))
   generalize hxx : l[j] = x at *; clear hxx; have c0 : wr.cell? ⟨b, off + j * 2, none⟩ = some (.int .i64 x.p) := hc 0 _ rfl; have c1 : wr.cell? ⟨b, off + j * 2 + 1, none⟩ = some (.int .u64 x.d) := hc 1 _ rfl; clear hc; go_wp2_with fail; refine (wturn_any x hx _ g _ (hW.alloc _) (by unfold turnW at *; omega)).mono ?_; rintro e w3 ⟨rfl, hW3, hT3⟩; go_wp2_with fail
   go_roundw
   case rel => exact ⟨j + 1, by go_num, by omega, by rw [HS.out]; exact hW3, (hT.alloc (Nat.le_of_lt hgw) _).trans hT3⟩
   case measure => simp [intOf]; omega
  ·have hji : ¬ (j : Int) < (l.length : Int) := by omega
   go_wp2
   go_end0
   rw [List.take_of_length_le (by omega)] at hW; exact ⟨rfl, by rw [hE.out]; exact hW, hT⟩
set_option maxRecDepth 100000 in
set_option maxHeartbeats 1000000 in
theorem wcert_any (x : CertD) (B : Nat) (w : World) (g : Nat) (S : Out) (h : Wrt w g S) (hl : S.b.length + 40 * certM x ≤ 59000000000000) (hx : x.held w B) (hB : B ≤ g) :
  Calls Try.prog 42 #[.pointer (some ⟨g, 0, none⟩), x.val] w fun e w' => e = .returned (.tuple #[]) ∧ Wrt w' g (S.cert x) ∧ Turned w w' g := by
 have hgt := h.lt; have hE : Hid (S.cert x = ((((((S.nums [x.h, x.r, x.s]).flag x.has).dig x.b).list x.froms 7 Out.num).need (decide (x.s = 1) || decide (x.s = 2))).need (x.has || decide (x.b = 0))).need (allTo (fromOk x.froms) x.froms.length)) := by show _ = _; rw [Out.need_need (_ : Out) (decide (x.s = 1) || decide (x.s = 2))]; rfl
 simp only [certM] at hl; obtain ⟨x1, x2, x3, x4, x5, x6, x6a, x6c⟩ := x; dsimp only at hl hx; dsimp only [CertD.val]; obtain ⟨⟨hx0, hx1⟩, hxr, hxs⟩ := hx; dsimp only at hx0 hx1 hxr hxs; go_enter Try.func42, Try.ntmps42; go_wp2_with fail; generalize Value.agg #[.int .i64 x1, .int .i64 x2, .int .i64 x3, .bool x4, .int .u64 x5, .slice x6a x6.length x6c] = V; have ll1 := S.nums_len [x1, x2, x3]; simp only [List.length_cons, List.length_nil] at ll1; refine (numbers_any [x1, x2, x3] 3 _ g (w.heap.size + 1) S ((h.alloc _).alloc _) (by have hN := Blk.new (w.alloc (.cells #[.int .i64 x1, .int .i64 x2, .int .i64 x3, .bool x4, .int .u64 x5, .slice x6a x6.length x6c] 50)) 3 #[.int .i64 x1, .int .i64 x2, .int .i64 x3]; simpa using hN) (by omega) (by simp; omega)).mono ?_; rintro e w1 ⟨rfl, hW1, hC1⟩; have hB1 := hC1.blk ((Blk.new _ _ _).alloc _) (by omega) (by decide); have hT1 := (((Turned.refl w g).alloc (by omega) _).alloc (by simp; omega) _).trans hC1; have hlt1 := hB1.lt; have hgl1 := hW1.lt; generalize S.nums [x1, x2, x3] = S1 at *; have c1_0 := hB1.c 0 rfl; have c1_1 := hB1.c 1 rfl; have c1_2 := hB1.c 2 rfl; have c1_3 := hB1.c 3 rfl; have c1_4 := hB1.c 4 rfl; have c1_5 := hB1.c 5 rfl; go_wp2_with fail; refine (flag_any _ _ g _ hW1 (by omega)).mono ?_; rintro e w2 ⟨rfl, hW2, hC2⟩; have hB2 := hC2.blk hB1 (by omega) (by decide); have hT2 := hT1.trans hC2; have hlt2 := hB2.lt; have hgl2 := hW2.lt; have ll2 := (by simp [Out.flag] : (S1.flag x4).b.length ≤ S1.b.length + 1)
 generalize S1.flag x4 = S2 at *; have c2_0 := hB2.c 0 rfl; have c2_1 := hB2.c 1 rfl; have c2_2 := hB2.c 2 rfl; have c2_3 := hB2.c 3 rfl; have c2_4 := hB2.c 4 rfl; have c2_5 := hB2.c 5 rfl; go_wp2_with fail; refine (digest_any _ _ g _ hW2 (by omega) (by omega) (by omega)).mono ?_; rintro e w3 ⟨rfl, hW3, hC3⟩; have hB3 := hC3.blk hB2 (by omega) (by decide); have hT3 := hT2.trans hC3; have hlt3 := hB3.lt; have hgl3 := hW3.lt; have ll3 := (by simp [Out.dig, be_len] : (S2.dig x5).b.length ≤ S2.b.length + 8)
 generalize S2.dig x5 = S3 at *; have c3_0 := hB3.c 0 rfl; have c3_1 := hB3.c 1 rfl; have c3_2 := hB3.c 2 rfl; have c3_3 := hB3.c 3 rfl; have c3_4 := hB3.c 4 rfl; have c3_5 := hB3.c 5 rfl; have hsw : sumL numW x6 = 6 * x6.length := sumL_const 6 x6; go_wp2_with fail; refine (putsInt_any x6 x6a x6c B 7 _ g _ hW3 (hT3.rd hxr hB) hB (by omega) hxs).mono ?_; rintro e w4 ⟨rfl, hW4, hC4⟩; have hB4 := hC4.blk hB3 (by omega) (by decide); have hT4 := hT3.trans hC4; have hlt4 := hB4.lt; have hgl4 := hW4.lt; have ll4 := list_len Out.num numW Out.num_lenW x6 7 S3; generalize S3.list x6 7 Out.num = S4 at *; have c4_0 := hB4.c 0 rfl; have c4_1 := hB4.c 1 rfl; have c4_2 := hB4.c 2 rfl; have c4_3 := hB4.c 3 rfl; have c4_4 := hB4.c 4 rfl; have c4_5 := hB4.c 5 rfl
 go_upto_region 5 with fail
 go_cut [37] (fun x wc => x = .tuple #[] ∧ Wrt wc g (S4.need (decide (x3 = 1) || decide (x3 = 2))) ∧ Blk wc w.heap.size 50 #[.int .i64 x1, .int .i64 x2, .int .i64 x3, .bool x4, .int .u64 x5, .slice x6a x6.length x6c] ∧ Turned w wc g)
 case first =>
  go_wp2_with fail
  all_goals
   refine (need_any _ _ g _ hW4).mono ?_; rintro e w5 ⟨rfl, hW5, hC5⟩; go_wp2_with fail
   go_meet
   exact ⟨rfl, hW5.eq (by congr 1; first | rfl | grind), hC5.blk hB4 (by omega) (by decide), hT4.trans hC5⟩
 case rest =>
  obtain ⟨w5, rfl⟩ : ∃ x : World, x = wc := ⟨_, rfl⟩
  obtain ⟨rfl, hW5, hB5, hT5⟩ := hcut; have hlt5 := hB5.lt; have hgl5 := hW5.lt; have ll5 : (S4.need (decide (x3 = 1) || decide (x3 = 2))).b.length = S4.b.length := rfl; generalize S4.need (decide (x3 = 1) || decide (x3 = 2)) = S5 at *; have c5_0 := hB5.c 0 rfl; have c5_1 := hB5.c 1 rfl; have c5_2 := hB5.c 2 rfl; have c5_3 := hB5.c 3 rfl; have c5_4 := hB5.c 4 rfl; have c5_5 := hB5.c 5 rfl
  go_upto_region 6 with fail
  go_cut [46] (fun x wc => x = .tuple #[] ∧ Wrt wc g (S5.need (x4 || decide (x5 = 0))) ∧ Blk wc w.heap.size 50 #[.int .i64 x1, .int .i64 x2, .int .i64 x3, .bool x4, .int .u64 x5, .slice x6a x6.length x6c] ∧ Turned w wc g)
  case first =>
   go_wp2_with fail
   all_goals
    refine (need_any _ _ g _ hW5).mono ?_; rintro e w6 ⟨rfl, hW6, hC6⟩; go_wp2_with fail
    go_meet
    exact ⟨rfl, hW6.eq (by congr 1; first | rfl | grind), hC6.blk hB5 (by omega) (by decide), hT5.trans hC6⟩
  case rest =>
   obtain ⟨w6, rfl⟩ : ∃ x : World, x = wc := ⟨_, rfl⟩
   obtain ⟨rfl, hW6, hB6, hT6⟩ := hcut; have hlt6 := hB6.lt; have hgl6 := hW6.lt; have ll6 : (S5.need (x4 || decide (x5 = 0))).b.length = S5.b.length := rfl; generalize S5.need (x4 || decide (x5 = 0)) = S6 at *; have c6_0 := hB6.c 0 rfl; have c6_1 := hB6.c 1 rfl; have c6_2 := hB6.c 2 rfl; have c6_3 := hB6.c 3 rfl; have c6_4 := hB6.c 4 rfl; have c6_5 := hB6.c 5 rfl; have hKf : Hid (∀ j (h : j < x6.length), fromOk x6 j = decide (prevI x6 j < x6[j])) := by
    intro j h; simp [fromOk, List.getElem?_eq_getElem h]
   have hKp : Hid (∀ j (h : j < x6.length), prevI x6 (j + 1) = x6[j]) := by
    intro j h; simp [prevI, List.getElem?_eq_getElem h]
   go_wp2_with fail
   go_loopw [4, 6, 50] (fun p _ i wr => ∃ j : Nat, i = .int .i64 (j : Int) ∧ j ≤ x6.length ∧ p = .int .i64 (prevI x6 j) ∧ Wrt wr g (S6.need (allTo (fromOk x6) j)) ∧ Turned w wr g) (fun _ _ i _ => x6.length - (intOf i).toNat)
   case atStart => exact ⟨0, rfl, by omega, rfl, by rw [show allTo (fromOk x6) 0 = true from rfl, Out.need_true]; exact hW6, hT6⟩
   case round =>
    obtain ⟨j, rfl, hj, rfl, hW, hT⟩ := hrel
    by_cases hlt : j < x6.length
    ·have hji : (j : Int) < (x6.length : Int) := by omega
     obtain ⟨b, off, rfl, hbB, d0⟩ := Ints.at_ (hT.rd hxr hB) hlt; have hs := Lib.hid (hKf.out j hlt); have hs2 : Hid (allTo (fromOk x6) (j + 1) = (allTo (fromOk x6) j && fromOk x6 j)) := rfl; have hs3 := Lib.hid (hKp.out j hlt); generalize x6[j] = y at *; generalize prevI x6 j = pv at *; go_wp2_with fail; refine (need_any _ _ g _ hW).mono ?_; rintro e w9 ⟨rfl, hW9, hT9⟩; go_wp2_with fail
     go_roundw
     case rel => exact ⟨j + 1, by go_num, by omega, by rw [hs3.out], hW9.eq (by rw [Out.need_need, hs2.out, hs.out]), hT.trans hT9⟩
     case measure => simp [intOf]; omega
    ·have hji : ¬ (j : Int) < (x6.length : Int) := by omega
     have hjl : Hid (j = x6.length) := show j = x6.length by omega
     go_wp2
     go_end0
     exact ⟨rfl, hW.eq (by rw [hE.out, ← hjl.out]), hT⟩
set_option maxRecDepth 100000 in
set_option maxHeartbeats 1000000 in
theorem wheader_any (x : HeaderD) (hx : x.ok) (w : World) (g : Nat) (S : Out) (h : Wrt w g S) (hl : S.b.length + 2000 ≤ 70368744177000) :
  Calls Try.prog 49 #[.pointer (some ⟨g, 0, none⟩), x.val] w fun e w' => e = .returned (.tuple #[]) ∧ Wrt w' g (S.header x) ∧ Turned w w' g := by
 have hgt := h.lt; have hE : Hid (S.header x = ((S.nums [x.c, x.h]).digs [x.p, x.t, x.g, x.s, x.r, x.b]).num x.o) := rfl; obtain ⟨x1, x2, x3, x4, x5, x6, x7, x8, x9⟩ := x; obtain ⟨⟨p0, p1⟩, ⟨t0, t1⟩, ⟨g0, g1⟩, ⟨s0, s1⟩, ⟨r0, r1⟩, ⟨b0, b1⟩⟩ := hx; dsimp only at p0 p1 t0 t1 g0 g1 s0 s1 r0 r1 b0 b1; dsimp only [HeaderD.val]; go_enter Try.func49, Try.ntmps49; go_wp2_with fail; have ll1 := S.nums_len [x1, x2]; simp only [List.length_cons, List.length_nil] at ll1; refine (numbers_any [x1, x2] 2 _ g (w.heap.size + 1) S ((h.alloc _).alloc _) (by have hN := Blk.new (w.alloc (.cells #[.int .i64 x1, .int .i64 x2, .int .u64 x3, .int .u64 x4, .int .u64 x5, .int .u64 x6, .int .u64 x7, .int .u64 x8, .int .i64 x9] 40)) 3 #[.int .i64 x1, .int .i64 x2]; simpa using hN) (by omega) (by simp; omega)).mono ?_; rintro e w1 ⟨rfl, hW1, hC1⟩; have hB1 := hC1.blk ((Blk.new _ _ _).alloc _) (by omega) (by decide); have hT1 := (((Turned.refl w g).alloc (by omega) _).alloc (by simp; omega) _).trans hC1; have hlt1 := hB1.lt; have hgl1 := hW1.lt; generalize S.nums [x1, x2] = S1 at *; have c1_0 := hB1.c 0 rfl; have c1_1 := hB1.c 1 rfl; have c1_2 := hB1.c 2 rfl; have c1_3 := hB1.c 3 rfl; have c1_4 := hB1.c 4 rfl; have c1_5 := hB1.c 5 rfl; have c1_6 := hB1.c 6 rfl; have c1_7 := hB1.c 7 rfl; have c1_8 := hB1.c 8 rfl; have c1_2 := hB1.c 2 rfl; have c1_3 := hB1.c 3 rfl; have c1_4 := hB1.c 4 rfl; have c1_5 := hB1.c 5 rfl; have c1_6 := hB1.c 6 rfl; have c1_7 := hB1.c 7 rfl; have hlq : ([x3, x4, x5, x6, x7, x8] : List Int).length = 6 := rfl; have hdk : ∀ d ∈ [x3, x4, x5, x6, x7, x8], 0 ≤ d ∧ d < 18446744073709551616 := by
  intro d hd; simp at hd
  rcases hd with rfl | rfl | rfl | rfl | rfl | rfl <;> omega
 have HDK := Lib.hid hdk; clear hdk; have hN : Blk (w1.alloc (.cells #[.int .u64 x3, .int .u64 x4, .int .u64 x5, .int .u64 x6, .int .u64 x7, .int .u64 x8] 27)) w1.heap.size 27 (([x3, x4, x5, x6, x7, x8] : List Int).map (Value.int .u64)).toArray := Blk.new _ _ _; have hWn := hW1.alloc (.cells #[.int .u64 x3, .int .u64 x4, .int .u64 x5, .int .u64 x6, .int .u64 x7, .int .u64 x8] 27); have hBn := hB1.alloc (.cells #[.int .u64 x3, .int .u64 x4, .int .u64 x5, .int .u64 x6, .int .u64 x7, .int .u64 x8] 27); have hTn := hT1.alloc (by omega) (.cells #[.int .u64 x3, .int .u64 x4, .int .u64 x5, .int .u64 x6, .int .u64 x7, .int .u64 x8] 27); go_wp2_with fail; generalize hdl : ([x3, x4, x5, x6, x7, x8] : List Int) = dl at *; have HDL := Lib.hid hdl; clear hdl
 go_loopw [5, 27] (fun _ i wr => ∃ j : Nat, i = .int .i64 (j : Int) ∧ j ≤ 6 ∧ Wrt wr g ((dl.take j).foldl Out.dig S1) ∧ Blk wr w1.heap.size 27 (dl.map (Value.int .u64)).toArray ∧ Blk wr w.heap.size 40 #[.int .i64 x1, .int .i64 x2, .int .u64 x3, .int .u64 x4, .int .u64 x5, .int .u64 x6, .int .u64 x7, .int .u64 x8, .int .i64 x9] ∧ Turned w wr g) (fun _ i _ => 6 - (intOf i).toNat)
 case atStart => exact ⟨0, rfl, by omega, by simpa using hWn, hN, hBn, hTn⟩
 case round =>
  obtain ⟨j, rfl, hj, hW, hDg, hBx, hT⟩ := hrel
  by_cases hlt : j < 6
  ·have hji : (j : Int) < 6 := by omega
   have hl2 : j < dl.length := by omega
   have d0 : wr.cell? ⟨w1.heap.size, j, none⟩ = some (.int .u64 dl[j]) := (hDg.cell j).trans (by simp [List.getElem?_eq_getElem hl2]); have HS := Lib.hid (fold_take Out.dig S1 dl j hl2); have hle := Out.digs_len S1 (dl.take j); have hle2 : (dl.take j).length ≤ j := by simp; omega
   have hdj := HDK.out dl[j] (List.getElem_mem hl2); generalize dl[j] = y at *; unfold Out.digs at hle; generalize (dl.take j).foldl Out.dig S1 = S7 at *; go_wp2_with fail; refine (digest_any _ _ g _ hW (by omega) (by omega) (by omega)).mono ?_; rintro e w9 ⟨rfl, hW9, hC9⟩; have hD9 := hC9.blk hDg (by omega) (by decide); have hB9 := hC9.blk hBx (by omega) (by decide); go_wp2_with fail
   go_roundw
   case rel => exact ⟨j + 1, by go_num, by omega, by rw [HS.out]; exact hW9, hD9, hB9, hT.trans hC9⟩
   case measure => simp [intOf]; omega
  ·have hji : ¬ (j : Int) < 6 := by omega
   rw [List.take_of_length_le (by omega)] at hW; have hle := Out.digs_len S1 dl; have hEd : Hid (S1.digs dl = dl.foldl Out.dig S1) := rfl; rw [hEd.out] at hle; have k8 := hBx.c 8 rfl; go_wp2_with fail; refine (number_any _ _ g _ hW (by omega)).mono ?_; rintro e w9 ⟨rfl, hW9, hC9⟩; go_wp2_with fail
   go_end0
   exact ⟨rfl, hW9.eq (by rw [hE.out, hEd.out]), hT.trans hC9⟩
set_option maxRecDepth 100000 in
set_option maxHeartbeats 1000000 in
theorem wproof_any (x : ProofD) (B : Nat) (w : World) (g : Nat) (S : Out) (h : Wrt w g S) (hl : S.b.length + 40 * proofM x ≤ 59000000000000) (hx : x.held w B) (hB : B ≤ g) :
  Calls Try.prog 67 #[.pointer (some ⟨g, 0, none⟩), x.val] w fun e w' => e = .returned (.tuple #[]) ∧ Wrt w' g (S.proof x) ∧ Turned w w' g := by
 have hgt := h.lt; have hE : Hid (S.proof x = (((((S.list x.turns 288 Out.turn).flag x.leaf).text x.key 32).text x.value 4096).need (allTo (turnOkAt x.turns) x.turns.length)).need (proofOk x)) := rfl; have hK : Hid (proofOk x = ((x.leaf && !emp x.value) || (!x.leaf && decide (x.turns.length = 0) && emp x.key && emp x.value))) := rfl; obtain ⟨ts, tA, tc, x2, x3, x4⟩ := x; simp only [proofM, turns_M] at hl; dsimp only [ProofD.val]; obtain ⟨hxr, hxs, hxd⟩ := hx; dsimp only at hxr hxs hxd; have hsw := turns_W ts; go_enter Try.func67, Try.ntmps67; go_wp2_with fail; refine (putsTurn_any ts tA tc B 288 _ g _ (h.alloc _) (((Turned.refl w g).alloc (by omega) _).rd hxr hB) hB hxd (by omega) hxs).mono ?_; rintro e w1 ⟨rfl, hW1, hC1⟩; have hB1 := hC1.blk (Blk.new _ _ _) (by omega) (by decide); have hT1 := ((Turned.refl w g).alloc (by omega) _).trans hC1; have hlt1 := hB1.lt; have hgl1 := hW1.lt; have ll1 := list_len Out.turn turnW Out.turn_lenW ts 288 S; generalize S.list ts 288 Out.turn = S1 at *; have c1_0 := hB1.c 0 rfl; have c1_1 := hB1.c 1 rfl; have c1_2 := hB1.c 2 rfl; have c1_3 := hB1.c 3 rfl; go_wp2_with fail; refine (flag_any _ _ g _ hW1 (by omega)).mono ?_; rintro e w2 ⟨rfl, hW2, hC2⟩; have hB2 := hC2.blk hB1 (by omega) (by decide); have hT2 := hT1.trans hC2; have hlt2 := hB2.lt; have hgl2 := hW2.lt; have ll2 := (by simp [Out.flag] : (S1.flag x2).b.length ≤ S1.b.length + 1)
 generalize S1.flag x2 = S2 at *; have c2_0 := hB2.c 0 rfl; have c2_1 := hB2.c 1 rfl; have c2_2 := hB2.c 2 rfl; have c2_3 := hB2.c 3 rfl; go_wp2_with fail; refine (text_anyW x3 32 _ g _ hW2 (by omega)).mono ?_; rintro e w3 ⟨rfl, hW3, hC3⟩; have hB3 := hC3.blk hB2 (by omega) (by decide); have hT3 := hT2.trans hC3; have hlt3 := hB3.lt; have hgl3 := hW3.lt; have ll3 := S2.text_len x3 32; generalize S2.text x3 32 = S3 at *; have c3_0 := hB3.c 0 rfl; have c3_1 := hB3.c 1 rfl; have c3_2 := hB3.c 2 rfl; have c3_3 := hB3.c 3 rfl; go_wp2_with fail; refine (text_anyW x4 4096 _ g _ hW3 (by omega)).mono ?_; rintro e w4 ⟨rfl, hW4, hC4⟩; have hB4 := hC4.blk hB3 (by omega) (by decide); have hT4 := hT3.trans hC4; have hlt4 := hB4.lt; have hgl4 := hW4.lt; have ll4 := S3.text_len x4 4096; generalize S3.text x4 4096 = S4 at *; have c4_0 := hB4.c 0 rfl; have c4_1 := hB4.c 1 rfl; have c4_2 := hB4.c 2 rfl; have c4_3 := hB4.c 3 rfl; have hKf : Hid (∀ j (h : j < ts.length), turnOkAt ts j = decide (prevT ts j < ts[j].p)) := by
  intro j h; simp [turnOkAt, List.getElem?_eq_getElem h]
 have hKp : Hid (∀ j (h : j < ts.length), prevT ts (j + 1) = ts[j].p) := by
  intro j h; simp [prevT, List.getElem?_eq_getElem h]
 go_wp2_with fail
 go_loopw [4, 6, 26] (fun p _ i wr => ∃ j : Nat, i = .int .i64 (j : Int) ∧ j ≤ ts.length ∧ p = .int .i64 (prevT ts j) ∧ Wrt wr g (S4.need (allTo (turnOkAt ts) j)) ∧ Blk wr w.heap.size 148 #[.slice tA ts.length tc, .bool x2, .string (bs x3), .string (bs x4)] ∧ Turned w wr g) (fun _ _ i _ => ts.length - (intOf i).toNat)
 case atStart => exact ⟨0, rfl, by omega, rfl, by rw [show allTo (turnOkAt ts) 0 = true from rfl, Out.need_true]; exact hW4, hB4, hT4⟩
 case round =>
  obtain ⟨j, rfl, hj, rfl, hW, hBx, hT⟩ := hrel; have hgw := hW.lt
  by_cases hlt : j < ts.length
  ·have hji : (j : Int) < (ts.length : Int) := by omega
   obtain ⟨b, off, rfl, hbB, hc⟩ := TurnsL.at_ (hT.rd hxr hB) hlt; have hs := Lib.hid (hKf.out j hlt); have hs2 : Hid (allTo (turnOkAt ts) (j + 1) = (allTo (turnOkAt ts) j && turnOkAt ts j)) := rfl; have hs3 := Lib.hid (hKp.out j hlt); have d0 : wr.cell? ⟨b, off + j * 2, none⟩ = some (.int .i64 ts[j].p) := hc 0 _ rfl; have d1 : wr.cell? ⟨b, off + j * 2 + 1, none⟩ = some (.int .u64 ts[j].d) := hc 1 _ rfl; generalize ts[j] = y at *; clear hc; generalize prevT ts j = pv at *; go_wp2_with fail; refine (need_any _ _ g _ (hW.alloc _)).mono ?_; rintro e w9 ⟨rfl, hW9, hT9⟩; have hB9 := hT9.blk (Blk.new _ _ _) (by omega) (by decide); have hBx9 := hT9.blk (hBx.alloc _) (by omega) (by decide); have d2 := hB9.c 0 rfl; go_wp2_with fail
   go_roundw
   case rel => exact ⟨j + 1, by go_num, by omega, by rw [hs3.out], hW9.eq (by rw [Out.need_need, hs2.out, hs.out]), hBx9, (hT.alloc (Nat.le_of_lt hgw) _).trans hT9⟩
   case measure => simp [intOf]; omega
  ·have hji : ¬ (j : Int) < (ts.length : Int) := by omega
   have hjl : Hid (j = ts.length) := show j = ts.length by omega
   have k0 := hBx.c 0 rfl; have k1 := hBx.c 1 rfl; have k2 := hBx.c 2 rfl; have k3 := hBx.c 3 rfl; go_wp2_with fail
   all_goals
    refine (need_any _ _ g _ hW).mono ?_; rintro e w9 ⟨rfl, hW9, hT9⟩; go_wp2_with fail
    go_end0
    exact ⟨rfl, hW9.eq (by rw [hE.out, hK.out, ← hjl.out]; congr 1; first | grind [emp] | (cases x2 <;> cases x3 <;> cases x4 <;> simp_all [emp])), hT.trans hT9⟩
set_option maxRecDepth 100000 in
set_option maxHeartbeats 1000000 in
theorem wsight_any (x : SightD) (B : Nat) (w : World) (g : Nat) (S : Out) (h : Wrt w g S) (hl : S.b.length + 40 * sightM x ≤ 58999999990000) (hx : x.held w B) (hB : B ≤ g) :
  Calls Try.prog 65 #[.pointer (some ⟨g, 0, none⟩), x.val] w fun e w' => e = .returned (.tuple #[]) ∧ Wrt w' g (S.sight x) ∧ Turned w w' g := by
 have hgt := h.lt; have hE : Hid (S.sight x = ((S.header x.header).cert x.cert).bench x.seats) := rfl; obtain ⟨⟨h1, h2, h3, h4, h5, h6, h7, h8, h9⟩, ⟨c1, c2, c3, c4, c5, c6, c6a, c6c⟩, ss, sA, sc⟩ := x; simp only [sightM, headerM] at hl; dsimp only [SightD.val]; obtain ⟨hxh, hxc, hxr, hxs⟩ := hx; dsimp only at hxh hxc hxr hxs; go_enter Try.func65, Try.ntmps65; go_wp2_with fail; refine (wheader_any ⟨h1, h2, h3, h4, h5, h6, h7, h8, h9⟩ hxh _ g _ (h.alloc _) (by omega)).mono ?_; rintro e w1 ⟨rfl, hW1, hC1⟩; have hB1 := hC1.blk (Blk.new _ _ _) (by omega) (by decide); have hT1 := ((Turned.refl w g).alloc (by omega) _).trans hC1; have hlt1 := hB1.lt; have hgl1 := hW1.lt; have ll1 := S.header_len ⟨h1, h2, h3, h4, h5, h6, h7, h8, h9⟩; generalize S.header ⟨h1, h2, h3, h4, h5, h6, h7, h8, h9⟩ = S1 at *; have c1_0 := hB1.c 0 rfl; have c1_1 := hB1.c 1 rfl; have c1_2 := hB1.c 2 rfl; have c1_3 := hB1.c 3 rfl; have c1_4 := hB1.c 4 rfl; have c1_5 := hB1.c 5 rfl; have c1_6 := hB1.c 6 rfl; have c1_7 := hB1.c 7 rfl; have c1_8 := hB1.c 8 rfl; have c1_9 := hB1.c 9 rfl; have c1_10 := hB1.c 10 rfl; have c1_11 := hB1.c 11 rfl; have c1_12 := hB1.c 12 rfl; have c1_13 := hB1.c 13 rfl; have c1_14 := hB1.c 14 rfl; have c1_15 := hB1.c 15 rfl; go_wp2_with fail; refine (wcert_any ⟨c1, c2, c3, c4, c5, c6, c6a, c6c⟩ B _ g _ hW1 (by omega) (hxc.below (hT1.low.mono hB)) hB).mono ?_; rintro e w2 ⟨rfl, hW2, hC2⟩; have hB2 := hC2.blk hB1 (by omega) (by decide); have hT2 := hT1.trans hC2; have hlt2 := hB2.lt; have hgl2 := hW2.lt; have ll2 := S1.cert_len ⟨c1, c2, c3, c4, c5, c6, c6a, c6c⟩; generalize S1.cert ⟨c1, c2, c3, c4, c5, c6, c6a, c6c⟩ = S2 at *; have c2_0 := hB2.c 0 rfl; have c2_1 := hB2.c 1 rfl; have c2_2 := hB2.c 2 rfl; have c2_3 := hB2.c 3 rfl; have c2_4 := hB2.c 4 rfl; have c2_5 := hB2.c 5 rfl; have c2_6 := hB2.c 6 rfl; have c2_7 := hB2.c 7 rfl; have c2_8 := hB2.c 8 rfl; have c2_9 := hB2.c 9 rfl; have c2_10 := hB2.c 10 rfl
 have c2_11 := hB2.c 11 rfl; have c2_12 := hB2.c 12 rfl; have c2_13 := hB2.c 13 rfl; have c2_14 := hB2.c 14 rfl; have c2_15 := hB2.c 15 rfl; go_wp2_with fail; refine (wbench_any ss sA sc B _ g _ hW2 (hT2.rd hxr hB) hB (by omega) hxs).mono ?_; rintro e w3 ⟨rfl, hW3, hC3⟩; have hB3 := hC3.blk hB2 (by omega) (by decide); have hT3 := hT2.trans hC3; have hlt3 := hB3.lt; have hgl3 := hW3.lt; generalize S2.bench ss = S3 at *; go_wp2_with fail
 go_end0
 exact ⟨rfl, Wrt.eq hW3 (by rw [hE.out] <;> rfl), hT3⟩
set_option maxRecDepth 100000 in
set_option maxHeartbeats 1000000 in
theorem fields_any (k : Int) (w : World) :
  Calls Try.prog 68 #[.int .i64 k] w fun e w' => e = .returned (.tuple #[.bool (toF k), .bool (amountF k), .bool (textF k), .bool (argsF k), .bool (sightF k), .bool (proofF k)]) ∧ w = w' := by
 have h0 : Hid (toF k = (decide (k = 1) || decide (k = 3) || decide (k = 7) || decide (k = 8))) := rfl; have h1 : Hid (amountF k = (toF k || decide (k = 2) || decide (k = 4) || decide (k = 5))) := rfl; have h2 : Hid (textF k = (decide (k = 2) || decide (k = 3))) := rfl; have h3 : Hid (argsF k = decide (k = 3)) := rfl; have h4 : Hid (sightF k = decide (k = 9)) := rfl; have h5 : Hid (proofF k = decide (k = 10)) := rfl
 by_cases h : k = 3
 ·subst h; go_enter Try.func68, Try.ntmps68; go_wp2_with fail; exact bodyPost_ret (v := .tuple #[.bool true, .bool true, .bool true, .bool true, .bool false, .bool false]) (by simp [results, Try.results68, go_sem]) rfl ⟨by simp [toF, amountF, textF, argsF, sightF, proofF], rfl⟩
 have b3 : (k == 3) = false := beq_eq_false_iff_ne.2 h; have n3 := h; clear h
 by_cases h : k = 1
 ·subst h; go_enter Try.func68, Try.ntmps68; go_wp2_with fail; exact bodyPost_ret (v := .tuple #[.bool true, .bool true, .bool false, .bool false, .bool false, .bool false]) (by simp [results, Try.results68, go_sem]) rfl ⟨by simp [toF, amountF, textF, argsF, sightF, proofF], rfl⟩
 have b1 : (k == 1) = false := beq_eq_false_iff_ne.2 h; have n1 := h; clear h
 by_cases h : k = 7
 ·subst h; go_enter Try.func68, Try.ntmps68; go_wp2_with fail; exact bodyPost_ret (v := .tuple #[.bool true, .bool true, .bool false, .bool false, .bool false, .bool false]) (by simp [results, Try.results68, go_sem]) rfl ⟨by simp [toF, amountF, textF, argsF, sightF, proofF], rfl⟩
 have b7 : (k == 7) = false := beq_eq_false_iff_ne.2 h; have n7 := h; clear h
 by_cases h : k = 8
 ·subst h; go_enter Try.func68, Try.ntmps68; go_wp2_with fail; exact bodyPost_ret (v := .tuple #[.bool true, .bool true, .bool false, .bool false, .bool false, .bool false]) (by simp [results, Try.results68, go_sem]) rfl ⟨by simp [toF, amountF, textF, argsF, sightF, proofF], rfl⟩
 have b8 : (k == 8) = false := beq_eq_false_iff_ne.2 h; have n8 := h; clear h
 by_cases h : k = 4
 ·subst h; go_enter Try.func68, Try.ntmps68; go_wp2_with fail; exact bodyPost_ret (v := .tuple #[.bool false, .bool true, .bool false, .bool false, .bool false, .bool false]) (by simp [results, Try.results68, go_sem]) rfl ⟨by simp [toF, amountF, textF, argsF, sightF, proofF], rfl⟩
 have b4 : (k == 4) = false := beq_eq_false_iff_ne.2 h; have n4 := h; clear h
 by_cases h : k = 5
 ·subst h; go_enter Try.func68, Try.ntmps68; go_wp2_with fail; exact bodyPost_ret (v := .tuple #[.bool false, .bool true, .bool false, .bool false, .bool false, .bool false]) (by simp [results, Try.results68, go_sem]) rfl ⟨by simp [toF, amountF, textF, argsF, sightF, proofF], rfl⟩
 have b5 : (k == 5) = false := beq_eq_false_iff_ne.2 h; have n5 := h; clear h
 by_cases h : k = 2
 ·subst h; go_enter Try.func68, Try.ntmps68; go_wp2_with fail; exact bodyPost_ret (v := .tuple #[.bool false, .bool true, .bool true, .bool false, .bool false, .bool false]) (by simp [results, Try.results68, go_sem]) rfl ⟨by simp [toF, amountF, textF, argsF, sightF, proofF], rfl⟩
 have b2 : (k == 2) = false := beq_eq_false_iff_ne.2 h; have n2 := h; clear h
 by_cases h : k = 9
 ·subst h; go_enter Try.func68, Try.ntmps68; go_wp2_with fail; exact bodyPost_ret (v := .tuple #[.bool false, .bool false, .bool false, .bool false, .bool true, .bool false]) (by simp [results, Try.results68, go_sem]) rfl ⟨by simp [toF, amountF, textF, argsF, sightF, proofF], rfl⟩
 have b9 : (k == 9) = false := beq_eq_false_iff_ne.2 h; have n9 := h; clear h
 by_cases h : k = 10
 ·subst h; go_enter Try.func68, Try.ntmps68; go_wp2_with fail; exact bodyPost_ret (v := .tuple #[.bool false, .bool false, .bool false, .bool false, .bool false, .bool true]) (by simp [results, Try.results68, go_sem]) rfl ⟨by simp [toF, amountF, textF, argsF, sightF, proofF], rfl⟩
 have b10 : (k == 10) = false := beq_eq_false_iff_ne.2 h; have n10 := h; clear h; go_enter Try.func68, Try.ntmps68; go_wp2_with fail; exact bodyPost_ret (v := .tuple #[.bool false, .bool false, .bool false, .bool false, .bool false, .bool false]) (by simp [results, Try.results68, go_sem]) rfl ⟨by rw [h0.out, h1.out, h2.out, h3.out, h4.out, h5.out, h0.out]; simp [*], rfl⟩
set_option maxRecDepth 100000 in
set_option maxHeartbeats 1000000 in
theorem putsSight_any (l : List SightD) (A : Option Addr) (c B : Nat) (m : Int) (w : World) (g : Nat) (S : Out) (h : Wrt w g S) (hr : SightsL w B A l) (hB : B ≤ g) (hd : ∀ x ∈ l, x.held w B) (hl : S.b.length + 6 + sumL sightW l ≤ 58999999980000) (hm : l.length ≤ maxLen) :
  Calls Try.prog 64 #[.pointer (some ⟨g, 0, none⟩), .slice A l.length c, .int .i64 m, .func (.func 65) #[] #[]] w fun e w' => e = .returned (.tuple #[]) ∧ Wrt w' g (S.list l m Out.sight) ∧ Turned w w' g := by
 unfold maxLen at hm; have hgt := h.lt; have hn := ((S.lim l.length m).num_len l.length)
 have hb0 : (S.lim l.length m).b.length = S.b.length := rfl; have hE : Hid (S.list l m Out.sight = l.foldl Out.sight ((S.lim l.length m).num l.length)) := rfl; go_enter Try.func64, Try.ntmps64; go_wp2_with fail; refine (limited_any _ _ _ g _ h).mono ?_; rintro e w1 ⟨rfl, hW1, hT1⟩; go_wp2_with fail; refine (number_any _ _ g _ hW1 (by omega)).mono ?_; rintro e w2 ⟨rfl, hW2, hT2⟩; have hT02 := hT1.trans hT2; clear hT1 hT2 hW1; generalize (S.lim l.length m).num l.length = S2 at *; go_wp2_with fail
 go_loopw [9, 21] (fun _ i wr => ∃ j : Nat, i = .int .i64 (j : Int) ∧ j ≤ l.length ∧ Wrt wr g ((l.take j).foldl Out.sight S2) ∧ Turned w wr g) (fun _ i _ => l.length - (intOf i).toNat)
 case atStart => exact ⟨0, rfl, by omega, by simpa using hW2, hT02⟩
 case round =>
  obtain ⟨j, rfl, hj, hW, hT⟩ := hrel; have hgw := hW.lt
  by_cases hlt : j < l.length
  ·have hji : (j : Int) < (l.length : Int) := by omega
   obtain ⟨b, off, rfl, hbB, hc⟩ := SightsL.at_ (hT.rd hr hB) hlt; have HS := Lib.hid (fold_take Out.sight S2 l j hlt); have hle := fold_len Out.sight sightW Out.sight_len (l.take j) S2; have hle2 := sumL_take sightW l j hlt; have hx := (hd l[j] (List.getElem_mem hlt)).below (hT.low.mono hB); generalize hxx : l[j] = x at *; clear hxx; have c0 : wr.cell? ⟨b, off + j * 16, none⟩ = some (.int .i64 x.header.c) := hc 0 _ rfl; have c1 : wr.cell? ⟨b, off + j * 16 + 1, none⟩ = some (.int .i64 x.header.h) := hc 1 _ rfl; have c2 : wr.cell? ⟨b, off + j * 16 + 2, none⟩ = some (.int .u64 x.header.p) := hc 2 _ rfl; have c3 : wr.cell? ⟨b, off + j * 16 + 3, none⟩ = some (.int .u64 x.header.t) := hc 3 _ rfl; have c4 : wr.cell? ⟨b, off + j * 16 + 4, none⟩ = some (.int .u64 x.header.g) := hc 4 _ rfl; have c5 : wr.cell? ⟨b, off + j * 16 + 5, none⟩ = some (.int .u64 x.header.s) := hc 5 _ rfl; have c6 : wr.cell? ⟨b, off + j * 16 + 6, none⟩ = some (.int .u64 x.header.r) := hc 6 _ rfl; have c7 : wr.cell? ⟨b, off + j * 16 + 7, none⟩ = some (.int .u64 x.header.b) := hc 7 _ rfl; have c8 : wr.cell? ⟨b, off + j * 16 + 8, none⟩ = some (.int .i64 x.header.o) := hc 8 _ rfl; have c9 : wr.cell? ⟨b, off + j * 16 + 9, none⟩ = some (.int .i64 x.cert.h) := hc 9 _ rfl; have c10 : wr.cell? ⟨b, off + j * 16 + 10, none⟩ = some (.int .i64 x.cert.r) := hc 10 _ rfl; have c11 : wr.cell? ⟨b, off + j * 16 + 11, none⟩ = some (.int .i64 x.cert.s) := hc 11 _ rfl; have c12 : wr.cell? ⟨b, off + j * 16 + 12, none⟩ = some (.bool x.cert.has) := hc 12 _ rfl; have c13 : wr.cell? ⟨b, off + j * 16 + 13, none⟩ = some (.int .u64 x.cert.b) := hc 13 _ rfl; have c14 : wr.cell? ⟨b, off + j * 16 + 14, none⟩ = some (.slice x.cert.fa x.cert.froms.length x.cert.fc) := hc 14 _ rfl; have c15 : wr.cell? ⟨b, off + j * 16 + 15, none⟩ = some (.slice x.sa x.seats.length x.sc) := hc 15 _ rfl; clear hc; go_wp2_with fail
   refine (wsight_any x B _ g _ (hW.alloc _) (by unfold sightW at *; omega) (hx.below ((Below.refl B wr).alloc (by omega) _)) hB).mono ?_; rintro e w3 ⟨rfl, hW3, hT3⟩; go_wp2_with fail
   go_roundw
   case rel => exact ⟨j + 1, by go_num, by omega, by rw [HS.out]; exact hW3, (hT.alloc (Nat.le_of_lt hgw) _).trans hT3⟩
   case measure => simp [intOf]; omega
  ·have hji : ¬ (j : Int) < (l.length : Int) := by omega
   go_wp2
   go_end0
   rw [List.take_of_length_le (by omega)] at hW; exact ⟨rfl, by rw [hE.out]; exact hW, hT⟩
set_option maxRecDepth 100000 in
set_option maxHeartbeats 1000000 in
theorem putsProof_any (l : List ProofD) (A : Option Addr) (c B : Nat) (m : Int) (w : World) (g : Nat) (S : Out) (h : Wrt w g S) (hr : ProofsL w B A l) (hB : B ≤ g) (hd : ∀ x ∈ l, x.held w B) (hl : S.b.length + 6 + sumL proofW l ≤ 58999999980000) (hm : l.length ≤ maxLen) :
  Calls Try.prog 66 #[.pointer (some ⟨g, 0, none⟩), .slice A l.length c, .int .i64 m, .func (.func 67) #[] #[]] w fun e w' => e = .returned (.tuple #[]) ∧ Wrt w' g (S.list l m Out.proof) ∧ Turned w w' g := by
 unfold maxLen at hm; have hgt := h.lt; have hn := ((S.lim l.length m).num_len l.length)
 have hb0 : (S.lim l.length m).b.length = S.b.length := rfl; have hE : Hid (S.list l m Out.proof = l.foldl Out.proof ((S.lim l.length m).num l.length)) := rfl; go_enter Try.func66, Try.ntmps66; go_wp2_with fail; refine (limited_any _ _ _ g _ h).mono ?_; rintro e w1 ⟨rfl, hW1, hT1⟩; go_wp2_with fail; refine (number_any _ _ g _ hW1 (by omega)).mono ?_; rintro e w2 ⟨rfl, hW2, hT2⟩; have hT02 := hT1.trans hT2; clear hT1 hT2 hW1; generalize (S.lim l.length m).num l.length = S2 at *; go_wp2_with fail
 go_loopw [9, 21] (fun _ i wr => ∃ j : Nat, i = .int .i64 (j : Int) ∧ j ≤ l.length ∧ Wrt wr g ((l.take j).foldl Out.proof S2) ∧ Turned w wr g) (fun _ i _ => l.length - (intOf i).toNat)
 case atStart => exact ⟨0, rfl, by omega, by simpa using hW2, hT02⟩
 case round =>
  obtain ⟨j, rfl, hj, hW, hT⟩ := hrel; have hgw := hW.lt
  by_cases hlt : j < l.length
  ·have hji : (j : Int) < (l.length : Int) := by omega
   obtain ⟨b, off, rfl, hbB, hc⟩ := ProofsL.at_ (hT.rd hr hB) hlt; have HS := Lib.hid (fold_take Out.proof S2 l j hlt); have hle := fold_len Out.proof proofW Out.proof_lenW (l.take j) S2; have hle2 := sumL_take proofW l j hlt; have hx := (hd l[j] (List.getElem_mem hlt)).below (hT.low.mono hB); generalize hxx : l[j] = x at *; clear hxx; have c0 : wr.cell? ⟨b, off + j * 4, none⟩ = some (.slice x.ta x.turns.length x.tc) := hc 0 _ rfl; have c1 : wr.cell? ⟨b, off + j * 4 + 1, none⟩ = some (.bool x.leaf) := hc 1 _ rfl; have c2 : wr.cell? ⟨b, off + j * 4 + 2, none⟩ = some (.string (bs x.key)) := hc 2 _ rfl; have c3 : wr.cell? ⟨b, off + j * 4 + 3, none⟩ = some (.string (bs x.value)) := hc 3 _ rfl; clear hc; go_wp2_with fail; refine (wproof_any x B _ g _ (hW.alloc _) (by unfold proofW at *; omega) (hx.below ((Below.refl B wr).alloc (by omega) _)) hB).mono ?_; rintro e w3 ⟨rfl, hW3, hT3⟩; go_wp2_with fail
   go_roundw
   case rel => exact ⟨j + 1, by go_num, by omega, by rw [HS.out]; exact hW3, (hT.alloc (Nat.le_of_lt hgw) _).trans hT3⟩
   case measure => simp [intOf]; omega
  ·have hji : ¬ (j : Int) < (l.length : Int) := by omega
   go_wp2
   go_end0
   rw [List.take_of_length_le (by omega)] at hW; exact ⟨rfl, by rw [hE.out]; exact hW, hT⟩
end Go.Proofs.Ytjhaafbbdgjagaa
