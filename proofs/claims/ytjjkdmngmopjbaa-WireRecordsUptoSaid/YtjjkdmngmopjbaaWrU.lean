/- Headers, certs, turns, proofs, sights, transactions: as plain things, and what is written of them. -/
import Derived.Test.YtjjkdmngmopjbaaProg
import Derived.Test.YtjjkdmngmopjbaaWrT
namespace Go.Proofs.Ytjjkdmngmopjbaa
open Go.RowKit
def one1 {α : Type} (_ : α) : Nat := 1
structure HeaderD where
  c : Int
  h : Int
  p : Int
  t : Int
  g : Int
  s : Int
  r : Int
  b : Int
  o : Int
def HeaderD.cells (x : HeaderD) : List Value := [.int .i64 x.c, .int .i64 x.h, .int .u64 x.p, .int .u64 x.t, .int .u64 x.g, .int .u64 x.s, .int .u64 x.r, .int .u64 x.b, .int .i64 x.o]
def HeaderD.val (x : HeaderD) : Value := .agg #[.int .i64 x.c, .int .i64 x.h, .int .u64 x.p, .int .u64 x.t, .int .u64 x.g, .int .u64 x.s, .int .u64 x.r, .int .u64 x.b, .int .i64 x.o]
def HeaderD.ok (x : HeaderD) : Prop := (0 ≤ x.p ∧ x.p < 18446744073709551616) ∧ (0 ≤ x.t ∧ x.t < 18446744073709551616) ∧ (0 ≤ x.g ∧ x.g < 18446744073709551616) ∧ (0 ≤ x.s ∧ x.s < 18446744073709551616) ∧ (0 ≤ x.r ∧ x.r < 18446744073709551616) ∧ (0 ≤ x.b ∧ x.b < 18446744073709551616)
def headerM (_ : HeaderD) : Nat := 10
def Out.digs (S : Out) (l : List Int) : Out := l.foldl Out.dig S
def Out.header (S : Out) (x : HeaderD) : Out := ((S.nums [x.c, x.h]).digs [x.p, x.t, x.g, x.s, x.r, x.b]).num x.o
theorem Out.digs_len (S : Out) (l : List Int) : (S.digs l).b.length ≤ S.b.length + 8 * l.length := by
  induction l generalizing S with
  | nil => simp [Out.digs]
  | cons n l ih =>
    have h1 := ih (S.dig n)
    have h2 : (S.dig n).b.length = S.b.length + 8 := by simp [Out.dig, be_len]
    show ((S.dig n).digs l).b.length ≤ _
    simp
    omega
theorem Out.header_len (S : Out) (x : HeaderD) : (S.header x).b.length ≤ S.b.length + 66 := by
  have h1 := S.nums_len [x.c, x.h]
  have h2 := (S.nums [x.c, x.h]).digs_len [x.p, x.t, x.g, x.s, x.r, x.b]
  have h3 := ((S.nums [x.c, x.h]).digs [x.p, x.t, x.g, x.s, x.r, x.b]).num_len x.o
  simp at h1 h2
  unfold Out.header
  omega
structure CertD where
  h : Int
  r : Int
  s : Int
  has : Bool
  b : Int
  froms : List Int
  fa : Option Addr
  fc : Nat
def CertD.cells (x : CertD) : List Value := [.int .i64 x.h, .int .i64 x.r, .int .i64 x.s, .bool x.has, .int .u64 x.b, .slice x.fa x.froms.length x.fc]
def CertD.val (x : CertD) : Value := .agg #[.int .i64 x.h, .int .i64 x.r, .int .i64 x.s, .bool x.has, .int .u64 x.b, .slice x.fa x.froms.length x.fc]
structure CertD.held (w : World) (B : Nat) (x : CertD) : Prop where
  dig : 0 ≤ x.b ∧ x.b < 18446744073709551616
  read : Ints w B x.fa x.froms
  short : x.froms.length ≤ maxLen
theorem CertD.held.below {w w' : World} {B : Nat} {x : CertD} (h : x.held w B) (hb : Below B w w') : x.held w' B := ⟨h.dig, Rd.below h.read hb, h.short⟩
def certM (x : CertD) : Nat := x.froms.length + 1 + 6
def prevI (l : List Int) (k : Nat) : Int := if k = 0 then 0 else l.getD (k - 1) 0
def fromOk (l : List Int) (k : Nat) : Bool := decide (prevI l k < l.getD k 0)
def certOk (x : CertD) : Bool := (decide (x.s = 1) || decide (x.s = 2)) && (x.has || decide (x.b = 0))
def numW (_ : Int) : Nat := 6
def Out.cert (S : Out) (x : CertD) : Out := ((((((S.nums [x.h, x.r, x.s]).flag x.has).dig x.b).list x.froms 7 Out.num).need (certOk x)).need (allTo (fromOk x.froms) x.froms.length))
theorem Out.num_lenW (S : Out) (x : Int) : (S.num x).b.length ≤ S.b.length + numW x := S.num_len x
theorem Out.cert_len (S : Out) (x : CertD) : (S.cert x).b.length ≤ S.b.length + 40 * certM x := by
  have h1 := S.nums_len [x.h, x.r, x.s]
  have h2 := list_len Out.num numW Out.num_lenW x.froms 7 (((S.nums [x.h, x.r, x.s]).flag x.has).dig x.b)
  rw [show sumL numW x.froms = 6 * x.froms.length from sumL_const 6 x.froms] at h2
  simp [Out.cert, Out.need, Out.flag, Out.dig, be_len, certM] at h1 h2 ⊢
  omega
theorem Out.turn_len (S : Out) (x : TurnD) : (S.turn x).b.length ≤ S.b.length + 14 := by
  have := S.num_len x.p
  simp [Out.turn, Out.lim, Out.dig, be_len]
  omega
def turnM (_ : TurnD) : Nat := 3
def turnW (_ : TurnD) : Nat := 14
abbrev TurnsL (w : World) (B : Nat) (A : Option Addr) (l : List TurnD) : Prop := Lay 2 TurnD.cells w B A l
theorem TurnsL.at_ {w : World} {B : Nat} {A : Option Addr} {l : List TurnD} (h : TurnsL w B A l) {k : Nat} (hk : k < l.length) :
    ∃ b off, A = some ⟨b, off, none⟩ ∧ b < B ∧ ∀ j u, (l[k].cells)[j]? = some u → w.cell? ⟨b, off + k * 2 + j, none⟩ = some u := Lay.at_ (n := 2) (fun _ => rfl) (by omega) h hk
structure ProofD where
  turns : List TurnD
  ta : Option Addr
  tc : Nat
  leaf : Bool
  key : List UInt8
  value : List UInt8
def ProofD.cells (x : ProofD) : List Value := [.slice x.ta x.turns.length x.tc, .bool x.leaf, .string (bs x.key), .string (bs x.value)]
def ProofD.val (x : ProofD) : Value := .agg #[.slice x.ta x.turns.length x.tc, .bool x.leaf, .string (bs x.key), .string (bs x.value)]
structure ProofD.held (w : World) (B : Nat) (x : ProofD) : Prop where
  read : TurnsL w B x.ta x.turns
  short : x.turns.length ≤ maxLen
  digs : ∀ t ∈ x.turns, t.ok
theorem ProofD.held.below {w w' : World} {B : Nat} {x : ProofD} (h : x.held w B) (hb : Below B w w') : x.held w' B := ⟨Rd.below h.read hb, h.short, h.digs⟩
def proofM (x : ProofD) : Nat := sumL turnM x.turns + 1 + 1 + (x.key.length + 1) + (x.value.length + 1) + 1
def prevT (l : List TurnD) (k : Nat) : Int := if k = 0 then -1 else (l.getD (k - 1) ⟨0, 0⟩).p
def turnOkAt (l : List TurnD) (k : Nat) : Bool := decide (prevT l k < (l.getD k ⟨0, 0⟩).p)
def emp (l : List UInt8) : Bool := l.isEmpty
def proofOk (x : ProofD) : Bool := (x.leaf && !emp x.value) || (!x.leaf && decide (x.turns.length = 0) && emp x.key && emp x.value)
def Out.proof (S : Out) (x : ProofD) : Out := (((((S.list x.turns 288 Out.turn).flag x.leaf).text x.key 32).text x.value 4096).need (allTo (turnOkAt x.turns) x.turns.length)).need (proofOk x)
theorem Out.text_len (S : Out) (s : List UInt8) (m : Int) : (S.text s m).b.length ≤ S.b.length + 6 + s.length := by
  have h1 := (S.lim s.length m).num_len s.length
  have h2 : (S.lim s.length m).b.length = S.b.length := rfl
  simp [Out.text, Out.raw]
  omega
theorem Out.turn_lenW (S : Out) (x : TurnD) : (S.turn x).b.length ≤ S.b.length + turnW x := S.turn_len x
theorem turns_M (l : List TurnD) : sumL turnM l = 3 * l.length := sumL_const 3 l
theorem turns_W (l : List TurnD) : sumL turnW l = 14 * l.length := sumL_const 14 l
theorem Out.proof_len (S : Out) (x : ProofD) : (S.proof x).b.length ≤ S.b.length + 40 * proofM x := by
  have h1 := list_len Out.turn turnW Out.turn_lenW x.turns 288 S
  have h2 := ((S.list x.turns 288 Out.turn).flag x.leaf).text_len x.key 32
  have h3 := (((S.list x.turns 288 Out.turn).flag x.leaf).text x.key 32).text_len x.value 4096
  have h4 : ((S.list x.turns 288 Out.turn).flag x.leaf).b.length = (S.list x.turns 288 Out.turn).b.length + 1 := by simp [Out.flag]
  rw [turns_W] at h1
  simp only [proofM, turns_M]
  show ((((S.list x.turns 288 Out.turn).flag x.leaf).text x.key 32).text x.value 4096).b.length ≤ _
  omega
structure SightD where
  header : HeaderD
  cert : CertD
  seats : List Seat
  sa : Option Addr
  sc : Nat
def SightD.cells (x : SightD) : List Value := [.int .i64 x.header.c, .int .i64 x.header.h, .int .u64 x.header.p, .int .u64 x.header.t, .int .u64 x.header.g, .int .u64 x.header.s, .int .u64 x.header.r, .int .u64 x.header.b, .int .i64 x.header.o, .int .i64 x.cert.h, .int .i64 x.cert.r, .int .i64 x.cert.s, .bool x.cert.has, .int .u64 x.cert.b, .slice x.cert.fa x.cert.froms.length x.cert.fc, .slice x.sa x.seats.length x.sc]
def SightD.val (x : SightD) : Value := .agg #[.int .i64 x.header.c, .int .i64 x.header.h, .int .u64 x.header.p, .int .u64 x.header.t, .int .u64 x.header.g, .int .u64 x.header.s, .int .u64 x.header.r, .int .u64 x.header.b, .int .i64 x.header.o, .int .i64 x.cert.h, .int .i64 x.cert.r, .int .i64 x.cert.s, .bool x.cert.has, .int .u64 x.cert.b, .slice x.cert.fa x.cert.froms.length x.cert.fc, .slice x.sa x.seats.length x.sc]
structure SightD.held (w : World) (B : Nat) (x : SightD) : Prop where
  header : x.header.ok
  cert : x.cert.held w B
  read : SeatsL w B x.sa x.seats
  short : x.seats.length ≤ maxLen
theorem SightD.held.below {w w' : World} {B : Nat} {x : SightD} (h : x.held w B) (hb : Below B w w') : x.held w' B := ⟨h.header, h.cert.below hb, Rd.below h.read hb, h.short⟩
def seatM3 (_ : Seat) : Nat := 3
def sightM (x : SightD) : Nat := headerM x.header + certM x.cert + (3 * x.seats.length + 1) + 1
def sightW (x : SightD) : Nat := 40 * sightM x
def Out.sight (S : Out) (x : SightD) : Out := ((S.header x.header).cert x.cert).bench x.seats
theorem Out.sight_len (S : Out) (x : SightD) : (S.sight x).b.length ≤ S.b.length + sightW x := by
  have h1 := S.header_len x.header
  have h2 := (S.header x.header).cert_len x.cert
  have h3 := ((S.header x.header).cert x.cert).bench_len x.seats
  unfold Out.sight sightW sightM headerM
  omega
def proofW (x : ProofD) : Nat := 40 * proofM x
theorem Out.proof_lenW (S : Out) (x : ProofD) : (S.proof x).b.length ≤ S.b.length + proofW x := S.proof_len x
abbrev SightsL (w : World) (B : Nat) (A : Option Addr) (l : List SightD) : Prop := Lay 16 SightD.cells w B A l
theorem SightsL.at_ {w : World} {B : Nat} {A : Option Addr} {l : List SightD} (h : SightsL w B A l) {k : Nat} (hk : k < l.length) :
    ∃ b off, A = some ⟨b, off, none⟩ ∧ b < B ∧ ∀ j u, (l[k].cells)[j]? = some u → w.cell? ⟨b, off + k * 16 + j, none⟩ = some u := Lay.at_ (n := 16) (fun _ => rfl) (by omega) h hk
abbrev ProofsL (w : World) (B : Nat) (A : Option Addr) (l : List ProofD) : Prop := Lay 4 ProofD.cells w B A l
theorem ProofsL.at_ {w : World} {B : Nat} {A : Option Addr} {l : List ProofD} (h : ProofsL w B A l) {k : Nat} (hk : k < l.length) :
    ∃ b off, A = some ⟨b, off, none⟩ ∧ b < B ∧ ∀ j u, (l[k].cells)[j]? = some u → w.cell? ⟨b, off + k * 4 + j, none⟩ = some u := Lay.at_ (n := 4) (fun _ => rfl) (by omega) h hk
structure TxD where
  k : Int
  f : Int
  n : Int
  p : Int
  l : Int
  t : Int
  a : Int
  text : List UInt8
  args : List Int
  aa : Option Addr
  ac : Nat
  sights : List SightD
  sa : Option Addr
  sc : Nat
  proofs : List ProofD
  pa : Option Addr
  pc : Nat
def TxD.cells (x : TxD) : List Value := [.int .i64 x.k, .int .i64 x.f, .int .i64 x.n, .int .i64 x.p, .int .i64 x.l, .int .i64 x.t, .int .i64 x.a, .string (bs x.text), .slice x.aa x.args.length x.ac, .slice x.sa x.sights.length x.sc, .slice x.pa x.proofs.length x.pc]
def TxD.val (x : TxD) : Value := .agg #[.int .i64 x.k, .int .i64 x.f, .int .i64 x.n, .int .i64 x.p, .int .i64 x.l, .int .i64 x.t, .int .i64 x.a, .string (bs x.text), .slice x.aa x.args.length x.ac, .slice x.sa x.sights.length x.sc, .slice x.pa x.proofs.length x.pc]
structure TxD.held (w : World) (B : Nat) (x : TxD) : Prop where
  args : Ints w B x.aa x.args
  sights : SightsL w B x.sa x.sights
  proofs : ProofsL w B x.pa x.proofs
  short : x.args.length ≤ maxLen ∧ x.sights.length ≤ maxLen ∧ x.proofs.length ≤ maxLen
  sight : ∀ s ∈ x.sights, s.held w B
  proof : ∀ s ∈ x.proofs, s.held w B
theorem TxD.held.below {w w' : World} {B : Nat} {x : TxD} (h : x.held w B) (hb : Below B w w') : x.held w' B :=
  ⟨Rd.below h.args hb, Rd.below h.sights hb, Rd.below h.proofs hb, h.short, fun s hs => (h.sight s hs).below hb, fun s hs => (h.proof s hs).below hb⟩
def txM (x : TxD) : Nat := 7 + (x.text.length + 1) + (x.args.length + 1) + (sumL sightM x.sights + 1) + (sumL proofM x.proofs + 1) + 1
def toF (k : Int) : Bool := decide (k = 1) || decide (k = 3) || decide (k = 7) || decide (k = 8)
def amountF (k : Int) : Bool := toF k || decide (k = 2) || decide (k = 4) || decide (k = 5)
def textF (k : Int) : Bool := decide (k = 2) || decide (k = 3)
def argsF (k : Int) : Bool := decide (k = 3)
def sightF (k : Int) : Bool := decide (k = 9)
def proofF (k : Int) : Bool := decide (k = 10)
def txOk1 (x : TxD) : Bool := decide (1 ≤ x.k) && decide (x.k ≤ 10) && decide (1 ≤ x.f) && (toF x.k == decide (1 ≤ x.t))
def txOk2 (x : TxD) : Bool := (amountF x.k || decide (x.a = 0)) && (textF x.k || emp x.text) && (argsF x.k || decide (x.args.length = 0))
def txOk3 (x : TxD) : Bool := (sightF x.k == decide (x.sights.length = 1)) && (proofF x.k == decide (x.proofs.length = 1))
def Out.tx (S : Out) (x : TxD) : Out := (((((((S.nums [x.k, x.f, x.n, x.p, x.l, x.t, x.a]).text x.text 2048).list x.args 8 Out.num).list x.sights 1 Out.sight).list x.proofs 1 Out.proof).need (txOk1 x)).need (txOk2 x)).need (txOk3 x)
theorem sights_W (l : List SightD) : sumL sightW l ≤ 40 * sumL sightM l := by
  induction l with
  | nil => simp [sumL]
  | cons x l ih => rw [sumL_cons, sumL_cons, Nat.mul_add]; have : sightW x = 40 * sightM x := rfl; omega
theorem proofs_W (l : List ProofD) : sumL proofW l ≤ 40 * sumL proofM l := by
  induction l with
  | nil => simp [sumL]
  | cons x l ih => rw [sumL_cons, sumL_cons, Nat.mul_add]; have : proofW x = 40 * proofM x := rfl; omega
theorem Out.tx_len (S : Out) (x : TxD) : (S.tx x).b.length ≤ S.b.length + 40 * txM x := by
  have h1 := S.nums_len [x.k, x.f, x.n, x.p, x.l, x.t, x.a]
  have h2 := (S.nums [x.k, x.f, x.n, x.p, x.l, x.t, x.a]).text_len x.text 2048
  have h3 := list_len Out.num numW Out.num_lenW x.args 8 ((S.nums [x.k, x.f, x.n, x.p, x.l, x.t, x.a]).text x.text 2048)
  have h4 := list_len Out.sight sightW Out.sight_len x.sights 1 (((S.nums [x.k, x.f, x.n, x.p, x.l, x.t, x.a]).text x.text 2048).list x.args 8 Out.num)
  have h5 := list_len Out.proof proofW Out.proof_lenW x.proofs 1 ((((S.nums [x.k, x.f, x.n, x.p, x.l, x.t, x.a]).text x.text 2048).list x.args 8 Out.num).list x.sights 1 Out.sight)
  rw [show sumL numW x.args = 6 * x.args.length from sumL_const 6 x.args] at h3
  have h6 := sights_W x.sights
  have h7 := proofs_W x.proofs
  simp at h1
  show (((((S.nums [x.k, x.f, x.n, x.p, x.l, x.t, x.a]).text x.text 2048).list x.args 8 Out.num).list x.sights 1 Out.sight).list x.proofs 1 Out.proof).b.length ≤ _
  unfold txM
  omega
end Go.Proofs.Ytjjkdmngmopjbaa
