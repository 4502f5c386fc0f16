/- Blocks, motions, knowns, messages, records: as plain things, and what is written of them. -/
import Derived.Test.YtjjkdmngmopjbaaProg
import Derived.Test.YtjjkdmngmopjbaaHeavy
import Derived.Test.YtjjkdmngmopjbaaOpenV
namespace Go.Proofs.Ytjjkdmngmopjbaa
open Go.RowKit
abbrev VotesL (w : World) (B : Nat) (A : Option Addr) (l : List VoteD) : Prop := Lay 6 voteCells w B A l
theorem VotesL.at_ {w : World} {B : Nat} {A : Option Addr} {l : List VoteD} (h : VotesL w B A l) {k : Nat} (hk : k < l.length) :
    ∃ b off, A = some ⟨b, off, none⟩ ∧ b < B ∧ ∀ j u, (voteCells l[k])[j]? = some u → w.cell? ⟨b, off + k * 6 + j, none⟩ = some u := Lay.at_ (n := 6) (fun _ => rfl) (by omega) h hk
abbrev GuiltsL (w : World) (B : Nat) (A : Option Addr) (l : List GuiltD) : Prop := Lay 12 GuiltD.cells w B A l
theorem GuiltsL.at_ {w : World} {B : Nat} {A : Option Addr} {l : List GuiltD} (h : GuiltsL w B A l) {k : Nat} (hk : k < l.length) :
    ∃ b off, A = some ⟨b, off, none⟩ ∧ b < B ∧ ∀ j u, (l[k].cells)[j]? = some u → w.cell? ⟨b, off + k * 12 + j, none⟩ = some u := Lay.at_ (n := 12) (fun _ => rfl) (by omega) h hk
abbrev CertsL (w : World) (B : Nat) (A : Option Addr) (l : List CertD) : Prop := Lay 6 CertD.cells w B A l
theorem CertsL.at_ {w : World} {B : Nat} {A : Option Addr} {l : List CertD} (h : CertsL w B A l) {k : Nat} (hk : k < l.length) :
    ∃ b off, A = some ⟨b, off, none⟩ ∧ b < B ∧ ∀ j u, (l[k].cells)[j]? = some u → w.cell? ⟨b, off + k * 6 + j, none⟩ = some u := Lay.at_ (n := 6) (fun _ => rfl) (by omega) h hk
def txW (x : TxD) : Nat := 40 * txM x
theorem Out.tx_lenW (S : Out) (x : TxD) : (S.tx x).b.length ≤ S.b.length + txW x := S.tx_len x
theorem txs_W (l : List TxD) : sumL txW l ≤ 40 * sumL txM l := sumL_mul 40 txW txM (fun _ => Nat.le_refl _) l
def voteW (_ : VoteD) : Nat := 33
theorem Out.vote_lenW (S : Out) (x : VoteD) : (S.vote x).b.length ≤ S.b.length + voteW x := S.vote_len x
def guiltW (_ : GuiltD) : Nat := 66
theorem Out.guilt_lenW (S : Out) (x : GuiltD) : (S.guilt x).b.length ≤ S.b.length + guiltW x := by
  have h1 := S.vote_len x.a
  have h2 := (S.vote x.a).vote_len x.b
  unfold Out.guilt guiltW
  omega
def certW (x : CertD) : Nat := 40 * certM x
theorem Out.cert_lenW (S : Out) (x : CertD) : (S.cert x).b.length ≤ S.b.length + certW x := S.cert_len x
theorem certs_W (l : List CertD) : sumL certW l ≤ 40 * sumL certM l := sumL_mul 40 certW certM (fun _ => Nat.le_refl _) l
structure BlockD where
  header : HeaderD
  txs : List TxD
  ta : Option Addr
  tc : Nat
  guilts : List GuiltD
  ga : Option Addr
  gc : Nat
def BlockD.cells (x : BlockD) : List Value := [.int .i64 x.header.c, .int .i64 x.header.h, .int .u64 x.header.p, .int .u64 x.header.t, .int .u64 x.header.g, .int .u64 x.header.s, .int .u64 x.header.r, .int .u64 x.header.b, .int .i64 x.header.o, .slice x.ta x.txs.length x.tc, .slice x.ga x.guilts.length x.gc]
def BlockD.val (x : BlockD) : Value := .agg #[.int .i64 x.header.c, .int .i64 x.header.h, .int .u64 x.header.p, .int .u64 x.header.t, .int .u64 x.header.g, .int .u64 x.header.s, .int .u64 x.header.r, .int .u64 x.header.b, .int .i64 x.header.o, .slice x.ta x.txs.length x.tc, .slice x.ga x.guilts.length x.gc]
structure BlockD.held (w : World) (B : Nat) (x : BlockD) : Prop where
  header : x.header.ok
  txs : TxsL w B x.ta x.txs
  guilts : GuiltsL w B x.ga x.guilts
  short : x.txs.length ≤ maxLen ∧ x.guilts.length ≤ maxLen
  tx : ∀ s ∈ x.txs, s.held w B
  guilt : ∀ s ∈ x.guilts, s.ok
theorem BlockD.held.below {w w' : World} {B : Nat} {x : BlockD} (h : x.held w B) (hb : Below B w w') : x.held w' B :=
  ⟨h.header, Rd.below h.txs hb, Rd.below h.guilts hb, h.short, fun s hs => (h.tx s hs).below hb, h.guilt⟩
def blockM (x : BlockD) : Nat := headerM x.header + (sumL txM x.txs + 1) + (sumL guiltM x.guilts + 1) + 1
def blockW (x : BlockD) : Nat := 40 * blockM x
def Out.block (S : Out) (x : BlockD) : Out := ((S.header x.header).list x.txs 16 Out.tx).list x.guilts 4 Out.guilt
theorem Out.block_len (S : Out) (x : BlockD) : (S.block x).b.length ≤ S.b.length + 40 * blockM x := by
  have h1 := S.header_len x.header
  have h2 := list_len Out.tx txW Out.tx_lenW x.txs 16 (S.header x.header)
  have h3 := list_len Out.guilt guiltW Out.guilt_lenW x.guilts 4 ((S.header x.header).list x.txs 16 Out.tx)
  have h4 := txs_W x.txs
  rw [show sumL guiltW x.guilts = 66 * x.guilts.length from sumL_const 66 x.guilts] at h3
  have h5 : sumL guiltM x.guilts = 15 * x.guilts.length := sumL_const 15 x.guilts
  show (((S.header x.header).list x.txs 16 Out.tx).list x.guilts 4 Out.guilt).b.length ≤ _
  unfold blockM headerM
  omega
theorem Out.block_lenW (S : Out) (x : BlockD) : (S.block x).b.length ≤ S.b.length + blockW x := S.block_len x
structure MotionD where
  r : Int
  f : Int
  block : BlockD
  basis : List CertD
  ba : Option Addr
  bc : Nat
def MotionD.cells (x : MotionD) : List Value := [.int .i64 x.r, .int .i64 x.f, .int .i64 x.block.header.c, .int .i64 x.block.header.h, .int .u64 x.block.header.p, .int .u64 x.block.header.t, .int .u64 x.block.header.g, .int .u64 x.block.header.s, .int .u64 x.block.header.r, .int .u64 x.block.header.b, .int .i64 x.block.header.o, .slice x.block.ta x.block.txs.length x.block.tc, .slice x.block.ga x.block.guilts.length x.block.gc, .slice x.ba x.basis.length x.bc]
def MotionD.val (x : MotionD) : Value := .agg #[.int .i64 x.r, .int .i64 x.f, .int .i64 x.block.header.c, .int .i64 x.block.header.h, .int .u64 x.block.header.p, .int .u64 x.block.header.t, .int .u64 x.block.header.g, .int .u64 x.block.header.s, .int .u64 x.block.header.r, .int .u64 x.block.header.b, .int .i64 x.block.header.o, .slice x.block.ta x.block.txs.length x.block.tc, .slice x.block.ga x.block.guilts.length x.block.gc, .slice x.ba x.basis.length x.bc]
structure MotionD.held (w : World) (B : Nat) (x : MotionD) : Prop where
  block : x.block.held w B
  basis : CertsL w B x.ba x.basis
  short : x.basis.length ≤ maxLen
  cert : ∀ s ∈ x.basis, s.held w B
theorem MotionD.held.below {w w' : World} {B : Nat} {x : MotionD} (h : x.held w B) (hb : Below B w w') : x.held w' B :=
  ⟨h.block.below hb, Rd.below h.basis hb, h.short, fun s hs => (h.cert s hs).below hb⟩
def motionM (x : MotionD) : Nat := 2 + blockM x.block + (sumL certM x.basis + 1) + 1
def motionW (x : MotionD) : Nat := 40 * motionM x
def Out.motion (S : Out) (x : MotionD) : Out := (((S.nums [x.r, x.f]).block x.block).list x.basis 1 Out.cert).need (decide (1 ≤ x.f))
theorem Out.motion_len (S : Out) (x : MotionD) : (S.motion x).b.length ≤ S.b.length + 40 * motionM x := by
  have h1 := S.nums_len [x.r, x.f]
  have h2 := (S.nums [x.r, x.f]).block_len x.block
  have h3 := list_len Out.cert certW Out.cert_lenW x.basis 1 ((S.nums [x.r, x.f]).block x.block)
  have h4 := certs_W x.basis
  simp at h1
  show (((S.nums [x.r, x.f]).block x.block).list x.basis 1 Out.cert).b.length ≤ _
  unfold motionM
  omega
theorem Out.motion_lenW (S : Out) (x : MotionD) : (S.motion x).b.length ≤ S.b.length + motionW x := S.motion_len x
structure KnownD where
  cert : CertD
  block : BlockD
def KnownD.cells (x : KnownD) : List Value := [.int .i64 x.cert.h, .int .i64 x.cert.r, .int .i64 x.cert.s, .bool x.cert.has, .int .u64 x.cert.b, .slice x.cert.fa x.cert.froms.length x.cert.fc, .int .i64 x.block.header.c, .int .i64 x.block.header.h, .int .u64 x.block.header.p, .int .u64 x.block.header.t, .int .u64 x.block.header.g, .int .u64 x.block.header.s, .int .u64 x.block.header.r, .int .u64 x.block.header.b, .int .i64 x.block.header.o, .slice x.block.ta x.block.txs.length x.block.tc, .slice x.block.ga x.block.guilts.length x.block.gc]
def KnownD.val (x : KnownD) : Value := .agg #[.int .i64 x.cert.h, .int .i64 x.cert.r, .int .i64 x.cert.s, .bool x.cert.has, .int .u64 x.cert.b, .slice x.cert.fa x.cert.froms.length x.cert.fc, .int .i64 x.block.header.c, .int .i64 x.block.header.h, .int .u64 x.block.header.p, .int .u64 x.block.header.t, .int .u64 x.block.header.g, .int .u64 x.block.header.s, .int .u64 x.block.header.r, .int .u64 x.block.header.b, .int .i64 x.block.header.o, .slice x.block.ta x.block.txs.length x.block.tc, .slice x.block.ga x.block.guilts.length x.block.gc]
structure KnownD.held (w : World) (B : Nat) (x : KnownD) : Prop where
  cert : x.cert.held w B
  block : x.block.held w B
theorem KnownD.held.below {w w' : World} {B : Nat} {x : KnownD} (h : x.held w B) (hb : Below B w w') : x.held w' B := ⟨h.cert.below hb, h.block.below hb⟩
def knownM (x : KnownD) : Nat := certM x.cert + blockM x.block + 1
def knownW (x : KnownD) : Nat := 40 * knownM x
def Out.known (S : Out) (x : KnownD) : Out := (S.cert x.cert).block x.block
theorem Out.known_len (S : Out) (x : KnownD) : (S.known x).b.length ≤ S.b.length + 40 * knownM x := by
  have h1 := S.cert_len x.cert
  have h2 := (S.cert x.cert).block_len x.block
  unfold Out.known knownM
  omega
theorem Out.known_lenW (S : Out) (x : KnownD) : (S.known x).b.length ≤ S.b.length + knownW x := S.known_len x
abbrev MotionsL (w : World) (B : Nat) (A : Option Addr) (l : List MotionD) : Prop := Lay 14 MotionD.cells w B A l
theorem MotionsL.at_ {w : World} {B : Nat} {A : Option Addr} {l : List MotionD} (h : MotionsL w B A l) {k : Nat} (hk : k < l.length) :
    ∃ b off, A = some ⟨b, off, none⟩ ∧ b < B ∧ ∀ j u, (l[k].cells)[j]? = some u → w.cell? ⟨b, off + k * 14 + j, none⟩ = some u := Lay.at_ (n := 14) (fun _ => rfl) (by omega) h hk
abbrev KnownsL (w : World) (B : Nat) (A : Option Addr) (l : List KnownD) : Prop := Lay 17 KnownD.cells w B A l
theorem KnownsL.at_ {w : World} {B : Nat} {A : Option Addr} {l : List KnownD} (h : KnownsL w B A l) {k : Nat} (hk : k < l.length) :
    ∃ b off, A = some ⟨b, off, none⟩ ∧ b < B ∧ ∀ j u, (l[k].cells)[j]? = some u → w.cell? ⟨b, off + k * 17 + j, none⟩ = some u := Lay.at_ (n := 17) (fun _ => rfl) (by omega) h hk
theorem motions_W (l : List MotionD) : sumL motionW l ≤ 40 * sumL motionM l := sumL_mul 40 motionW motionM (fun _ => Nat.le_refl _) l
theorem knowns_W (l : List KnownD) : sumL knownW l ≤ 40 * sumL knownM l := sumL_mul 40 knownW knownM (fun _ => Nat.le_refl _) l
structure MessageD where
  f : Int
  t : Int
  h : Int
  votes : List VoteD
  va : Option Addr
  vc : Nat
  motions : List MotionD
  ma : Option Addr
  mc : Nat
  knowns : List KnownD
  ka : Option Addr
  kc : Nat
  txs : List TxD
  xa : Option Addr
  xc : Nat
def MessageD.cells (x : MessageD) : List Value := [.int .i64 x.f, .int .i64 x.t, .int .i64 x.h, .slice x.va x.votes.length x.vc, .slice x.ma x.motions.length x.mc, .slice x.ka x.knowns.length x.kc, .slice x.xa x.txs.length x.xc]
def MessageD.val (x : MessageD) : Value := .agg #[.int .i64 x.f, .int .i64 x.t, .int .i64 x.h, .slice x.va x.votes.length x.vc, .slice x.ma x.motions.length x.mc, .slice x.ka x.knowns.length x.kc, .slice x.xa x.txs.length x.xc]
structure MessageD.held (w : World) (B : Nat) (x : MessageD) : Prop where
  votes : VotesL w B x.va x.votes
  motions : MotionsL w B x.ma x.motions
  knowns : KnownsL w B x.ka x.knowns
  txs : TxsL w B x.xa x.txs
  short : x.votes.length ≤ maxLen ∧ x.motions.length ≤ maxLen ∧ x.knowns.length ≤ maxLen ∧ x.txs.length ≤ maxLen
  vote : ∀ s ∈ x.votes, s.ok
  motion : ∀ s ∈ x.motions, s.held w B
  known : ∀ s ∈ x.knowns, s.held w B
  tx : ∀ s ∈ x.txs, s.held w B
theorem MessageD.held.below {w w' : World} {B : Nat} {x : MessageD} (h : x.held w B) (hb : Below B w w') : x.held w' B :=
  ⟨Rd.below h.votes hb, Rd.below h.motions hb, Rd.below h.knowns hb, Rd.below h.txs hb, h.short, h.vote, fun s hs => (h.motion s hs).below hb, fun s hs => (h.known s hs).below hb, fun s hs => (h.tx s hs).below hb⟩
def messageM (x : MessageD) : Nat := 3 + (sumL voteM x.votes + 1) + (sumL motionM x.motions + 1) + (sumL knownM x.knowns + 1) + (sumL txM x.txs + 1) + 1
def Out.message (S : Out) (x : MessageD) : Out := (((((S.nums [x.f, x.t, x.h]).list x.votes 512 Out.vote).list x.motions 2 Out.motion).list x.knowns 2 Out.known).list x.txs 16 Out.tx).need (decide (1 ≤ x.f))
structure RecordD where
  k : Int
  vote : VoteD
  motion : MotionD
  known : KnownD
def RecordD.cells (x : RecordD) : List Value := [.int .i64 x.k, .int .i64 x.vote.h, .int .i64 x.vote.r, .int .i64 x.vote.s, .bool x.vote.has, .int .u64 x.vote.b, .int .i64 x.vote.f, .int .i64 x.motion.r, .int .i64 x.motion.f, .int .i64 x.motion.block.header.c, .int .i64 x.motion.block.header.h, .int .u64 x.motion.block.header.p, .int .u64 x.motion.block.header.t, .int .u64 x.motion.block.header.g, .int .u64 x.motion.block.header.s, .int .u64 x.motion.block.header.r, .int .u64 x.motion.block.header.b, .int .i64 x.motion.block.header.o, .slice x.motion.block.ta x.motion.block.txs.length x.motion.block.tc, .slice x.motion.block.ga x.motion.block.guilts.length x.motion.block.gc, .slice x.motion.ba x.motion.basis.length x.motion.bc, .int .i64 x.known.cert.h, .int .i64 x.known.cert.r, .int .i64 x.known.cert.s, .bool x.known.cert.has, .int .u64 x.known.cert.b, .slice x.known.cert.fa x.known.cert.froms.length x.known.cert.fc, .int .i64 x.known.block.header.c, .int .i64 x.known.block.header.h, .int .u64 x.known.block.header.p, .int .u64 x.known.block.header.t, .int .u64 x.known.block.header.g, .int .u64 x.known.block.header.s, .int .u64 x.known.block.header.r, .int .u64 x.known.block.header.b, .int .i64 x.known.block.header.o, .slice x.known.block.ta x.known.block.txs.length x.known.block.tc, .slice x.known.block.ga x.known.block.guilts.length x.known.block.gc]
def RecordD.val (x : RecordD) : Value := .agg #[.int .i64 x.k, .int .i64 x.vote.h, .int .i64 x.vote.r, .int .i64 x.vote.s, .bool x.vote.has, .int .u64 x.vote.b, .int .i64 x.vote.f, .int .i64 x.motion.r, .int .i64 x.motion.f, .int .i64 x.motion.block.header.c, .int .i64 x.motion.block.header.h, .int .u64 x.motion.block.header.p, .int .u64 x.motion.block.header.t, .int .u64 x.motion.block.header.g, .int .u64 x.motion.block.header.s, .int .u64 x.motion.block.header.r, .int .u64 x.motion.block.header.b, .int .i64 x.motion.block.header.o, .slice x.motion.block.ta x.motion.block.txs.length x.motion.block.tc, .slice x.motion.block.ga x.motion.block.guilts.length x.motion.block.gc, .slice x.motion.ba x.motion.basis.length x.motion.bc, .int .i64 x.known.cert.h, .int .i64 x.known.cert.r, .int .i64 x.known.cert.s, .bool x.known.cert.has, .int .u64 x.known.cert.b, .slice x.known.cert.fa x.known.cert.froms.length x.known.cert.fc, .int .i64 x.known.block.header.c, .int .i64 x.known.block.header.h, .int .u64 x.known.block.header.p, .int .u64 x.known.block.header.t, .int .u64 x.known.block.header.g, .int .u64 x.known.block.header.s, .int .u64 x.known.block.header.r, .int .u64 x.known.block.header.b, .int .i64 x.known.block.header.o, .slice x.known.block.ta x.known.block.txs.length x.known.block.tc, .slice x.known.block.ga x.known.block.guilts.length x.known.block.gc]
structure RecordD.held (w : World) (B : Nat) (x : RecordD) : Prop where
  vote : x.vote.ok
  motion : x.motion.held w B
  known : x.known.held w B
theorem RecordD.held.below {w w' : World} {B : Nat} {x : RecordD} (h : x.held w B) (hb : Below B w w') : x.held w' B := ⟨h.vote, h.motion.below hb, h.known.below hb⟩
def recordM (x : RecordD) : Nat := 1 + voteM x.vote + motionM x.motion + knownM x.known + 1
def noHeader (x : HeaderD) : Bool := decide (x.c = 0) && decide (x.h = 0) && decide (x.p = 0) && decide (x.t = 0) && decide (x.g = 0) && decide (x.s = 0) && decide (x.r = 0) && decide (x.b = 0) && decide (x.o = 0)
def noBlock (x : BlockD) : Bool := noHeader x.header && decide (x.txs.length = 0) && decide (x.guilts.length = 0)
def noCert (x : CertD) : Bool := decide (x.h = 0) && decide (x.r = 0) && decide (x.s = 0) && !x.has && decide (x.b = 0) && decide (x.froms.length = 0)
def noVote (x : VoteD) : Bool := decide (x.h = 0) && decide (x.r = 0) && decide (x.s = 0) && !x.has && decide (x.b = 0) && decide (x.f = 0)
def noMotion (x : MotionD) : Bool := decide (x.r = 0) && decide (x.f = 0) && noBlock x.block && decide (x.basis.length = 0)
def noKnown (x : KnownD) : Bool := noCert x.cert && noBlock x.block
def Out.what (S : Out) (x : RecordD) : Out := if x.k = 1 then S.vote x.vote else if x.k = 2 then S.motion x.motion else if x.k = 3 ∨ x.k = 4 then S.known x.known else S
def Out.record (S : Out) (x : RecordD) : Out := (((((S.num x.k).need (decide (1 ≤ x.k) && decide (x.k ≤ 4))).need (decide (x.k = 1) || noVote x.vote)).need (decide (x.k = 2) || noMotion x.motion)).need (decide (x.k = 3) || decide (x.k = 4) || noKnown x.known)).what x
end Go.Proofs.Ytjjkdmngmopjbaa
