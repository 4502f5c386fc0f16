/- Of the texts OpenB, OpenW, OpenV, WrV, WrB, Rec0, WrC. -/
import Derived.Test.YtjhaafbbdgjagaaGreatProg
import Derived.Test.YtjhaafbbdgjagaaGreatRows
import Derived.Test.YtjhaafbbdgjagaaGreatG35
import Derived.Test.YtjhaafbbdgjagaaGreatG27
import Derived.Test.YtjhaafbbdgjagaaGreatG28
import Derived.Test.YtjhaafbbdgjagaaGreatG29
set_option linter.unusedSimpArgs false
set_option linter.unusedVariables false
namespace Go.Proofs.YtjhaafbbdgjagaaGreat
open Go.ChangeShapes Go.WideShapes Go.ChangeAt Go.RowKit Go.Deep
theorem bulk_one {H : Type} (d : DataW H) : 1 ≤ Rows.uptoBulk d := by
 cases d with
 | lit l => cases l <;> simp [Rows.uptoBulk]
 | nil => simp [Rows.uptoBulk]
 | ptr d => simp [Rows.uptoBulk]
 | slice elems spare => simp [Rows.uptoBulk]
 | agg parts => simp [Rows.uptoBulk]
 | iface t d => simp [Rows.uptoBulk]
 | map entries => simp [Rows.uptoBulk]
 | held h => simp [Rows.uptoBulk]
theorem sumL_mul {α : Type} (c : Nat) (f g : α → Nat) (h : ∀ x, f x ≤ c * g x) (l : List α) : sumL f l ≤ c * sumL g l := by
 induction l with
 | nil => simp [sumL]
 | cons x l ih => rw [sumL_cons, sumL_cons, Nat.mul_add]; have := h x; omega
section
variable {H : Type} {enc : TypeId × Value → H} {P : Program} {W : World}
theorem open_structB {fuel : Nat} {t : TypeId} {fs : Array Field} {cs : List Value} {x : DataW H × List MemPlace} (hs : P.underlying t = some (.struct fs)) (h : DataW.trod enc P W 0 (fun _ => true) true fuel t cs = some x) :
  cs.length = P.cellsOf t ∧ ∃ (n : Nat) (xs : List (DataW H × List MemPlace)), x.1 = .agg (xs.map (·.1)) ∧ xs.length = fs.size ∧ ∀ (j : Nat) (f : Field), fs[j]? = some f → DataW.trod enc P W 0 (fun _ => true) true n f.type ((cs.drop f.offset).take (P.cellsOf f.type)) = xs[j]? := by
 obtain ⟨xs, n, _, hx, hlen, hyl, hg⟩ := DataW.trod_struct hs h; exact ⟨hlen, n, xs, by rw [hx], hyl, hg⟩
end
section
variable {H : Type} {enc : TypeId × Value → H} {W : World}
set_option maxRecDepth 100000 in
theorem int_trodB : ∀ fuel cs x, DataW.trod enc Tryz.prog W 0 (fun _ => true) true fuel 3 cs = some x → ∃ n, IsInt cs n ∧ 1 ≤ Rows.uptoBulk x.1 := by
 intro fuel cs x h; obtain ⟨n, hn⟩ := int_trod _ _ _ h; exact ⟨n, hn, bulk_one _⟩
set_option maxRecDepth 100000 in
theorem dig_trodB : ∀ fuel cs x, DataW.trod enc Tryz.prog W 0 (fun _ => true) true fuel 40 cs = some x → ∃ n, IsDig cs n ∧ 1 ≤ Rows.uptoBulk x.1 := by
 intro fuel cs x h; obtain ⟨n, hn⟩ := dig_trod _ _ _ h; exact ⟨n, hn, bulk_one _⟩
def IsBool (cs : List Value) (b : Bool) : Prop := cs = [.bool b] ∧ True
set_option maxRecDepth 100000 in
theorem bool_trodB : ∀ fuel cs x, DataW.trod enc Tryz.prog W 0 (fun _ => true) true fuel 4 cs = some x → ∃ b, IsBool cs b ∧ 1 ≤ Rows.uptoBulk x.1 := by
 intro fuel cs x h; obtain ⟨b, rfl, _⟩ := DataW.trod_bool Tryz.underlying4 h; exact ⟨b, ⟨rfl, trivial⟩, bulk_one _⟩
end
def voteCells (x : VoteD) : List Value := [.int .i64 x.h, .int .i64 x.r, .int .i64 x.s, .bool x.has, .int .u64 x.b, .int .i64 x.f]
def voteM (_ : VoteD) : Nat := 7
def guiltM (x : GuiltD) : Nat := voteM x.a + voteM x.b + 1
section
variable {H : Type} {enc : TypeId × Value → H} {W : World}
end
section
variable {H : Type} {enc : TypeId × Value → H} {W : World}
end
end Go.Proofs.YtjhaafbbdgjagaaGreat
namespace Go.Proofs.YtjhaafbbdgjagaaGreat
open Go.RowKit
abbrev VotesL (w : World) (B : Nat) (A : Option Addr) (l : List VoteD) : Prop := Lay 6 voteCells w B A l
theorem VotesL.at_ {w : World} {B : Nat} {A : Option Addr} {l : List VoteD} (h : VotesL w B A l) {k : Nat} (hk : k < l.length) :
  ∃ b off, A = some ⟨b, off, none⟩ ∧ b < B ∧ ∀ j u, (voteCells l[k])[j]? = some u → w.cell? ⟨b, off + k * 6 + j, none⟩ = some u := Lay.at_ (n := 6) (fun _ => rfl) (by omega) h hk
abbrev GuiltsL (w : World) (B : Nat) (A : Option Addr) (l : List GuiltD) : Prop := Lay 12 GuiltD.cells w B A l
theorem GuiltsL.at_ {w : World} {B : Nat} {A : Option Addr} {l : List GuiltD} (h : GuiltsL w B A l) {k : Nat} (hk : k < l.length) :
  ∃ b off, A = some ⟨b, off, none⟩ ∧ b < B ∧ ∀ j u, (l[k].cells)[j]? = some u → w.cell? ⟨b, off + k * 12 + j, none⟩ = some u := Lay.at_ (n := 12) (fun _ => rfl) (by omega) h hk
abbrev CertsL (w : World) (B : Nat) (A : Option Addr) (l : List CertD) : Prop := Lay 6 CertD.cells w B A l
theorem CertsL.at_ {w : World} {B : Nat} {A : Option Addr} {l : List CertD} (h : CertsL w B A l) {k : Nat} (hk : k < l.length) :
  ∃ b off, A = some ⟨b, off, none⟩ ∧ b < B ∧ ∀ j u, (l[k].cells)[j]? = some u → w.cell? ⟨b, off + k * 6 + j, none⟩ = some u := Lay.at_ (n := 6) (fun _ => rfl) (by omega) h hk
def txW (x : TxD) : Nat := 40 * txM x
theorem Out.tx_lenW (S : Out) (x : TxD) : (S.tx x).b.length ≤ S.b.length + txW x := S.tx_len x
theorem txs_W (l : List TxD) : sumL txW l ≤ 40 * sumL txM l := sumL_mul 40 txW txM (fun _ => Nat.le_refl _) l
def guiltW (_ : GuiltD) : Nat := 66
theorem Out.guilt_lenW (S : Out) (x : GuiltD) : (S.guilt x).b.length ≤ S.b.length + guiltW x := by
 have h1 := S.vote_len x.a; have h2 := (S.vote x.a).vote_len x.b; unfold Out.guilt guiltW; omega
def certW (x : CertD) : Nat := 40 * certM x
theorem Out.cert_lenW (S : Out) (x : CertD) : (S.cert x).b.length ≤ S.b.length + certW x := S.cert_len x
theorem certs_W (l : List CertD) : sumL certW l ≤ 40 * sumL certM l := sumL_mul 40 certW certM (fun _ => Nat.le_refl _) l
structure BlockD where
 header : HeaderD
 txs : List TxD
 ta : Option Addr
 tc : Nat
 guilts : List GuiltD
 ga : Option Addr
 gc : Nat
def BlockD.cells (x : BlockD) : List Value := [.int .i64 x.header.c, .int .i64 x.header.h, .int .u64 x.header.p, .int .u64 x.header.t, .int .u64 x.header.g, .int .u64 x.header.s, .int .u64 x.header.r, .int .u64 x.header.b, .int .i64 x.header.o, .slice x.ta x.txs.length x.tc, .slice x.ga x.guilts.length x.gc]
def BlockD.val (x : BlockD) : Value := .agg #[.int .i64 x.header.c, .int .i64 x.header.h, .int .u64 x.header.p, .int .u64 x.header.t, .int .u64 x.header.g, .int .u64 x.header.s, .int .u64 x.header.r, .int .u64 x.header.b, .int .i64 x.header.o, .slice x.ta x.txs.length x.tc, .slice x.ga x.guilts.length x.gc]
structure BlockD.held (w : World) (B : Nat) (x : BlockD) : Prop where
 header : x.header.ok
 txs : TxsL w B x.ta x.txs
 guilts : GuiltsL w B x.ga x.guilts
 short : x.txs.length ≤ maxLen ∧ x.guilts.length ≤ maxLen
 tx : ∀ s ∈ x.txs, s.held w B
 guilt : ∀ s ∈ x.guilts, s.ok
theorem BlockD.held.below {w w' : World} {B : Nat} {x : BlockD} (h : x.held w B) (hb : Below B w w') : x.held w' B :=
 ⟨h.header, Rd.below h.txs hb, Rd.below h.guilts hb, h.short, fun s hs => (h.tx s hs).below hb, h.guilt⟩
def blockM (x : BlockD) : Nat := headerM x.header + (sumL txM x.txs + 1) + (sumL guiltM x.guilts + 1) + 1
def Out.block (S : Out) (x : BlockD) : Out := ((S.header x.header).list x.txs 16 Out.tx).list x.guilts 4 Out.guilt
theorem Out.block_len (S : Out) (x : BlockD) : (S.block x).b.length ≤ S.b.length + 40 * blockM x := by
 have h1 := S.header_len x.header; have h2 := list_len Out.tx txW Out.tx_lenW x.txs 16 (S.header x.header); have h3 := list_len Out.guilt guiltW Out.guilt_lenW x.guilts 4 ((S.header x.header).list x.txs 16 Out.tx); have h4 := txs_W x.txs; rw [show sumL guiltW x.guilts = 66 * x.guilts.length from sumL_const 66 x.guilts] at h3; have h5 : sumL guiltM x.guilts = 15 * x.guilts.length := sumL_const 15 x.guilts; show (((S.header x.header).list x.txs 16 Out.tx).list x.guilts 4 Out.guilt).b.length ≤ _; unfold blockM headerM; omega
structure MotionD where
 r : Int
 f : Int
 block : BlockD
 basis : List CertD
 ba : Option Addr
 bc : Nat
def MotionD.cells (x : MotionD) : List Value := [.int .i64 x.r, .int .i64 x.f, .int .i64 x.block.header.c, .int .i64 x.block.header.h, .int .u64 x.block.header.p, .int .u64 x.block.header.t, .int .u64 x.block.header.g, .int .u64 x.block.header.s, .int .u64 x.block.header.r, .int .u64 x.block.header.b, .int .i64 x.block.header.o, .slice x.block.ta x.block.txs.length x.block.tc, .slice x.block.ga x.block.guilts.length x.block.gc, .slice x.ba x.basis.length x.bc]
def MotionD.val (x : MotionD) : Value := .agg #[.int .i64 x.r, .int .i64 x.f, .int .i64 x.block.header.c, .int .i64 x.block.header.h, .int .u64 x.block.header.p, .int .u64 x.block.header.t, .int .u64 x.block.header.g, .int .u64 x.block.header.s, .int .u64 x.block.header.r, .int .u64 x.block.header.b, .int .i64 x.block.header.o, .slice x.block.ta x.block.txs.length x.block.tc, .slice x.block.ga x.block.guilts.length x.block.gc, .slice x.ba x.basis.length x.bc]
structure MotionD.held (w : World) (B : Nat) (x : MotionD) : Prop where
 block : x.block.held w B
 basis : CertsL w B x.ba x.basis
 short : x.basis.length ≤ maxLen
 cert : ∀ s ∈ x.basis, s.held w B
theorem MotionD.held.below {w w' : World} {B : Nat} {x : MotionD} (h : x.held w B) (hb : Below B w w') : x.held w' B :=
 ⟨h.block.below hb, Rd.below h.basis hb, h.short, fun s hs => (h.cert s hs).below hb⟩
def motionM (x : MotionD) : Nat := 2 + blockM x.block + (sumL certM x.basis + 1) + 1
def Out.motion (S : Out) (x : MotionD) : Out := (((S.nums [x.r, x.f]).block x.block).list x.basis 1 Out.cert).need (decide (1 ≤ x.f))
theorem Out.motion_len (S : Out) (x : MotionD) : (S.motion x).b.length ≤ S.b.length + 40 * motionM x := by
 have h1 := S.nums_len [x.r, x.f]; have h2 := (S.nums [x.r, x.f]).block_len x.block; have h3 := list_len Out.cert certW Out.cert_lenW x.basis 1 ((S.nums [x.r, x.f]).block x.block); have h4 := certs_W x.basis; simp at h1; show (((S.nums [x.r, x.f]).block x.block).list x.basis 1 Out.cert).b.length ≤ _; unfold motionM; omega
structure KnownD where
 cert : CertD
 block : BlockD
def KnownD.cells (x : KnownD) : List Value := [.int .i64 x.cert.h, .int .i64 x.cert.r, .int .i64 x.cert.s, .bool x.cert.has, .int .u64 x.cert.b, .slice x.cert.fa x.cert.froms.length x.cert.fc, .int .i64 x.block.header.c, .int .i64 x.block.header.h, .int .u64 x.block.header.p, .int .u64 x.block.header.t, .int .u64 x.block.header.g, .int .u64 x.block.header.s, .int .u64 x.block.header.r, .int .u64 x.block.header.b, .int .i64 x.block.header.o, .slice x.block.ta x.block.txs.length x.block.tc, .slice x.block.ga x.block.guilts.length x.block.gc]
def KnownD.val (x : KnownD) : Value := .agg #[.int .i64 x.cert.h, .int .i64 x.cert.r, .int .i64 x.cert.s, .bool x.cert.has, .int .u64 x.cert.b, .slice x.cert.fa x.cert.froms.length x.cert.fc, .int .i64 x.block.header.c, .int .i64 x.block.header.h, .int .u64 x.block.header.p, .int .u64 x.block.header.t, .int .u64 x.block.header.g, .int .u64 x.block.header.s, .int .u64 x.block.header.r, .int .u64 x.block.header.b, .int .i64 x.block.header.o, .slice x.block.ta x.block.txs.length x.block.tc, .slice x.block.ga x.block.guilts.length x.block.gc]
structure KnownD.held (w : World) (B : Nat) (x : KnownD) : Prop where
 cert : x.cert.held w B
 block : x.block.held w B
theorem KnownD.held.below {w w' : World} {B : Nat} {x : KnownD} (h : x.held w B) (hb : Below B w w') : x.held w' B := ⟨h.cert.below hb, h.block.below hb⟩
def knownM (x : KnownD) : Nat := certM x.cert + blockM x.block + 1
def Out.known (S : Out) (x : KnownD) : Out := (S.cert x.cert).block x.block
theorem Out.known_len (S : Out) (x : KnownD) : (S.known x).b.length ≤ S.b.length + 40 * knownM x := by
 have h1 := S.cert_len x.cert; have h2 := (S.cert x.cert).block_len x.block; unfold Out.known knownM; omega
abbrev MotionsL (w : World) (B : Nat) (A : Option Addr) (l : List MotionD) : Prop := Lay 14 MotionD.cells w B A l
theorem MotionsL.at_ {w : World} {B : Nat} {A : Option Addr} {l : List MotionD} (h : MotionsL w B A l) {k : Nat} (hk : k < l.length) :
  ∃ b off, A = some ⟨b, off, none⟩ ∧ b < B ∧ ∀ j u, (l[k].cells)[j]? = some u → w.cell? ⟨b, off + k * 14 + j, none⟩ = some u := Lay.at_ (n := 14) (fun _ => rfl) (by omega) h hk
abbrev KnownsL (w : World) (B : Nat) (A : Option Addr) (l : List KnownD) : Prop := Lay 17 KnownD.cells w B A l
theorem KnownsL.at_ {w : World} {B : Nat} {A : Option Addr} {l : List KnownD} (h : KnownsL w B A l) {k : Nat} (hk : k < l.length) :
  ∃ b off, A = some ⟨b, off, none⟩ ∧ b < B ∧ ∀ j u, (l[k].cells)[j]? = some u → w.cell? ⟨b, off + k * 17 + j, none⟩ = some u := Lay.at_ (n := 17) (fun _ => rfl) (by omega) h hk
structure MessageD where
 f : Int
 t : Int
 h : Int
 votes : List VoteD
 va : Option Addr
 vc : Nat
 motions : List MotionD
 ma : Option Addr
 mc : Nat
 knowns : List KnownD
 ka : Option Addr
 kc : Nat
 txs : List TxD
 xa : Option Addr
 xc : Nat
def MessageD.cells (x : MessageD) : List Value := [.int .i64 x.f, .int .i64 x.t, .int .i64 x.h, .slice x.va x.votes.length x.vc, .slice x.ma x.motions.length x.mc, .slice x.ka x.knowns.length x.kc, .slice x.xa x.txs.length x.xc]
def MessageD.val (x : MessageD) : Value := .agg #[.int .i64 x.f, .int .i64 x.t, .int .i64 x.h, .slice x.va x.votes.length x.vc, .slice x.ma x.motions.length x.mc, .slice x.ka x.knowns.length x.kc, .slice x.xa x.txs.length x.xc]
structure MessageD.held (w : World) (B : Nat) (x : MessageD) : Prop where
 votes : VotesL w B x.va x.votes
 motions : MotionsL w B x.ma x.motions
 knowns : KnownsL w B x.ka x.knowns
 txs : TxsL w B x.xa x.txs
 short : x.votes.length ≤ maxLen ∧ x.motions.length ≤ maxLen ∧ x.knowns.length ≤ maxLen ∧ x.txs.length ≤ maxLen
 vote : ∀ s ∈ x.votes, s.ok
 motion : ∀ s ∈ x.motions, s.held w B
 known : ∀ s ∈ x.knowns, s.held w B
 tx : ∀ s ∈ x.txs, s.held w B
theorem MessageD.held.below {w w' : World} {B : Nat} {x : MessageD} (h : x.held w B) (hb : Below B w w') : x.held w' B :=
 ⟨Rd.below h.votes hb, Rd.below h.motions hb, Rd.below h.knowns hb, Rd.below h.txs hb, h.short, h.vote, fun s hs => (h.motion s hs).below hb, fun s hs => (h.known s hs).below hb, fun s hs => (h.tx s hs).below hb⟩
structure RecordD where
 k : Int
 vote : VoteD
 motion : MotionD
 known : KnownD
def RecordD.cells (x : RecordD) : List Value := [.int .i64 x.k, .int .i64 x.vote.h, .int .i64 x.vote.r, .int .i64 x.vote.s, .bool x.vote.has, .int .u64 x.vote.b, .int .i64 x.vote.f, .int .i64 x.motion.r, .int .i64 x.motion.f, .int .i64 x.motion.block.header.c, .int .i64 x.motion.block.header.h, .int .u64 x.motion.block.header.p, .int .u64 x.motion.block.header.t, .int .u64 x.motion.block.header.g, .int .u64 x.motion.block.header.s, .int .u64 x.motion.block.header.r, .int .u64 x.motion.block.header.b, .int .i64 x.motion.block.header.o, .slice x.motion.block.ta x.motion.block.txs.length x.motion.block.tc, .slice x.motion.block.ga x.motion.block.guilts.length x.motion.block.gc, .slice x.motion.ba x.motion.basis.length x.motion.bc, .int .i64 x.known.cert.h, .int .i64 x.known.cert.r, .int .i64 x.known.cert.s, .bool x.known.cert.has, .int .u64 x.known.cert.b, .slice x.known.cert.fa x.known.cert.froms.length x.known.cert.fc, .int .i64 x.known.block.header.c, .int .i64 x.known.block.header.h, .int .u64 x.known.block.header.p, .int .u64 x.known.block.header.t, .int .u64 x.known.block.header.g, .int .u64 x.known.block.header.s, .int .u64 x.known.block.header.r, .int .u64 x.known.block.header.b, .int .i64 x.known.block.header.o, .slice x.known.block.ta x.known.block.txs.length x.known.block.tc, .slice x.known.block.ga x.known.block.guilts.length x.known.block.gc]
def RecordD.val (x : RecordD) : Value := .agg #[.int .i64 x.k, .int .i64 x.vote.h, .int .i64 x.vote.r, .int .i64 x.vote.s, .bool x.vote.has, .int .u64 x.vote.b, .int .i64 x.vote.f, .int .i64 x.motion.r, .int .i64 x.motion.f, .int .i64 x.motion.block.header.c, .int .i64 x.motion.block.header.h, .int .u64 x.motion.block.header.p, .int .u64 x.motion.block.header.t, .int .u64 x.motion.block.header.g, .int .u64 x.motion.block.header.s, .int .u64 x.motion.block.header.r, .int .u64 x.motion.block.header.b, .int .i64 x.motion.block.header.o, .slice x.motion.block.ta x.motion.block.txs.length x.motion.block.tc, .slice x.motion.block.ga x.motion.block.guilts.length x.motion.block.gc, .slice x.motion.ba x.motion.basis.length x.motion.bc, .int .i64 x.known.cert.h, .int .i64 x.known.cert.r, .int .i64 x.known.cert.s, .bool x.known.cert.has, .int .u64 x.known.cert.b, .slice x.known.cert.fa x.known.cert.froms.length x.known.cert.fc, .int .i64 x.known.block.header.c, .int .i64 x.known.block.header.h, .int .u64 x.known.block.header.p, .int .u64 x.known.block.header.t, .int .u64 x.known.block.header.g, .int .u64 x.known.block.header.s, .int .u64 x.known.block.header.r, .int .u64 x.known.block.header.b, .int .i64 x.known.block.header.o, .slice x.known.block.ta x.known.block.txs.length x.known.block.tc, .slice x.known.block.ga x.known.block.guilts.length x.known.block.gc]
structure RecordD.held (w : World) (B : Nat) (x : RecordD) : Prop where
 vote : x.vote.ok
 motion : x.motion.held w B
 known : x.known.held w B
theorem RecordD.held.below {w w' : World} {B : Nat} {x : RecordD} (h : x.held w B) (hb : Below B w w') : x.held w' B := ⟨h.vote, h.motion.below hb, h.known.below hb⟩
def recordM (x : RecordD) : Nat := 1 + voteM x.vote + motionM x.motion + knownM x.known + 1
def noHeader (x : HeaderD) : Bool := decide (x.c = 0) && decide (x.h = 0) && decide (x.p = 0) && decide (x.t = 0) && decide (x.g = 0) && decide (x.s = 0) && decide (x.r = 0) && decide (x.b = 0) && decide (x.o = 0)
def noBlock (x : BlockD) : Bool := noHeader x.header && decide (x.txs.length = 0) && decide (x.guilts.length = 0)
def noCert (x : CertD) : Bool := decide (x.h = 0) && decide (x.r = 0) && decide (x.s = 0) && !x.has && decide (x.b = 0) && decide (x.froms.length = 0)
def noVote (x : VoteD) : Bool := decide (x.h = 0) && decide (x.r = 0) && decide (x.s = 0) && !x.has && decide (x.b = 0) && decide (x.f = 0)
def noMotion (x : MotionD) : Bool := decide (x.r = 0) && decide (x.f = 0) && noBlock x.block && decide (x.basis.length = 0)
def noKnown (x : KnownD) : Bool := noCert x.cert && noBlock x.block
def Out.what (S : Out) (x : RecordD) : Out := if x.k = 1 then S.vote x.vote else if x.k = 2 then S.motion x.motion else if x.k = 3 ∨ x.k = 4 then S.known x.known else S
def Out.record (S : Out) (x : RecordD) : Out := (((((S.num x.k).need (decide (1 ≤ x.k) && decide (x.k ≤ 4))).need (decide (x.k = 1) || noVote x.vote)).need (decide (x.k = 2) || noMotion x.motion)).need (decide (x.k = 3) || decide (x.k = 4) || noKnown x.known)).what x
set_option maxRecDepth 100000 in
set_option maxHeartbeats 1000000 in
theorem putsTx_any (l : List TxD) (A : Option Addr) (c B : Nat) (m : Int) (w : World) (g : Nat) (S : Out) (h : Wrt w g S) (hr : TxsL w B A l) (hB : B ≤ g) (hd : ∀ x ∈ l, x.held w B) (hl : S.b.length + 6 + sumL txW l ≤ 58999999960000) (hm : l.length ≤ maxLen) :
    Calls Tryz.prog 249 #[.pointer (some ⟨g, 0, none⟩), .slice A l.length c, .int .i64 m, .func (.func 103) #[] #[]] w fun e w' => e = .returned (.tuple #[]) ∧ Wrt w' g (S.list l m Out.tx) ∧ Turned w w' g := by
  unfold maxLen at hm
  have hgt := h.lt
  have hn := ((S.lim l.length m).num_len l.length)
  have hb0 : (S.lim l.length m).b.length = S.b.length := rfl
  have hE : Hid (S.list l m Out.tx = l.foldl Out.tx ((S.lim l.length m).num l.length)) := rfl
  go_enter Tryz.func249, Tryz.ntmps249
  go_wp2_with fail
  refine (limited_any _ _ _ g _ h).mono ?_
  rintro e w1 ⟨rfl, hW1, hT1⟩
  go_wp2_with fail
  refine (number_any _ _ g _ hW1 (by omega)).mono ?_
  rintro e w2 ⟨rfl, hW2, hT2⟩
  have hT02 := hT1.trans hT2
  clear hT1 hT2 hW1
  generalize (S.lim l.length m).num l.length = S2 at *
  go_wp2_with fail
  go_loopw [9, 21] (fun _ i wr => ∃ j : Nat, i = .int .i64 (j : Int) ∧ j ≤ l.length ∧ Wrt wr g ((l.take j).foldl Out.tx S2) ∧ Turned w wr g) (fun _ i _ => l.length - (intOf i).toNat)
  case atStart => exact ⟨0, rfl, by omega, by simpa using hW2, hT02⟩
  case round =>
   as_aux_lemma =>
    obtain ⟨j, rfl, hj, hW, hT⟩ := hrel
    have hgw := hW.lt
    by_cases hlt : j < l.length
    · as_aux_lemma =>
      have hji : (j : Int) < (l.length : Int) := by omega
      obtain ⟨b, off, rfl, hbB, hc⟩ := TxsL.at_ (hT.rd hr hB) hlt
      have HS := Lib.hid (fold_take Out.tx S2 l j hlt)
      have hle := fold_len Out.tx txW Out.tx_lenW (l.take j) S2
      have hle2 := sumL_take txW l j hlt
      have hx := (hd l[j] (List.getElem_mem hlt)).below (hT.low.mono hB)
      generalize hxx : l[j] = x at *
      clear hxx
      have c0 : wr.cell? ⟨b, off + j * 11, none⟩ = some (.int .i64 x.k) := hc 0 _ rfl
      have c1 : wr.cell? ⟨b, off + j * 11 + 1, none⟩ = some (.int .i64 x.f) := hc 1 _ rfl
      have c2 : wr.cell? ⟨b, off + j * 11 + 2, none⟩ = some (.int .i64 x.n) := hc 2 _ rfl
      have c3 : wr.cell? ⟨b, off + j * 11 + 3, none⟩ = some (.int .i64 x.p) := hc 3 _ rfl
      have c4 : wr.cell? ⟨b, off + j * 11 + 4, none⟩ = some (.int .i64 x.l) := hc 4 _ rfl
      have c5 : wr.cell? ⟨b, off + j * 11 + 5, none⟩ = some (.int .i64 x.t) := hc 5 _ rfl
      have c6 : wr.cell? ⟨b, off + j * 11 + 6, none⟩ = some (.int .i64 x.a) := hc 6 _ rfl
      have c7 : wr.cell? ⟨b, off + j * 11 + 7, none⟩ = some (.string (bs x.text)) := hc 7 _ rfl
      have c8 : wr.cell? ⟨b, off + j * 11 + 8, none⟩ = some (.slice x.aa x.args.length x.ac) := hc 8 _ rfl
      have c9 : wr.cell? ⟨b, off + j * 11 + 9, none⟩ = some (.slice x.sa x.sights.length x.sc) := hc 9 _ rfl
      have c10 : wr.cell? ⟨b, off + j * 11 + 10, none⟩ = some (.slice x.pa x.proofs.length x.pc) := hc 10 _ rfl
      clear hc
      go_wp2_with fail
      refine (wtx_any x B _ g _ (hW.alloc _) (by unfold txW at *; omega) (hx.below ((Below.refl B wr).alloc (by omega) _)) hB).mono ?_
      rintro e w3 ⟨rfl, hW3, hT3⟩
      go_wp2_with fail
      go_roundw
      case rel => exact ⟨j + 1, by go_num, by omega, by rw [HS.out]; exact hW3, (hT.alloc (Nat.le_of_lt hgw) _).trans hT3⟩
      case measure => simp [intOf]; omega
    · have hji : ¬ (j : Int) < (l.length : Int) := by omega
      go_wp2
      go_end0
      rw [List.take_of_length_le (by omega)] at hW
      exact ⟨rfl, by rw [hE.out]; exact hW, hT⟩
set_option maxRecDepth 100000 in
set_option maxHeartbeats 1000000 in
theorem putsGuilt_any (l : List GuiltD) (A : Option Addr) (c B : Nat) (m : Int) (w : World) (g : Nat) (S : Out) (h : Wrt w g S) (hr : GuiltsL w B A l) (hB : B ≤ g) (hd : ∀ x ∈ l, x.ok) (hl : S.b.length + 6 + sumL guiltW l ≤ 58999999960000) (hm : l.length ≤ maxLen) :
    Calls Tryz.prog 250 #[.pointer (some ⟨g, 0, none⟩), .slice A l.length c, .int .i64 m, .func (.func 109) #[] #[]] w fun e w' => e = .returned (.tuple #[]) ∧ Wrt w' g (S.list l m Out.guilt) ∧ Turned w w' g := by
  unfold maxLen at hm
  have hgt := h.lt
  have hn := ((S.lim l.length m).num_len l.length)
  have hb0 : (S.lim l.length m).b.length = S.b.length := rfl
  have hE : Hid (S.list l m Out.guilt = l.foldl Out.guilt ((S.lim l.length m).num l.length)) := rfl
  go_enter Tryz.func250, Tryz.ntmps250
  go_wp2_with fail
  refine (limited_any _ _ _ g _ h).mono ?_
  rintro e w1 ⟨rfl, hW1, hT1⟩
  go_wp2_with fail
  refine (number_any _ _ g _ hW1 (by omega)).mono ?_
  rintro e w2 ⟨rfl, hW2, hT2⟩
  have hT02 := hT1.trans hT2
  clear hT1 hT2 hW1
  generalize (S.lim l.length m).num l.length = S2 at *
  go_wp2_with fail
  go_loopw [9, 21] (fun _ i wr => ∃ j : Nat, i = .int .i64 (j : Int) ∧ j ≤ l.length ∧ Wrt wr g ((l.take j).foldl Out.guilt S2) ∧ Turned w wr g) (fun _ i _ => l.length - (intOf i).toNat)
  case atStart => exact ⟨0, rfl, by omega, by simpa using hW2, hT02⟩
  case round =>
   as_aux_lemma =>
    obtain ⟨j, rfl, hj, hW, hT⟩ := hrel
    have hgw := hW.lt
    by_cases hlt : j < l.length
    · as_aux_lemma =>
      have hji : (j : Int) < (l.length : Int) := by omega
      obtain ⟨b, off, rfl, hbB, hc⟩ := GuiltsL.at_ (hT.rd hr hB) hlt
      have HS := Lib.hid (fold_take Out.guilt S2 l j hlt)
      have hle := fold_len Out.guilt guiltW Out.guilt_lenW (l.take j) S2
      have hle2 := sumL_take guiltW l j hlt
      have hx := (hd l[j] (List.getElem_mem hlt))
      generalize hxx : l[j] = x at *
      clear hxx
      have c0 : wr.cell? ⟨b, off + j * 12, none⟩ = some (.int .i64 x.a.h) := hc 0 _ rfl
      have c1 : wr.cell? ⟨b, off + j * 12 + 1, none⟩ = some (.int .i64 x.a.r) := hc 1 _ rfl
      have c2 : wr.cell? ⟨b, off + j * 12 + 2, none⟩ = some (.int .i64 x.a.s) := hc 2 _ rfl
      have c3 : wr.cell? ⟨b, off + j * 12 + 3, none⟩ = some (.bool x.a.has) := hc 3 _ rfl
      have c4 : wr.cell? ⟨b, off + j * 12 + 4, none⟩ = some (.int .u64 x.a.b) := hc 4 _ rfl
      have c5 : wr.cell? ⟨b, off + j * 12 + 5, none⟩ = some (.int .i64 x.a.f) := hc 5 _ rfl
      have c6 : wr.cell? ⟨b, off + j * 12 + 6, none⟩ = some (.int .i64 x.b.h) := hc 6 _ rfl
      have c7 : wr.cell? ⟨b, off + j * 12 + 7, none⟩ = some (.int .i64 x.b.r) := hc 7 _ rfl
      have c8 : wr.cell? ⟨b, off + j * 12 + 8, none⟩ = some (.int .i64 x.b.s) := hc 8 _ rfl
      have c9 : wr.cell? ⟨b, off + j * 12 + 9, none⟩ = some (.bool x.b.has) := hc 9 _ rfl
      have c10 : wr.cell? ⟨b, off + j * 12 + 10, none⟩ = some (.int .u64 x.b.b) := hc 10 _ rfl
      have c11 : wr.cell? ⟨b, off + j * 12 + 11, none⟩ = some (.int .i64 x.b.f) := hc 11 _ rfl
      clear hc
      go_wp2_with fail
      refine (wguilt_any x hx _ g _ (hW.alloc _) (by unfold guiltW at *; omega)).mono ?_
      rintro e w3 ⟨rfl, hW3, hT3⟩
      go_wp2_with fail
      go_roundw
      case rel => exact ⟨j + 1, by go_num, by omega, by rw [HS.out]; exact hW3, (hT.alloc (Nat.le_of_lt hgw) _).trans hT3⟩
      case measure => simp [intOf]; omega
    · have hji : ¬ (j : Int) < (l.length : Int) := by omega
      go_wp2
      go_end0
      rw [List.take_of_length_le (by omega)] at hW
      exact ⟨rfl, by rw [hE.out]; exact hW, hT⟩
set_option maxRecDepth 100000 in
set_option maxHeartbeats 1000000 in
theorem putsCert_any (l : List CertD) (A : Option Addr) (c B : Nat) (m : Int) (w : World) (g : Nat) (S : Out) (h : Wrt w g S) (hr : CertsL w B A l) (hB : B ≤ g) (hd : ∀ x ∈ l, x.held w B) (hl : S.b.length + 6 + sumL certW l ≤ 58999999960000) (hm : l.length ≤ maxLen) :
    Calls Tryz.prog 269 #[.pointer (some ⟨g, 0, none⟩), .slice A l.length c, .int .i64 m, .func (.func 79) #[] #[]] w fun e w' => e = .returned (.tuple #[]) ∧ Wrt w' g (S.list l m Out.cert) ∧ Turned w w' g := by
  unfold maxLen at hm
  have hgt := h.lt
  have hn := ((S.lim l.length m).num_len l.length)
  have hb0 : (S.lim l.length m).b.length = S.b.length := rfl
  have hE : Hid (S.list l m Out.cert = l.foldl Out.cert ((S.lim l.length m).num l.length)) := rfl
  go_enter Tryz.func269, Tryz.ntmps269
  go_wp2_with fail
  refine (limited_any _ _ _ g _ h).mono ?_
  rintro e w1 ⟨rfl, hW1, hT1⟩
  go_wp2_with fail
  refine (number_any _ _ g _ hW1 (by omega)).mono ?_
  rintro e w2 ⟨rfl, hW2, hT2⟩
  have hT02 := hT1.trans hT2
  clear hT1 hT2 hW1
  generalize (S.lim l.length m).num l.length = S2 at *
  go_wp2_with fail
  go_loopw [9, 21] (fun _ i wr => ∃ j : Nat, i = .int .i64 (j : Int) ∧ j ≤ l.length ∧ Wrt wr g ((l.take j).foldl Out.cert S2) ∧ Turned w wr g) (fun _ i _ => l.length - (intOf i).toNat)
  case atStart => exact ⟨0, rfl, by omega, by simpa using hW2, hT02⟩
  case round =>
   as_aux_lemma =>
    obtain ⟨j, rfl, hj, hW, hT⟩ := hrel
    have hgw := hW.lt
    by_cases hlt : j < l.length
    · as_aux_lemma =>
      have hji : (j : Int) < (l.length : Int) := by omega
      obtain ⟨b, off, rfl, hbB, hc⟩ := CertsL.at_ (hT.rd hr hB) hlt
      have HS := Lib.hid (fold_take Out.cert S2 l j hlt)
      have hle := fold_len Out.cert certW Out.cert_lenW (l.take j) S2
      have hle2 := sumL_take certW l j hlt
      have hx := (hd l[j] (List.getElem_mem hlt)).below (hT.low.mono hB)
      generalize hxx : l[j] = x at *
      clear hxx
      have c0 : wr.cell? ⟨b, off + j * 6, none⟩ = some (.int .i64 x.h) := hc 0 _ rfl
      have c1 : wr.cell? ⟨b, off + j * 6 + 1, none⟩ = some (.int .i64 x.r) := hc 1 _ rfl
      have c2 : wr.cell? ⟨b, off + j * 6 + 2, none⟩ = some (.int .i64 x.s) := hc 2 _ rfl
      have c3 : wr.cell? ⟨b, off + j * 6 + 3, none⟩ = some (.bool x.has) := hc 3 _ rfl
      have c4 : wr.cell? ⟨b, off + j * 6 + 4, none⟩ = some (.int .u64 x.b) := hc 4 _ rfl
      have c5 : wr.cell? ⟨b, off + j * 6 + 5, none⟩ = some (.slice x.fa x.froms.length x.fc) := hc 5 _ rfl
      clear hc
      go_wp2_with fail
      refine (wcert_any x B _ g _ (hW.alloc _) (by unfold certW at *; omega) (hx.below ((Below.refl B wr).alloc (by omega) _)) hB).mono ?_
      rintro e w3 ⟨rfl, hW3, hT3⟩
      go_wp2_with fail
      go_roundw
      case rel => exact ⟨j + 1, by go_num, by omega, by rw [HS.out]; exact hW3, (hT.alloc (Nat.le_of_lt hgw) _).trans hT3⟩
      case measure => simp [intOf]; omega
    · have hji : ¬ (j : Int) < (l.length : Int) := by omega
      go_wp2
      go_end0
      rw [List.take_of_length_le (by omega)] at hW
      exact ⟨rfl, by rw [hE.out]; exact hW, hT⟩
set_option maxRecDepth 100000 in
set_option maxHeartbeats 1000000 in
theorem wblock_any (x : BlockD) (B : Nat) (w : World) (g : Nat) (S : Out) (h : Wrt w g S) (hl : S.b.length + 40 * blockM x ≤ 58999999950000) (hx : x.held w B) (hB : B ≤ g) :
  Calls Tryz.prog 193 #[.pointer (some ⟨g, 0, none⟩), x.val] w fun e w' => e = .returned (.tuple #[]) ∧ Wrt w' g (S.block x) ∧ Turned w w' g := by
 have hgt := h.lt; have hE : Hid (S.block x = ((S.header x.header).list x.txs 16 Out.tx).list x.guilts 4 Out.guilt) := rfl; obtain ⟨⟨h1, h2, h3, h4, h5, h6, h7, h8, h9⟩, ts, tA, tc, gs, gA, gc⟩ := x; simp only [blockM, headerM] at hl
 try dsimp only at hl
 obtain ⟨hxh, hxt, hxg, ⟨hs0, hs1⟩, hxq, hxo⟩ := hx; dsimp only at hxh hxt hxg hs0 hs1 hxq hxo; have hsw1 := txs_W ts; have hsw2 : sumL guiltW gs = 66 * gs.length := sumL_const 66 gs; have hsw3 : sumL guiltM gs = 15 * gs.length := sumL_const 15 gs; dsimp only [BlockD.val]; go_enter Tryz.func193, Tryz.ntmps193; go_wp2_with fail; refine (wheader_any ⟨h1, h2, h3, h4, h5, h6, h7, h8, h9⟩ hxh _ g _ (h.alloc _) (by omega)).mono ?_; rintro e w1 ⟨rfl, hW1, hC1⟩; have hB1 := hC1.blk (Blk.new _ _ _) (by omega) (by decide); have hT1 := ((Turned.refl w g).alloc (by omega) _).trans hC1; have hlt1 := hB1.lt; have hgl1 := hW1.lt; have ll1 := S.header_len ⟨h1, h2, h3, h4, h5, h6, h7, h8, h9⟩; generalize S.header ⟨h1, h2, h3, h4, h5, h6, h7, h8, h9⟩ = S1 at *; have c1_0 := hB1.c 0 rfl; have c1_1 := hB1.c 1 rfl; have c1_2 := hB1.c 2 rfl; have c1_3 := hB1.c 3 rfl; have c1_4 := hB1.c 4 rfl; have c1_5 := hB1.c 5 rfl; have c1_6 := hB1.c 6 rfl; have c1_7 := hB1.c 7 rfl; have c1_8 := hB1.c 8 rfl; have c1_9 := hB1.c 9 rfl; have c1_10 := hB1.c 10 rfl; go_wp2_with fail; refine (putsTx_any ts tA tc B 16 _ g _ hW1 (hT1.rd hxt hB) hB (fun y hy => (hxq y hy).below (hT1.low.mono hB)) (by omega) hs0).mono ?_; rintro e w2 ⟨rfl, hW2, hC2⟩; have hB2 := hC2.blk hB1 (by omega) (by decide); have hT2 := hT1.trans hC2; have hlt2 := hB2.lt; have hgl2 := hW2.lt; have ll2 := list_len Out.tx txW Out.tx_lenW ts 16 S1; generalize S1.list ts 16 Out.tx = S2 at *; have c2_0 := hB2.c 0 rfl; have c2_1 := hB2.c 1 rfl; have c2_2 := hB2.c 2 rfl; have c2_3 := hB2.c 3 rfl; have c2_4 := hB2.c 4 rfl; have c2_5 := hB2.c 5 rfl; have c2_6 := hB2.c 6 rfl; have c2_7 := hB2.c 7 rfl; have c2_8 := hB2.c 8 rfl; have c2_9 := hB2.c 9 rfl; have c2_10 := hB2.c 10 rfl; go_wp2_with fail; refine (putsGuilt_any gs gA gc B 4 _ g _ hW2 (hT2.rd hxg hB) hB hxo (by omega) hs1).mono ?_; rintro e w3 ⟨rfl, hW3, hC3⟩; have hB3 := hC3.blk hB2 (by omega) (by decide); have hT3 := hT2.trans hC3
 have hlt3 := hB3.lt; have hgl3 := hW3.lt; generalize S2.list gs 4 Out.guilt = S3 at *; go_wp2_with fail
 go_end0
 exact ⟨rfl, Wrt.eq hW3 (by rw [hE.out] <;> rfl), hT3⟩
set_option maxRecDepth 100000 in
set_option maxHeartbeats 1000000 in
theorem wmotion_any (x : MotionD) (B : Nat) (w : World) (g : Nat) (S : Out) (h : Wrt w g S) (hl : S.b.length + 40 * motionM x ≤ 58999999945000) (hx : x.held w B) (hB : B ≤ g) :
  Calls Tryz.prog 239 #[.pointer (some ⟨g, 0, none⟩), x.val] w fun e w' => e = .returned (.tuple #[]) ∧ Wrt w' g (S.motion x) ∧ Turned w w' g := by
 have hgt := h.lt; have hE : Hid (S.motion x = (((S.nums [x.r, x.f]).block x.block).list x.basis 1 Out.cert).need (decide (1 ≤ x.f))) := rfl; obtain ⟨x1, x2, ⟨⟨h1, h2, h3, h4, h5, h6, h7, h8, h9⟩, ts, tA, tc, gs, gA, gc⟩, bl, bA, bc⟩ := x; simp only [motionM] at hl
 try dsimp only at hl
 obtain ⟨hxb, hxr, hs0, hxq⟩ := hx; dsimp only at hxb hxr hs0 hxq; have hsw1 := certs_W bl; dsimp only [MotionD.val]; go_enter Tryz.func239, Tryz.ntmps239; go_wp2_with fail; have ll1 := S.nums_len [x1, x2]; simp only [List.length_cons, List.length_nil] at ll1; refine (numbers_any [x1, x2] 2 _ g (w.heap.size + 1) S ((h.alloc _).alloc _) (by have hN := Blk.new (w.alloc (.cells #[.int .i64 x1, .int .i64 x2, .int .i64 h1, .int .i64 h2, .int .u64 h3, .int .u64 h4, .int .u64 h5, .int .u64 h6, .int .u64 h7, .int .u64 h8, .int .i64 h9, .slice tA ts.length tc, .slice gA gs.length gc, .slice bA bl.length bc] 59)) 3 #[.int .i64 x1, .int .i64 x2]; simpa using hN) (by omega) (by simp; omega)).mono ?_; rintro e w1 ⟨rfl, hW1, hC1⟩; have hB1 := hC1.blk ((Blk.new _ _ _).alloc _) (by omega) (by decide); have hT1 := (((Turned.refl w g).alloc (by omega) _).alloc (by simp; omega) _).trans hC1; have hlt1 := hB1.lt; have hgl1 := hW1.lt; generalize S.nums [x1, x2] = S1 at *; have c1_0 := hB1.c 0 rfl; have c1_1 := hB1.c 1 rfl; have c1_2 := hB1.c 2 rfl; have c1_3 := hB1.c 3 rfl; have c1_4 := hB1.c 4 rfl; have c1_5 := hB1.c 5 rfl; have c1_6 := hB1.c 6 rfl; have c1_7 := hB1.c 7 rfl; have c1_8 := hB1.c 8 rfl; have c1_9 := hB1.c 9 rfl; have c1_10 := hB1.c 10 rfl; have c1_11 := hB1.c 11 rfl; have c1_12 := hB1.c 12 rfl; have c1_13 := hB1.c 13 rfl; go_wp2_with fail; refine (wblock_any ⟨⟨h1, h2, h3, h4, h5, h6, h7, h8, h9⟩, ts, tA, tc, gs, gA, gc⟩ B _ g _ hW1 (by omega) (hxb.below (hT1.low.mono hB)) hB).mono ?_; rintro e w2 ⟨rfl, hW2, hC2⟩; have hB2 := hC2.blk hB1 (by omega) (by decide); have hT2 := hT1.trans hC2; have hlt2 := hB2.lt; have hgl2 := hW2.lt; have ll2 := S1.block_len ⟨⟨h1, h2, h3, h4, h5, h6, h7, h8, h9⟩, ts, tA, tc, gs, gA, gc⟩; generalize S1.block ⟨⟨h1, h2, h3, h4, h5, h6, h7, h8, h9⟩, ts, tA, tc, gs, gA, gc⟩ = S2 at *; have c2_0 := hB2.c 0 rfl; have c2_1 := hB2.c 1 rfl; have c2_2 := hB2.c 2 rfl
 have c2_3 := hB2.c 3 rfl; have c2_4 := hB2.c 4 rfl; have c2_5 := hB2.c 5 rfl; have c2_6 := hB2.c 6 rfl; have c2_7 := hB2.c 7 rfl; have c2_8 := hB2.c 8 rfl; have c2_9 := hB2.c 9 rfl; have c2_10 := hB2.c 10 rfl; have c2_11 := hB2.c 11 rfl; have c2_12 := hB2.c 12 rfl; have c2_13 := hB2.c 13 rfl; go_wp2_with fail; refine (putsCert_any bl bA bc B 1 _ g _ hW2 (hT2.rd hxr hB) hB (fun y hy => (hxq y hy).below (hT2.low.mono hB)) (by omega) hs0).mono ?_; rintro e w3 ⟨rfl, hW3, hC3⟩; have hB3 := hC3.blk hB2 (by omega) (by decide); have hT3 := hT2.trans hC3; have hlt3 := hB3.lt; have hgl3 := hW3.lt; have ll3 := list_len Out.cert certW Out.cert_lenW bl 1 S2; generalize S2.list bl 1 Out.cert = S3 at *; have c3_0 := hB3.c 0 rfl; have c3_1 := hB3.c 1 rfl; have c3_2 := hB3.c 2 rfl; have c3_3 := hB3.c 3 rfl; have c3_4 := hB3.c 4 rfl; have c3_5 := hB3.c 5 rfl; have c3_6 := hB3.c 6 rfl; have c3_7 := hB3.c 7 rfl; have c3_8 := hB3.c 8 rfl; have c3_9 := hB3.c 9 rfl; have c3_10 := hB3.c 10 rfl; have c3_11 := hB3.c 11 rfl; have c3_12 := hB3.c 12 rfl; have c3_13 := hB3.c 13 rfl; go_wp2_with fail
 all_goals
  refine (need_any _ _ g _ hW3).mono ?_; rintro e w4 ⟨rfl, hW4, hC4⟩; have hB4 := hC4.blk hB3 (by omega) (by decide); have hT4 := hT3.trans hC4; have hlt4 := hB4.lt; have hgl4 := hW4.lt; go_wp2_with fail
  go_end0
  exact ⟨rfl, Wrt.eq hW4 (by rw [hE.out] <;> rfl), hT4⟩
set_option maxRecDepth 100000 in
set_option maxHeartbeats 1000000 in
theorem wknown_any (x : KnownD) (B : Nat) (w : World) (g : Nat) (S : Out) (h : Wrt w g S) (hl : S.b.length + 40 * knownM x ≤ 58999999945000) (hx : x.held w B) (hB : B ≤ g) :
  Calls Tryz.prog 240 #[.pointer (some ⟨g, 0, none⟩), x.val] w fun e w' => e = .returned (.tuple #[]) ∧ Wrt w' g (S.known x) ∧ Turned w w' g := by
 have hgt := h.lt; have hE : Hid (S.known x = (S.cert x.cert).block x.block) := rfl; obtain ⟨⟨c1, c2, c3, c4, c5, c6, c6a, c6c⟩, ⟨⟨h1, h2, h3, h4, h5, h6, h7, h8, h9⟩, ts, tA, tc, gs, gA, gc⟩⟩ := x; simp only [knownM] at hl
 try dsimp only at hl
 obtain ⟨hxc, hxb⟩ := hx; dsimp only at hxc hxb; dsimp only [KnownD.val]; go_enter Tryz.func240, Tryz.ntmps240; go_wp2_with fail; refine (wcert_any ⟨c1, c2, c3, c4, c5, c6, c6a, c6c⟩ B _ g _ (h.alloc _) (by omega) (hxc.below (((Turned.refl w g).alloc (by omega) _).low.mono hB)) hB).mono ?_; rintro e w1 ⟨rfl, hW1, hC1⟩; have hB1 := hC1.blk (Blk.new _ _ _) (by omega) (by decide); have hT1 := ((Turned.refl w g).alloc (by omega) _).trans hC1; have hlt1 := hB1.lt; have hgl1 := hW1.lt; have ll1 := S.cert_len ⟨c1, c2, c3, c4, c5, c6, c6a, c6c⟩; generalize S.cert ⟨c1, c2, c3, c4, c5, c6, c6a, c6c⟩ = S1 at *; have c1_0 := hB1.c 0 rfl; have c1_1 := hB1.c 1 rfl; have c1_2 := hB1.c 2 rfl; have c1_3 := hB1.c 3 rfl; have c1_4 := hB1.c 4 rfl; have c1_5 := hB1.c 5 rfl; have c1_6 := hB1.c 6 rfl; have c1_7 := hB1.c 7 rfl; have c1_8 := hB1.c 8 rfl; have c1_9 := hB1.c 9 rfl; have c1_10 := hB1.c 10 rfl; have c1_11 := hB1.c 11 rfl; have c1_12 := hB1.c 12 rfl; have c1_13 := hB1.c 13 rfl; have c1_14 := hB1.c 14 rfl; have c1_15 := hB1.c 15 rfl; have c1_16 := hB1.c 16 rfl; go_wp2_with fail; refine (wblock_any ⟨⟨h1, h2, h3, h4, h5, h6, h7, h8, h9⟩, ts, tA, tc, gs, gA, gc⟩ B _ g _ hW1 (by omega) (hxb.below (hT1.low.mono hB)) hB).mono ?_; rintro e w2 ⟨rfl, hW2, hC2⟩; have hB2 := hC2.blk hB1 (by omega) (by decide); have hT2 := hT1.trans hC2; have hlt2 := hB2.lt; have hgl2 := hW2.lt; generalize S1.block ⟨⟨h1, h2, h3, h4, h5, h6, h7, h8, h9⟩, ts, tA, tc, gs, gA, gc⟩ = S2 at *; go_wp2_with fail
 go_end0
 exact ⟨rfl, Wrt.eq hW2 (by rw [hE.out] <;> rfl), hT2⟩
theorem eqb (x y : Int) : (x == y) = decide (x = y) := by rw [Bool.eq_iff_iff]; simp
theorem len0 (n : Nat) : ((n : Int) == 0) = decide (n = 0) := by rw [Bool.eq_iff_iff]; simp
set_option maxRecDepth 100000 in
set_option maxHeartbeats 1000000 in
theorem noBlock_any (x : BlockD) (w : World) :
  Calls Tryz.prog 237 #[x.val] w fun e w' => e = .returned (.bool (noBlock x)) ∧ Below w.heap.size w w' := by
 obtain ⟨⟨h1, h2, h3, h4, h5, h6, h7, h8, h9⟩, ts, tA, tc, gs, gA, gc⟩ := x; dsimp only [BlockD.val]; have hN : Hid (noBlock ⟨⟨h1, h2, h3, h4, h5, h6, h7, h8, h9⟩, ts, tA, tc, gs, gA, gc⟩ = (noHeader ⟨h1, h2, h3, h4, h5, h6, h7, h8, h9⟩ && decide (ts.length = 0) && decide (gs.length = 0))) := rfl; go_enter Tryz.func237, Tryz.ntmps237; go_wp2_with fail
 all_goals
  go_ret; exact ⟨ret_bool (by rw [hN.out]; simp_all [noHeader, len0]), (Below.refl _ _).alloc (Nat.le_refl _) _⟩
set_option maxRecDepth 100000 in
set_option maxHeartbeats 1000000 in
theorem emptyBlock_any (x : BlockD) (w : World) :
  Calls Tryz.prog 233 #[x.val] w fun e w' => e = .returned (.bool (noBlock x)) ∧ Below w.heap.size w w' := by
 obtain ⟨⟨h1, h2, h3, h4, h5, h6, h7, h8, h9⟩, ts, tA, tc, gs, gA, gc⟩ := x; dsimp only [BlockD.val]; have hN : Hid (noBlock ⟨⟨h1, h2, h3, h4, h5, h6, h7, h8, h9⟩, ts, tA, tc, gs, gA, gc⟩ = (noHeader ⟨h1, h2, h3, h4, h5, h6, h7, h8, h9⟩ && decide (ts.length = 0) && decide (gs.length = 0))) := rfl; go_enter Tryz.func233, Tryz.ntmps233; go_wp2_with fail
 all_goals
  go_ret; exact ⟨ret_bool (by rw [hN.out]; simp_all [noHeader, len0]), (Below.refl _ _).alloc (Nat.le_refl _) _⟩
set_option maxRecDepth 100000 in
set_option maxHeartbeats 1000000 in
theorem noCert_any (x : CertD) (w : World) :
  Calls Tryz.prog 238 #[x.val] w fun e w' => e = .returned (.bool (noCert x)) ∧ Below w.heap.size w w' := by
 obtain ⟨x1, x2, x3, x4, x5, fs, fA, fc⟩ := x; dsimp only [CertD.val]; have hN : Hid (noCert ⟨x1, x2, x3, x4, x5, fs, fA, fc⟩ = (decide (x1 = 0) && decide (x2 = 0) && decide (x3 = 0) && !x4 && decide (x5 = 0) && decide (fs.length = 0))) := rfl; go_enter Tryz.func238, Tryz.ntmps238; go_wp2_with fail
 all_goals
  go_ret; exact ⟨ret_bool (by rw [hN.out]; simp_all [len0]), (Below.refl _ _).alloc (Nat.le_refl _) _⟩
set_option maxRecDepth 100000 in
set_option maxHeartbeats 1000000 in
theorem emptyCert_any (x : CertD) (w : World) :
  Calls Tryz.prog 234 #[x.val] w fun e w' => e = .returned (.bool (noCert x)) ∧ Below w.heap.size w w' := by
 obtain ⟨x1, x2, x3, x4, x5, fs, fA, fc⟩ := x; dsimp only [CertD.val]; have hN : Hid (noCert ⟨x1, x2, x3, x4, x5, fs, fA, fc⟩ = (decide (x1 = 0) && decide (x2 = 0) && decide (x3 = 0) && !x4 && decide (x5 = 0) && decide (fs.length = 0))) := rfl; go_enter Tryz.func234, Tryz.ntmps234; go_wp2_with fail
 all_goals
  go_ret; exact ⟨ret_bool (by rw [hN.out]; simp_all [len0]), (Below.refl _ _).alloc (Nat.le_refl _) _⟩
set_option maxRecDepth 100000 in
set_option maxHeartbeats 4000000 in
theorem rblock_any (x : BlockD) (B : Nat) (w : World) (g : Nat) (S : Out) (h : Ref w g S) (hl : S.b.length + 40 * blockM x ≤ 58999999950000) (hx : x.held w B) (hB : B ≤ g) :
  Calls Tryz.prog 196 #[.pointer (some ⟨g, 0, none⟩), x.val] w fun e w' => e = .returned (.tuple #[]) ∧ Ref w' g (S.block x) ∧ Turned w w' g := by
 have hgt := h.lt; have hE : Hid (S.block x = x.guilts.foldl Out.guilt (((x.txs.foldl Out.tx (((S.header x.header).lim x.txs.length 16).num x.txs.length)).lim x.guilts.length 4).num x.guilts.length)) := rfl; obtain ⟨⟨h1, h2, h3, h4, h5, h6, h7, h8, h9⟩, ts, tA, tc, gs, gA, gc⟩ := x; simp only [blockM, headerM] at hl
 try dsimp only at hl
 obtain ⟨hxh, hxt, hxg, ⟨hs0, hs1⟩, hxq, hxo⟩ := hx; dsimp only at hxh hxt hxg hs0 hs1 hxq hxo; have hsw1 := txs_W ts; have hsw2 : sumL guiltW gs = 66 * gs.length := sumL_const 66 gs; have hsw3 : sumL guiltM gs = 15 * gs.length := sumL_const 15 gs; unfold maxLen at hs0 hs1; have HL_ts : Hid (∀ S' : Out, (S'.lim ts.length 16).b.length = S'.b.length) := fun _ => rfl
 have HL_gs : Hid (∀ S' : Out, (S'.lim gs.length 4).b.length = S'.b.length) := fun _ => rfl
 dsimp only [BlockD.val]; go_enter Tryz.func196, Tryz.ntmps196; go_wp2_with fail; refine (rheader_any ⟨h1, h2, h3, h4, h5, h6, h7, h8, h9⟩ hxh _ g _ (h.alloc _) (by omega)).mono ?_; rintro e w1 ⟨rfl, hW1, hC1⟩; have hB1 := hC1.blk (Blk.new _ _ _) (by omega) (by decide); have hT1 := ((Turned.refl w g).alloc (by omega) _).trans hC1; have hlt1 := hB1.lt; have hgl1 := hW1.lt; have ll1 := S.header_len ⟨h1, h2, h3, h4, h5, h6, h7, h8, h9⟩; generalize S.header ⟨h1, h2, h3, h4, h5, h6, h7, h8, h9⟩ = S1 at *; have c1_0 := hB1.c 0 rfl; have c1_1 := hB1.c 1 rfl; have c1_2 := hB1.c 2 rfl; have c1_3 := hB1.c 3 rfl; have c1_4 := hB1.c 4 rfl; have c1_5 := hB1.c 5 rfl; have c1_6 := hB1.c 6 rfl; have c1_7 := hB1.c 7 rfl; have c1_8 := hB1.c 8 rfl; have c1_9 := hB1.c 9 rfl; have c1_10 := hB1.c 10 rfl; go_wp2_with fail; refine (rcount_any _ _ _ g _ hW1 (by omega)).mono ?_; rintro e w2 ⟨rfl, hW2, hC2⟩; have hB2 := hC2.blk hB1 (by omega) (by decide); have hT2 := hT1.trans hC2; have hlt2 := hB2.lt; have hgl2 := hW2.lt; have ll2 := (S1.lim ts.length 16).num_len ts.length; rw [HL_ts.out] at ll2; generalize (S1.lim ts.length 16).num ts.length = S2 at *; have c2_0 := hB2.c 0 rfl; have c2_1 := hB2.c 1 rfl; have c2_2 := hB2.c 2 rfl; have c2_3 := hB2.c 3 rfl; have c2_4 := hB2.c 4 rfl; have c2_5 := hB2.c 5 rfl; have c2_6 := hB2.c 6 rfl; have c2_7 := hB2.c 7 rfl; have c2_8 := hB2.c 8 rfl; have c2_9 := hB2.c 9 rfl; have c2_10 := hB2.c 10 rfl; go_wp2_with fail
 go_loopw [4] (fun i wr => ∃ j : Nat, i = .int .i64 (j : Int) ∧ j ≤ ts.length ∧ Ref wr g ((ts.take j).foldl Out.tx S2) ∧ Blk wr w.heap.size 56 #[.int .i64 h1, .int .i64 h2, .int .u64 h3, .int .u64 h4, .int .u64 h5, .int .u64 h6, .int .u64 h7, .int .u64 h8, .int .i64 h9, .slice tA ts.length tc, .slice gA gs.length gc] ∧ Turned w wr g) (fun i _ => ts.length - (intOf i).toNat)
 case atStart => exact ⟨0, rfl, by omega, by simpa using hW2, hB2, hT2⟩
 case round =>
  obtain ⟨j3, rfl, hj3, hWx3, hBx3, hTx3⟩ := hrel; have hgx3 := hWx3.lt; have kx3 := hBx3.c 9 rfl
  by_cases hlt3 : j3 < ts.length
  ·as_aux_lemma =>
    have hji3 : (j3 : Int) < (ts.length : Int) := by omega
    obtain ⟨b, off, rfl, hbB, hc⟩ := TxsL.at_ (hTx3.rd hxt hB) hlt3; have HSl := Lib.hid (fold_take Out.tx S2 ts j3 hlt3); have hle := fold_len Out.tx txW Out.tx_lenW (ts.take j3) S2; have hle2 := sumL_take txW ts j3 hlt3; have hx := (hxq ts[j3] (List.getElem_mem hlt3)).below (hTx3.low.mono hB); generalize hxx : ts[j3] = x at *; clear hxx; have d0 : wr.cell? ⟨b, off + j3 * 11, none⟩ = some (.int .i64 x.k) := hc 0 _ rfl; have d1 : wr.cell? ⟨b, off + j3 * 11 + 1, none⟩ = some (.int .i64 x.f) := hc 1 _ rfl; have d2 : wr.cell? ⟨b, off + j3 * 11 + 2, none⟩ = some (.int .i64 x.n) := hc 2 _ rfl; have d3 : wr.cell? ⟨b, off + j3 * 11 + 3, none⟩ = some (.int .i64 x.p) := hc 3 _ rfl; have d4 : wr.cell? ⟨b, off + j3 * 11 + 4, none⟩ = some (.int .i64 x.l) := hc 4 _ rfl; have d5 : wr.cell? ⟨b, off + j3 * 11 + 5, none⟩ = some (.int .i64 x.t) := hc 5 _ rfl; have d6 : wr.cell? ⟨b, off + j3 * 11 + 6, none⟩ = some (.int .i64 x.a) := hc 6 _ rfl; have d7 : wr.cell? ⟨b, off + j3 * 11 + 7, none⟩ = some (.string (bs x.text)) := hc 7 _ rfl; have d8 : wr.cell? ⟨b, off + j3 * 11 + 8, none⟩ = some (.slice x.aa x.args.length x.ac) := hc 8 _ rfl; have d9 : wr.cell? ⟨b, off + j3 * 11 + 9, none⟩ = some (.slice x.sa x.sights.length x.sc) := hc 9 _ rfl; have d10 : wr.cell? ⟨b, off + j3 * 11 + 10, none⟩ = some (.slice x.pa x.proofs.length x.pc) := hc 10 _ rfl; clear hc; go_wp2_with fail; refine (rtx_any x B _ g _ hWx3 (by unfold txW at *; omega) hx hB).mono ?_; rintro e w90 ⟨rfl, hW90, hC90⟩; have hB90 := hC90.blk hBx3 (by omega) (by decide); have hT90 := hTx3.trans hC90; go_wp2_with fail
    go_roundw
    case rel => exact ⟨j3 + 1, by go_num, by omega, by rw [HSl.out]; exact hW90, hB90, hT90⟩
    case measure => simp [intOf]; omega
  have hji3 : ¬ (j3 : Int) < (ts.length : Int) := by omega
  rw [List.take_of_length_le (by omega)] at hWx3; have ll3 := fold_len Out.tx txW Out.tx_lenW ts S2; obtain ⟨w3, rfl⟩ : ∃ x : World, x = wr := ⟨_, rfl⟩
  obtain ⟨hW3, hB3, hT3⟩ : Ref w3 g (ts.foldl Out.tx S2) ∧ Blk w3 w.heap.size 56 #[.int .i64 h1, .int .i64 h2, .int .u64 h3, .int .u64 h4, .int .u64 h5, .int .u64 h6, .int .u64 h7, .int .u64 h8, .int .i64 h9, .slice tA ts.length tc, .slice gA gs.length gc] ∧ Turned w w3 g := ⟨hWx3, hBx3, hTx3⟩
  clear hWx3 hBx3 hTx3 hlt3; generalize ts.foldl Out.tx S2 = S3 at *; have hlt3 := hB3.lt; have hgl3 := hW3.lt; have c3_0 := hB3.c 0 rfl; have c3_1 := hB3.c 1 rfl; have c3_2 := hB3.c 2 rfl; have c3_3 := hB3.c 3 rfl; have c3_4 := hB3.c 4 rfl; have c3_5 := hB3.c 5 rfl; have c3_6 := hB3.c 6 rfl; have c3_7 := hB3.c 7 rfl; have c3_8 := hB3.c 8 rfl; have c3_9 := hB3.c 9 rfl; have c3_10 := hB3.c 10 rfl; go_wp2_with fail; refine (rcount_any _ _ _ g _ hW3 (by omega)).mono ?_; rintro e w4 ⟨rfl, hW4, hC4⟩; have hB4 := hC4.blk hB3 (by omega) (by decide); have hT4 := hT3.trans hC4; have hlt4 := hB4.lt; have hgl4 := hW4.lt; have ll4 := (S3.lim gs.length 4).num_len gs.length; rw [HL_gs.out] at ll4; generalize (S3.lim gs.length 4).num gs.length = S4 at *; have c4_0 := hB4.c 0 rfl; have c4_1 := hB4.c 1 rfl; have c4_2 := hB4.c 2 rfl; have c4_3 := hB4.c 3 rfl; have c4_4 := hB4.c 4 rfl; have c4_5 := hB4.c 5 rfl; have c4_6 := hB4.c 6 rfl; have c4_7 := hB4.c 7 rfl; have c4_8 := hB4.c 8 rfl; have c4_9 := hB4.c 9 rfl; have c4_10 := hB4.c 10 rfl; go_wp2_with fail
  go_loopw [5] (fun i wr => ∃ j : Nat, i = .int .i64 (j : Int) ∧ j ≤ gs.length ∧ Ref wr g ((gs.take j).foldl Out.guilt S4) ∧ Blk wr w.heap.size 56 #[.int .i64 h1, .int .i64 h2, .int .u64 h3, .int .u64 h4, .int .u64 h5, .int .u64 h6, .int .u64 h7, .int .u64 h8, .int .i64 h9, .slice tA ts.length tc, .slice gA gs.length gc] ∧ Turned w wr g) (fun i _ => gs.length - (intOf i).toNat)
  case atStart => exact ⟨0, rfl, by omega, by simpa using hW4, hB4, hT4⟩
  case round =>
   obtain ⟨j5, rfl, hj5, hWx5, hBx5, hTx5⟩ := hrel; have hgx5 := hWx5.lt; have kx5 := hBx5.c 10 rfl
   by_cases hlt5 : j5 < gs.length
   ·as_aux_lemma =>
     have hji5 : (j5 : Int) < (gs.length : Int) := by omega
     obtain ⟨b, off, rfl, hbB, hc⟩ := GuiltsL.at_ (hTx5.rd hxg hB) hlt5; have HSl := Lib.hid (fold_take Out.guilt S4 gs j5 hlt5); have hle := fold_len Out.guilt guiltW Out.guilt_lenW (gs.take j5) S4; have hle2 := sumL_take guiltW gs j5 hlt5; have hok := hxo gs[j5] (List.getElem_mem hlt5); generalize hxx : gs[j5] = x at *; clear hxx; have d0 : wr.cell? ⟨b, off + j5 * 12, none⟩ = some (.int .i64 x.a.h) := hc 0 _ rfl; have d1 : wr.cell? ⟨b, off + j5 * 12 + 1, none⟩ = some (.int .i64 x.a.r) := hc 1 _ rfl; have d2 : wr.cell? ⟨b, off + j5 * 12 + 2, none⟩ = some (.int .i64 x.a.s) := hc 2 _ rfl; have d3 : wr.cell? ⟨b, off + j5 * 12 + 3, none⟩ = some (.bool x.a.has) := hc 3 _ rfl; have d4 : wr.cell? ⟨b, off + j5 * 12 + 4, none⟩ = some (.int .u64 x.a.b) := hc 4 _ rfl; have d5 : wr.cell? ⟨b, off + j5 * 12 + 5, none⟩ = some (.int .i64 x.a.f) := hc 5 _ rfl; have d6 : wr.cell? ⟨b, off + j5 * 12 + 6, none⟩ = some (.int .i64 x.b.h) := hc 6 _ rfl; have d7 : wr.cell? ⟨b, off + j5 * 12 + 7, none⟩ = some (.int .i64 x.b.r) := hc 7 _ rfl; have d8 : wr.cell? ⟨b, off + j5 * 12 + 8, none⟩ = some (.int .i64 x.b.s) := hc 8 _ rfl; have d9 : wr.cell? ⟨b, off + j5 * 12 + 9, none⟩ = some (.bool x.b.has) := hc 9 _ rfl; have d10 : wr.cell? ⟨b, off + j5 * 12 + 10, none⟩ = some (.int .u64 x.b.b) := hc 10 _ rfl; have d11 : wr.cell? ⟨b, off + j5 * 12 + 11, none⟩ = some (.int .i64 x.b.f) := hc 11 _ rfl; clear hc; go_wp2_with fail; refine (rvote_any x.a hok.1 _ g _ hWx5 (by unfold guiltW at *; omega)).mono ?_; rintro e w90 ⟨rfl, hW90, hC90⟩; have hB90 := hC90.blk hBx5 (by omega) (by decide); have hT90 := hTx5.trans hC90; have hgl90 := hW90.lt; have lb90 := ((gs.take j5).foldl Out.guilt S4).vote_len x.a; have kx90 := hB90.c 10 rfl; have d90_0 : w90.cell? ⟨b, off + j5 * 12, none⟩ = some (.int .i64 x.a.h) := (hC90.low.cell (by simp; omega)).trans d0; have d90_1 : w90.cell? ⟨b, off + j5 * 12 + 1, none⟩ = some (.int .i64 x.a.r) := (hC90.low.cell (by simp; omega)).trans d1
     have d90_2 : w90.cell? ⟨b, off + j5 * 12 + 2, none⟩ = some (.int .i64 x.a.s) := (hC90.low.cell (by simp; omega)).trans d2; have d90_3 : w90.cell? ⟨b, off + j5 * 12 + 3, none⟩ = some (.bool x.a.has) := (hC90.low.cell (by simp; omega)).trans d3; have d90_4 : w90.cell? ⟨b, off + j5 * 12 + 4, none⟩ = some (.int .u64 x.a.b) := (hC90.low.cell (by simp; omega)).trans d4; have d90_5 : w90.cell? ⟨b, off + j5 * 12 + 5, none⟩ = some (.int .i64 x.a.f) := (hC90.low.cell (by simp; omega)).trans d5; have d90_6 : w90.cell? ⟨b, off + j5 * 12 + 6, none⟩ = some (.int .i64 x.b.h) := (hC90.low.cell (by simp; omega)).trans d6; have d90_7 : w90.cell? ⟨b, off + j5 * 12 + 7, none⟩ = some (.int .i64 x.b.r) := (hC90.low.cell (by simp; omega)).trans d7; have d90_8 : w90.cell? ⟨b, off + j5 * 12 + 8, none⟩ = some (.int .i64 x.b.s) := (hC90.low.cell (by simp; omega)).trans d8; have d90_9 : w90.cell? ⟨b, off + j5 * 12 + 9, none⟩ = some (.bool x.b.has) := (hC90.low.cell (by simp; omega)).trans d9; have d90_10 : w90.cell? ⟨b, off + j5 * 12 + 10, none⟩ = some (.int .u64 x.b.b) := (hC90.low.cell (by simp; omega)).trans d10; have d90_11 : w90.cell? ⟨b, off + j5 * 12 + 11, none⟩ = some (.int .i64 x.b.f) := (hC90.low.cell (by simp; omega)).trans d11; go_wp2_with fail; refine (rvote_any x.b hok.2 _ g _ hW90 (by unfold guiltW at *; omega)).mono ?_; rintro e w91 ⟨rfl, hW91, hC91⟩; have hB91 := hC91.blk hB90 (by omega) (by decide); have hT91 := hT90.trans hC91; go_wp2_with fail
     go_roundw
     case rel => exact ⟨j5 + 1, by go_num, by omega, by rw [HSl.out]; exact hW91, hB91, hT91⟩
     case measure => simp [intOf]; omega
   have hji5 : ¬ (j5 : Int) < (gs.length : Int) := by omega
   rw [List.take_of_length_le (by omega)] at hWx5; have ll5 := fold_len Out.guilt guiltW Out.guilt_lenW gs S4; obtain ⟨w5, rfl⟩ : ∃ x : World, x = wr := ⟨_, rfl⟩
   obtain ⟨hW5, hB5, hT5⟩ : Ref w5 g (gs.foldl Out.guilt S4) ∧ Blk w5 w.heap.size 56 #[.int .i64 h1, .int .i64 h2, .int .u64 h3, .int .u64 h4, .int .u64 h5, .int .u64 h6, .int .u64 h7, .int .u64 h8, .int .i64 h9, .slice tA ts.length tc, .slice gA gs.length gc] ∧ Turned w w5 g := ⟨hWx5, hBx5, hTx5⟩
   clear hWx5 hBx5 hTx5 hlt5; generalize gs.foldl Out.guilt S4 = S5 at *; have hlt5 := hB5.lt; have hgl5 := hW5.lt; have c5_0 := hB5.c 0 rfl; have c5_1 := hB5.c 1 rfl; have c5_2 := hB5.c 2 rfl; have c5_3 := hB5.c 3 rfl; have c5_4 := hB5.c 4 rfl; have c5_5 := hB5.c 5 rfl; have c5_6 := hB5.c 6 rfl; have c5_7 := hB5.c 7 rfl; have c5_8 := hB5.c 8 rfl; have c5_9 := hB5.c 9 rfl; have c5_10 := hB5.c 10 rfl; go_wp2_with fail
   go_end0
   exact ⟨rfl, Ref.eq hW5 (by rw [hE.out] <;> rfl), hT5⟩
set_option maxRecDepth 100000 in
set_option maxHeartbeats 2000000 in
theorem rmotion_any (x : MotionD) (B : Nat) (w : World) (g : Nat) (S : Out) (h : Ref w g S) (hl : S.b.length + 40 * motionM x ≤ 58999999945000) (hx : x.held w B) (hB : B ≤ g) :
  Calls Tryz.prog 235 #[.pointer (some ⟨g, 0, none⟩), x.val] w fun e w' => e = .returned (.tuple #[]) ∧ Ref w' g (S.motion x) ∧ Turned w w' g := by
 have hgt := h.lt; have hE : Hid (S.motion x = (x.basis.foldl Out.cert (((((S.num x.r).num x.f).block x.block).lim x.basis.length 1).num x.basis.length)).need (decide (1 ≤ x.f))) := rfl; obtain ⟨x1, x2, ⟨⟨h1, h2, h3, h4, h5, h6, h7, h8, h9⟩, ts, tA, tc, gs, gA, gc⟩, bl, bA, bc⟩ := x; simp only [motionM] at hl
 try dsimp only at hl
 obtain ⟨hxb, hxr, hs0, hxq⟩ := hx; dsimp only at hxb hxr hs0 hxq; have hsw1 := certs_W bl; unfold maxLen at hs0; have HL_bl : Hid (∀ S' : Out, (S'.lim bl.length 1).b.length = S'.b.length) := fun _ => rfl
 dsimp only [MotionD.val]; go_enter Tryz.func235, Tryz.ntmps235; go_wp2_with fail; refine (rnumber_any _ _ g _ (h.alloc _) (by omega)).mono ?_; rintro e w1 ⟨rfl, hW1, hC1⟩; have hB1 := hC1.blk (Blk.new _ _ _) (by omega) (by decide); have hT1 := ((Turned.refl w g).alloc (by omega) _).trans hC1; have hlt1 := hB1.lt; have hgl1 := hW1.lt; have ll1 := S.num_len x1; generalize S.num x1 = S1 at *; have c1_0 := hB1.c 0 rfl; have c1_1 := hB1.c 1 rfl; have c1_2 := hB1.c 2 rfl; have c1_3 := hB1.c 3 rfl; have c1_4 := hB1.c 4 rfl; have c1_5 := hB1.c 5 rfl; have c1_6 := hB1.c 6 rfl; have c1_7 := hB1.c 7 rfl; have c1_8 := hB1.c 8 rfl; have c1_9 := hB1.c 9 rfl; have c1_10 := hB1.c 10 rfl; have c1_11 := hB1.c 11 rfl; have c1_12 := hB1.c 12 rfl; have c1_13 := hB1.c 13 rfl; go_wp2_with fail; refine (rnumber_any _ _ g _ hW1 (by omega)).mono ?_; rintro e w2 ⟨rfl, hW2, hC2⟩; have hB2 := hC2.blk hB1 (by omega) (by decide); have hT2 := hT1.trans hC2; have hlt2 := hB2.lt; have hgl2 := hW2.lt; have ll2 := S1.num_len x2; generalize S1.num x2 = S2 at *; have c2_0 := hB2.c 0 rfl; have c2_1 := hB2.c 1 rfl; have c2_2 := hB2.c 2 rfl; have c2_3 := hB2.c 3 rfl; have c2_4 := hB2.c 4 rfl; have c2_5 := hB2.c 5 rfl; have c2_6 := hB2.c 6 rfl; have c2_7 := hB2.c 7 rfl; have c2_8 := hB2.c 8 rfl; have c2_9 := hB2.c 9 rfl; have c2_10 := hB2.c 10 rfl; have c2_11 := hB2.c 11 rfl; have c2_12 := hB2.c 12 rfl; have c2_13 := hB2.c 13 rfl; go_wp2_with fail; refine (rblock_any ⟨⟨h1, h2, h3, h4, h5, h6, h7, h8, h9⟩, ts, tA, tc, gs, gA, gc⟩ B _ g _ hW2 (by omega) (hxb.below (hT2.low.mono hB)) hB).mono ?_; rintro e w3 ⟨rfl, hW3, hC3⟩; have hB3 := hC3.blk hB2 (by omega) (by decide); have hT3 := hT2.trans hC3; have hlt3 := hB3.lt; have hgl3 := hW3.lt; have ll3 := S2.block_len ⟨⟨h1, h2, h3, h4, h5, h6, h7, h8, h9⟩, ts, tA, tc, gs, gA, gc⟩; generalize S2.block ⟨⟨h1, h2, h3, h4, h5, h6, h7, h8, h9⟩, ts, tA, tc, gs, gA, gc⟩ = S3 at *; have c3_0 := hB3.c 0 rfl
 have c3_1 := hB3.c 1 rfl; have c3_2 := hB3.c 2 rfl; have c3_3 := hB3.c 3 rfl; have c3_4 := hB3.c 4 rfl; have c3_5 := hB3.c 5 rfl; have c3_6 := hB3.c 6 rfl; have c3_7 := hB3.c 7 rfl; have c3_8 := hB3.c 8 rfl; have c3_9 := hB3.c 9 rfl; have c3_10 := hB3.c 10 rfl; have c3_11 := hB3.c 11 rfl; have c3_12 := hB3.c 12 rfl; have c3_13 := hB3.c 13 rfl; go_wp2_with fail; refine (rcount_any _ _ _ g _ hW3 (by omega)).mono ?_; rintro e w4 ⟨rfl, hW4, hC4⟩; have hB4 := hC4.blk hB3 (by omega) (by decide); have hT4 := hT3.trans hC4; have hlt4 := hB4.lt; have hgl4 := hW4.lt; have ll4 := (S3.lim bl.length 1).num_len bl.length; rw [HL_bl.out] at ll4; generalize (S3.lim bl.length 1).num bl.length = S4 at *; have c4_0 := hB4.c 0 rfl; have c4_1 := hB4.c 1 rfl; have c4_2 := hB4.c 2 rfl; have c4_3 := hB4.c 3 rfl; have c4_4 := hB4.c 4 rfl; have c4_5 := hB4.c 5 rfl; have c4_6 := hB4.c 6 rfl; have c4_7 := hB4.c 7 rfl; have c4_8 := hB4.c 8 rfl; have c4_9 := hB4.c 9 rfl; have c4_10 := hB4.c 10 rfl; have c4_11 := hB4.c 11 rfl; have c4_12 := hB4.c 12 rfl; have c4_13 := hB4.c 13 rfl; go_wp2_with fail
 go_loopw [4] (fun i wr => ∃ j : Nat, i = .int .i64 (j : Int) ∧ j ≤ bl.length ∧ Ref wr g ((bl.take j).foldl Out.cert S4) ∧ Blk wr w.heap.size 59 #[.int .i64 x1, .int .i64 x2, .int .i64 h1, .int .i64 h2, .int .u64 h3, .int .u64 h4, .int .u64 h5, .int .u64 h6, .int .u64 h7, .int .u64 h8, .int .i64 h9, .slice tA ts.length tc, .slice gA gs.length gc, .slice bA bl.length bc] ∧ Turned w wr g) (fun i _ => bl.length - (intOf i).toNat)
 case atStart => exact ⟨0, rfl, by omega, by simpa using hW4, hB4, hT4⟩
 case round =>
  obtain ⟨j5, rfl, hj5, hWx5, hBx5, hTx5⟩ := hrel; have hgx5 := hWx5.lt; have kx5 := hBx5.c 13 rfl
  by_cases hlt5 : j5 < bl.length
  ·as_aux_lemma =>
    have hji5 : (j5 : Int) < (bl.length : Int) := by omega
    obtain ⟨b, off, rfl, hbB, hc⟩ := CertsL.at_ (hTx5.rd hxr hB) hlt5; have HSl := Lib.hid (fold_take Out.cert S4 bl j5 hlt5); have hle := fold_len Out.cert certW Out.cert_lenW (bl.take j5) S4; have hle2 := sumL_take certW bl j5 hlt5; have hx := (hxq bl[j5] (List.getElem_mem hlt5)).below (hTx5.low.mono hB); generalize hxx : bl[j5] = x at *; clear hxx; have d0 : wr.cell? ⟨b, off + j5 * 6, none⟩ = some (.int .i64 x.h) := hc 0 _ rfl; have d1 : wr.cell? ⟨b, off + j5 * 6 + 1, none⟩ = some (.int .i64 x.r) := hc 1 _ rfl; have d2 : wr.cell? ⟨b, off + j5 * 6 + 2, none⟩ = some (.int .i64 x.s) := hc 2 _ rfl; have d3 : wr.cell? ⟨b, off + j5 * 6 + 3, none⟩ = some (.bool x.has) := hc 3 _ rfl; have d4 : wr.cell? ⟨b, off + j5 * 6 + 4, none⟩ = some (.int .u64 x.b) := hc 4 _ rfl; have d5 : wr.cell? ⟨b, off + j5 * 6 + 5, none⟩ = some (.slice x.fa x.froms.length x.fc) := hc 5 _ rfl; clear hc; go_wp2_with fail; refine (rcert_any x B _ g _ hWx5 (by unfold certW at *; omega) hx hB).mono ?_; rintro e w90 ⟨rfl, hW90, hC90⟩; have hB90 := hC90.blk hBx5 (by omega) (by decide); have hT90 := hTx5.trans hC90; go_wp2_with fail
    go_roundw
    case rel => exact ⟨j5 + 1, by go_num, by omega, by rw [HSl.out]; exact hW90, hB90, hT90⟩
    case measure => simp [intOf]; omega
  have hji5 : ¬ (j5 : Int) < (bl.length : Int) := by omega
  rw [List.take_of_length_le (by omega)] at hWx5; have ll5 := fold_len Out.cert certW Out.cert_lenW bl S4; obtain ⟨w5, rfl⟩ : ∃ x : World, x = wr := ⟨_, rfl⟩
  obtain ⟨hW5, hB5, hT5⟩ : Ref w5 g (bl.foldl Out.cert S4) ∧ Blk w5 w.heap.size 59 #[.int .i64 x1, .int .i64 x2, .int .i64 h1, .int .i64 h2, .int .u64 h3, .int .u64 h4, .int .u64 h5, .int .u64 h6, .int .u64 h7, .int .u64 h8, .int .i64 h9, .slice tA ts.length tc, .slice gA gs.length gc, .slice bA bl.length bc] ∧ Turned w w5 g := ⟨hWx5, hBx5, hTx5⟩
  clear hWx5 hBx5 hTx5 hlt5; generalize bl.foldl Out.cert S4 = S5 at *; have hlt5 := hB5.lt; have hgl5 := hW5.lt; have c5_0 := hB5.c 0 rfl; have c5_1 := hB5.c 1 rfl; have c5_2 := hB5.c 2 rfl; have c5_3 := hB5.c 3 rfl; have c5_4 := hB5.c 4 rfl; have c5_5 := hB5.c 5 rfl; have c5_6 := hB5.c 6 rfl; have c5_7 := hB5.c 7 rfl; have c5_8 := hB5.c 8 rfl; have c5_9 := hB5.c 9 rfl; have c5_10 := hB5.c 10 rfl; have c5_11 := hB5.c 11 rfl; have c5_12 := hB5.c 12 rfl; have c5_13 := hB5.c 13 rfl; go_wp2_with fail
  all_goals
   refine (rneed_any _ _ g _ hW5).mono ?_; rintro e w6 ⟨rfl, hW6, hC6⟩; have hB6 := hC6.blk hB5 (by omega) (by decide); have hT6 := hT5.trans hC6; have hlt6 := hB6.lt; have hgl6 := hW6.lt; go_wp2_with fail
   go_end0
   exact ⟨rfl, Ref.eq hW6 (by rw [hE.out] <;> (first | rfl | (congr 1; grind))), hT6⟩
set_option maxRecDepth 100000 in
set_option maxHeartbeats 1000000 in
theorem rknown_any (x : KnownD) (B : Nat) (w : World) (g : Nat) (S : Out) (h : Ref w g S) (hl : S.b.length + 40 * knownM x ≤ 58999999945000) (hx : x.held w B) (hB : B ≤ g) :
  Calls Tryz.prog 236 #[.pointer (some ⟨g, 0, none⟩), x.val] w fun e w' => e = .returned (.tuple #[]) ∧ Ref w' g (S.known x) ∧ Turned w w' g := by
 have hgt := h.lt; have hE : Hid (S.known x = (S.cert x.cert).block x.block) := rfl; obtain ⟨⟨c1, c2, c3, c4, c5, c6, c6a, c6c⟩, ⟨⟨h1, h2, h3, h4, h5, h6, h7, h8, h9⟩, ts, tA, tc, gs, gA, gc⟩⟩ := x; simp only [knownM] at hl
 try dsimp only at hl
 obtain ⟨hxc, hxb⟩ := hx; dsimp only at hxc hxb; dsimp only [KnownD.val]; go_enter Tryz.func236, Tryz.ntmps236; go_wp2_with fail; refine (rcert_any ⟨c1, c2, c3, c4, c5, c6, c6a, c6c⟩ B _ g _ (h.alloc _) (by omega) (hxc.below (((Turned.refl w g).alloc (by omega) _).low.mono hB)) hB).mono ?_; rintro e w1 ⟨rfl, hW1, hC1⟩; have hB1 := hC1.blk (Blk.new _ _ _) (by omega) (by decide); have hT1 := ((Turned.refl w g).alloc (by omega) _).trans hC1; have hlt1 := hB1.lt; have hgl1 := hW1.lt; have ll1 := S.cert_len ⟨c1, c2, c3, c4, c5, c6, c6a, c6c⟩; generalize S.cert ⟨c1, c2, c3, c4, c5, c6, c6a, c6c⟩ = S1 at *; have c1_0 := hB1.c 0 rfl; have c1_1 := hB1.c 1 rfl; have c1_2 := hB1.c 2 rfl; have c1_3 := hB1.c 3 rfl; have c1_4 := hB1.c 4 rfl; have c1_5 := hB1.c 5 rfl; have c1_6 := hB1.c 6 rfl; have c1_7 := hB1.c 7 rfl; have c1_8 := hB1.c 8 rfl; have c1_9 := hB1.c 9 rfl; have c1_10 := hB1.c 10 rfl; have c1_11 := hB1.c 11 rfl; have c1_12 := hB1.c 12 rfl; have c1_13 := hB1.c 13 rfl; have c1_14 := hB1.c 14 rfl; have c1_15 := hB1.c 15 rfl; have c1_16 := hB1.c 16 rfl; go_wp2_with fail; refine (rblock_any ⟨⟨h1, h2, h3, h4, h5, h6, h7, h8, h9⟩, ts, tA, tc, gs, gA, gc⟩ B _ g _ hW1 (by omega) (hxb.below (hT1.low.mono hB)) hB).mono ?_; rintro e w2 ⟨rfl, hW2, hC2⟩; have hB2 := hC2.blk hB1 (by omega) (by decide); have hT2 := hT1.trans hC2; have hlt2 := hB2.lt; have hgl2 := hW2.lt; generalize S1.block ⟨⟨h1, h2, h3, h4, h5, h6, h7, h8, h9⟩, ts, tA, tc, gs, gA, gc⟩ = S2 at *; go_wp2_with fail
 go_end0
 exact ⟨rfl, Ref.eq hW2 (by rw [hE.out] <;> rfl), hT2⟩
end Go.Proofs.YtjhaafbbdgjagaaGreat
