/- What is written of a vote, a parcel, an account, ..: plain things, as both writers write them. -/
import Derived.Test.YtjjkdmngmopjbaaProg
import Derived.Test.YtjjkdmngmopjbaaWr0
import Derived.Test.YtjjkdmngmopjbaaBench0
namespace Go.Proofs.Ytjjkdmngmopjbaa
open Go.RowKit
theorem Wrt.eq {w : World} {g : Nat} {S S' : Out} (h : Wrt w g S) (e : S = S') : Wrt w g S' := e ▸ h
theorem Ref.eq {w : World} {g : Nat} {S S' : Out} (h : Ref w g S) (e : S = S') : Ref w g S' := e ▸ h
theorem Out.need_need (S : Out) (a b : Bool) : (S.need a).need b = S.need (a && b) := by
  simp only [Out.need, Bool.not_and, Bool.or_assoc]
structure VoteD where
  h : Int
  r : Int
  s : Int
  has : Bool
  b : Int
  f : Int
def VoteD.val (x : VoteD) : Value := .agg #[.int .i64 x.h, .int .i64 x.r, .int .i64 x.s, .bool x.has, .int .u64 x.b, .int .i64 x.f]
def VoteD.ok (x : VoteD) : Prop := 0 ≤ x.b ∧ x.b < 18446744073709551616
def voteOk (x : VoteD) : Bool := decide (x.s ≤ 2) && decide (1 ≤ x.f) && (x.has || (decide (x.b = 0) && !decide (x.s = 0)))
def Out.vote (S : Out) (x : VoteD) : Out := ((((S.nums [x.h, x.r, x.s]).flag x.has).dig x.b).num x.f).need (voteOk x)
theorem Out.vote_len (S : Out) (x : VoteD) : (S.vote x).b.length ≤ S.b.length + 33 := by
  have h1 := S.nums_len [x.h, x.r, x.s]
  have h2 := (((S.nums [x.h, x.r, x.s]).flag x.has).dig x.b).num_len x.f
  simp [Out.vote, Out.need, Out.flag, Out.dig, be_len] at h1 h2 ⊢
  omega
structure ParcelD where
  k : Int
  t : Int
  a : Int
def ParcelD.val (x : ParcelD) : Value := .agg #[.int .i64 x.k, .int .i64 x.t, .int .i64 x.a]
def parcelOk (x : ParcelD) : Bool := (decide (x.k = 1) || decide (x.k = 2)) && decide (1 ≤ x.t)
def Out.parcel (S : Out) (x : ParcelD) : Out := (S.nums [x.k, x.t, x.a]).need (parcelOk x)
structure AccountD where
  b : Int
  f : Int
  n : Int
  o : Int
  l : Int
  a : Int
  j : Bool
def AccountD.val (x : AccountD) : Value := .agg #[.int .i64 x.b, .int .i64 x.f, .int .i64 x.n, .int .i64 x.o, .int .i64 x.l, .int .i64 x.a, .bool x.j]
def Out.account (S : Out) (x : AccountD) : Out := (S.nums [x.b, x.f, x.n, x.o, x.l, x.a]).flag x.j
structure TurnD where
  p : Int
  d : Int
def TurnD.cells (x : TurnD) : List Value := [.int .i64 x.p, .int .u64 x.d]
def TurnD.val (x : TurnD) : Value := .agg #[.int .i64 x.p, .int .u64 x.d]
def TurnD.ok (x : TurnD) : Prop := 0 ≤ x.d ∧ x.d < 18446744073709551616
def Out.turn (S : Out) (x : TurnD) : Out := ((S.num x.p).dig x.d).lim x.p 287
end Go.Proofs.Ytjjkdmngmopjbaa
