/- What is written of results, views, two votes. -/
import Derived.Test.YtjjkdmngmopjbaaProg
import Derived.Test.YtjjkdmngmopjbaaWr7
namespace Go.Proofs.Ytjjkdmngmopjbaa
open Go.RowKit
structure ResultD where
  c : Int
  u : Int
  v : Int
  notes : List NoteD
  na : Option Addr
  nc : Nat
def ResultD.val (x : ResultD) : Value := .agg #[.int .i64 x.c, .int .i64 x.u, .int .i64 x.v, .slice x.na x.notes.length x.nc]
def Out.result (S : Out) (x : ResultD) : Out := (S.nums [x.c, x.u, x.v]).list x.notes 64 Out.note
structure ViewD where
  c : Int
  w : Int
  e : Int
  h : Int
  s : Int
  seats : List Seat
  sa : Option Addr
  sc : Nat
def ViewD.val (x : ViewD) : Value := .agg #[.int .i64 x.c, .int .i64 x.w, .int .i64 x.e, .int .i64 x.h, .int .u64 x.s, .slice x.sa x.seats.length x.sc]
def ViewD.ok (x : ViewD) : Prop := 0 ≤ x.s ∧ x.s < 18446744073709551616
def viewOk (x : ViewD) : Bool := (decide (1 ≤ x.w) && decide (x.w ≤ 8)) && decide (1 ≤ x.e)
def Out.view (S : Out) (x : ViewD) : Out := (((S.nums [x.c, x.w, x.e, x.h]).dig x.s).bench x.seats).need (viewOk x)
structure GuiltD where
  a : VoteD
  b : VoteD
def GuiltD.cells (x : GuiltD) : List Value := [.int .i64 x.a.h, .int .i64 x.a.r, .int .i64 x.a.s, .bool x.a.has, .int .u64 x.a.b, .int .i64 x.a.f, .int .i64 x.b.h, .int .i64 x.b.r, .int .i64 x.b.s, .bool x.b.has, .int .u64 x.b.b, .int .i64 x.b.f]
def GuiltD.val (x : GuiltD) : Value := .agg #[.int .i64 x.a.h, .int .i64 x.a.r, .int .i64 x.a.s, .bool x.a.has, .int .u64 x.a.b, .int .i64 x.a.f, .int .i64 x.b.h, .int .i64 x.b.r, .int .i64 x.b.s, .bool x.b.has, .int .u64 x.b.b, .int .i64 x.b.f]
def GuiltD.ok (x : GuiltD) : Prop := x.a.ok ∧ x.b.ok
def Out.guilt (S : Out) (x : GuiltD) : Out := (S.vote x.a).vote x.b
end Go.Proofs.Ytjjkdmngmopjbaa
