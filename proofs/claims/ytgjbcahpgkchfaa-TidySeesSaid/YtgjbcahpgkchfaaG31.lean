/- Of the texts WrS, Lay. -/
import Derived.Test.YtgjbcahpgkchfaaProg
import Derived.Test.YtgjbcahpgkchfaaG30
import Derived.Test.YtgjbcahpgkchfaaG25
set_option linter.unusedSimpArgs false
set_option linter.unusedVariables false
namespace Go.Proofs.Ytgjbcahpgkchfaa
open Go.RowKit
structure VoteD where
 h : Int
 r : Int
 s : Int
 has : Bool
 b : Int
 f : Int
def VoteD.val (x : VoteD) : Value := .agg #[.int .i64 x.h, .int .i64 x.r, .int .i64 x.s, .bool x.has, .int .u64 x.b, .int .i64 x.f]
def VoteD.ok (x : VoteD) : Prop := 0 ≤ x.b ∧ x.b < 18446744073709551616
structure ParcelD where
 k : Int
 t : Int
 a : Int
def ParcelD.val (x : ParcelD) : Value := .agg #[.int .i64 x.k, .int .i64 x.t, .int .i64 x.a]
structure AccountD where
 b : Int
 f : Int
 n : Int
 o : Int
 l : Int
 a : Int
 j : Bool
def AccountD.val (x : AccountD) : Value := .agg #[.int .i64 x.b, .int .i64 x.f, .int .i64 x.n, .int .i64 x.o, .int .i64 x.l, .int .i64 x.a, .bool x.j]
structure TurnD where
 p : Int
 d : Int
def TurnD.cells (x : TurnD) : List Value := [.int .i64 x.p, .int .u64 x.d]
def TurnD.val (x : TurnD) : Value := .agg #[.int .i64 x.p, .int .u64 x.d]
def TurnD.ok (x : TurnD) : Prop := 0 ≤ x.d ∧ x.d < 18446744073709551616
def Out.turn (S : Out) (x : TurnD) : Out := ((S.num x.p).dig x.d).lim x.p 287
theorem flatMap_at {α : Type} (n : Nat) (f : α → List Value) (hf : ∀ x, (f x).length = n) : ∀ (l : List α) (k j : Nat) (_ : j < n), (l.flatMap f)[k * n + j]? = (l[k]?).bind fun x => (f x)[j]?
 | [], k, j, _ => by simp
 | x :: l, 0, j, hj => by
  simp only [List.flatMap_cons, Nat.zero_mul, Nat.zero_add]; rw [List.getElem?_append_left (by rw [hf]; omega)]; simp
 | x :: l, k + 1, j, hj => by
  simp only [List.flatMap_cons]; rw [List.getElem?_append_right (by rw [hf, Nat.succ_mul]; omega), hf]; have e : (k + 1) * n + j - n = k * n + j := by rw [Nat.succ_mul]; omega
  rw [e, flatMap_at n f hf l k j hj]; simp
def Lay {α : Type} (n : Nat) (f : α → List Value) (w : World) (B : Nat) (A : Option Addr) (l : List α) : Prop := Rd w B n A l.length (l.flatMap f)
theorem Lay.at_ {α : Type} {n : Nat} {f : α → List Value} (hf : ∀ x, (f x).length = n) (hn : 0 < n) {w : World} {B : Nat} {A : Option Addr} {l : List α} (h : Lay n f w B A l) {k : Nat} (hk : k < l.length) :
  ∃ b off, A = some ⟨b, off, none⟩ ∧ b < B ∧ ∀ j u, (f l[k])[j]? = some u → w.cell? ⟨b, off + k * n + j, none⟩ = some u := by
 obtain ⟨b, off, u, rfl, hb, hx, hc⟩ := Rd.at_ (j := 0) h hk hn; refine ⟨b, off, rfl, hb, fun j u hu => ?_⟩; have hj : j < n := by
  rw [← hf l[k]]; exact (List.getElem?_eq_some_iff.1 hu).1
 obtain ⟨b', off', u', e, _, hx', hc'⟩ := Rd.at_ (j := j) h hk hj; simp only [Option.some.injEq, Addr.mk.injEq, and_true] at e; obtain ⟨rfl, rfl⟩ := e; rw [flatMap_at n f hf _ _ _ hj, List.getElem?_eq_getElem hk] at hx'; simp only [Option.bind_some] at hx'; rw [hu] at hx'; injection hx' with hx'
 subst hx'; rw [Nat.add_assoc]; exact hc'
def Seat.val (x : Seat) : Value := .agg #[.int .i64 x.who, .int .i64 x.weight]
abbrev SeatsL (w : World) (B : Nat) (A : Option Addr) (l : List Seat) : Prop := Lay 2 seatCells w B A l
theorem SeatsL.at_ {w : World} {B : Nat} {A : Option Addr} {l : List Seat} (h : SeatsL w B A l) {k : Nat} (hk : k < l.length) :
  ∃ b off, A = some ⟨b, off, none⟩ ∧ b < B ∧ ∀ j u, (seatCells l[k])[j]? = some u → w.cell? ⟨b, off + k * 2 + j, none⟩ = some u := Lay.at_ (n := 2) (fun _ => rfl) (by omega) h hk
structure NoteD where
 who : Int
 n : Int
def NoteD.val (x : NoteD) : Value := .agg #[.int .i64 x.who, .int .i64 x.n]
def noteCells (x : NoteD) : List Value := [.int .i64 x.who, .int .i64 x.n]
abbrev NotesL (w : World) (B : Nat) (A : Option Addr) (l : List NoteD) : Prop := Lay 2 noteCells w B A l
theorem NotesL.at_ {w : World} {B : Nat} {A : Option Addr} {l : List NoteD} (h : NotesL w B A l) {k : Nat} (hk : k < l.length) :
  ∃ b off, A = some ⟨b, off, none⟩ ∧ b < B ∧ ∀ j u, (noteCells l[k])[j]? = some u → w.cell? ⟨b, off + k * 2 + j, none⟩ = some u := Lay.at_ (n := 2) (fun _ => rfl) (by omega) h hk
end Go.Proofs.Ytgjbcahpgkchfaa
