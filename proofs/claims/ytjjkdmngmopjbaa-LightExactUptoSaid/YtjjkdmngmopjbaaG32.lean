/- Of the texts Li4. -/
import Derived.Test.YtjjkdmngmopjbaaProg
import Derived.Test.YtjjkdmngmopjbaaG31
set_option linter.unusedSimpArgs false
set_option linter.unusedVariables false
namespace Go.Proofs.Ytjjkdmngmopjbaa
open Go.RowKit
/-- what is believed, wherever its seats lie -/
structure Bel where
  c : Int
  w : Int
  e : Int
  h : Int
  s : Int
  seats : List Seat
def Bel.view (b : Bel) (A : Option Addr) (k : Nat) : ViewD := ⟨b.c, b.w, b.e, b.h, b.s, b.seats, A, k⟩
def accX (b : Bel) (s : SightD) : Int := accE (b.view none 0) s.header s.cert s.seats
theorem accX_eq (b : Bel) (s : SightD) (A : Option Addr) (k : Nat) : accE (b.view A k) s.header s.cert s.seats = accX b s := rfl
/-- where the seats of a sight and its cert's froms lie is nothing to it -/
theorem accX_at (b : Bel) (s : SightD) (A A' : Option Addr) (k k' : Nat) : accX b ⟨s.header, ⟨s.cert.h, s.cert.r, s.cert.s, s.cert.has, s.cert.b, s.cert.froms, A, k⟩, s.seats, A', k'⟩ = accX b s := rfl
def stepX (b : Bel) (s : SightD) : Bel := if accX b s = 0 then ⟨b.c, b.w, b.e, s.header.h, s.header.s, s.seats⟩ else b
def folX : Bel → List SightD → Bel
  | b, [] => b
  | b, s :: l => folX (stepX b s) l
def errX : Bel → List SightD → List Int
  | _, [] => []
  | b, s :: l => accX b s :: errX (stepX b s) l
theorem folX_append : ∀ (l m : List SightD) (b : Bel), folX b (l ++ m) = folX (folX b l) m
  | [], _, _ => rfl
  | s :: l, m, b => folX_append l m (stepX b s)
theorem errX_append : ∀ (l m : List SightD) (b : Bel), errX b (l ++ m) = errX b l ++ errX (folX b l) m
  | [], _, _ => rfl
  | s :: l, m, b => by
    show accX b s :: errX (stepX b s) (l ++ m) = accX b s :: (errX (stepX b s) l ++ errX (folX (stepX b s) l) m)
    rw [errX_append l m (stepX b s)]
theorem errX_len : ∀ (l : List SightD) (b : Bel), (errX b l).length = l.length
  | [], _ => rfl
  | s :: l, b => congrArg (· + 1) (errX_len l (stepX b s))
theorem folX_snoc (b : Bel) (l : List SightD) (k : Nat) (hk : k < l.length) : folX b (l.take (k + 1)) = stepX (folX b (l.take k)) l[k] := by
  rw [List.take_succ_eq_append_getElem hk, folX_append]
  rfl
theorem errX_snoc (b : Bel) (l : List SightD) (k : Nat) (hk : k < l.length) : errX b (l.take (k + 1)) = errX b (l.take k) ++ [accX (folX b (l.take k)) l[k]] := by
  rw [List.take_succ_eq_append_getElem hk, errX_append]
  rfl
/-- what Accept hands back of a belief -/
def AccX (b : Bel) (s : SightD) (w : World) (e : Ending) (w' : World) : Prop := AccP (accX b s) b.c b.w b.e s.header.h s.header.s s.seats w e w'
theorem acceptX_any (b : Bel) (A : Option Addr) (k : Nat) (s : SightD) (B : Nat) (w : World) (hs : 0 ≤ b.s ∧ b.s < 18446744073709551616) (hr : SeatsL w B A b.seats) (hx : s.held w B) (hB : B ≤ w.heap.size) (h1 : b.seats.length ≤ 65536) (h2 : s.seats.length ≤ 65536) (h3 : certM s.cert ≤ 10000000) :
    Calls Try.prog 37 #[(b.view A k).val, s.val] w (AccX b s w) := by
  obtain ⟨⟨hc, hh, hp, ht, hg, hs', hr', hb, ho⟩, ⟨ch, cr, cs, chas, cb, fl, fA, fk⟩, sl, sA, sk⟩ := s
  exact accept_any b.c b.w b.e b.h b.s b.seats A k hc hh hp ht hg hs' hr' hb ho ch cr cs chas cb fl fA fk sl sA sk B w hs hr hx.header hx.cert hx.read hB h1 h2 h3
theorem racceptX_any (b : Bel) (A : Option Addr) (k : Nat) (s : SightD) (B : Nat) (w : World) (hs : 0 ≤ b.s ∧ b.s < 18446744073709551616) (hr : SeatsL w B A b.seats) (hx : s.held w B) (hB : B ≤ w.heap.size) (h1 : b.seats.length ≤ 65536) (h2 : s.seats.length ≤ 65536) (h3 : certM s.cert ≤ 10000000) :
    Calls Try.prog 38 #[(b.view A k).val, s.val] w (AccX b s w) := by
  obtain ⟨⟨hc, hh, hp, ht, hg, hs', hr', hb, ho⟩, ⟨ch, cr, cs, chas, cb, fl, fA, fk⟩, sl, sA, sk⟩ := s
  exact raccept_any b.c b.w b.e b.h b.s b.seats A k hc hh hp ht hg hs' hr' hb ho ch cr cs chas cb fl fA fk sl sA sk B w hs hr hx.header hx.cert hx.read hB h1 h2 h3
end Go.Proofs.Ytjjkdmngmopjbaa
