/- Of the texts Vc0, Vc1. -/
import Derived.WalkKit
import Derived.Test.YtgjbcahpgkchfaaG03
import Derived.Below
import Derived.Orders
import Derived.OrdersHeld
import Derived.Laws.AppendOwn
set_option linter.unusedSimpArgs false
set_option linter.unusedVariables false
namespace Go.Proofs.Ytgjbcahpgkchfaa.Vc
open Go
inductive U : Type 1
 | g {α : Type} (x : α)
 | i (n : Int) | n (k : Nat) | b (t : Bool) | s (s : ByteArray) | p (a : Option Addr) | l (xs : List Value) | v (x : Value)
def U.I : U → Int | .i z => z | _ => 0
def U.N : U → Nat | .n k => k | _ => 0
def U.B : U → Bool | .b t => t | _ => false
def U.S : U → ByteArray | .s z => z | _ => ByteArray.empty
def U.P : U → Option Addr | .p a => a | _ => none
def U.L : U → List Value | .l x => x | _ => []
def U.V : U → Value | .v x => x | _ => undef
inductive Srt | i | n | b | s | p | l | v | g
 deriving DecidableEq, Repr
inductive UOp | wrap (k : IntKind) | not | cast | nat | size | isnil | one | viface (t : Nat) | vint (k : IntKind) | vbool | vstr | vptr | len | sl | co (so : Srt)
 deriving DecidableEq, Repr
inductive BOp | add | sub | mul | quo | rem | bits (o : BinOp) (k : IntKind) | shl (k : IntKind) | shr (k : IntKind) | eq | lt | le | beq | and | or | seq | slt | sapp | byte | nadd | nsub | nmul | app | padd | take | rep
 deriving DecidableEq, Repr
inductive TOp | ite | vslc | ext | set
 deriving DecidableEq, Repr
inductive X
 | var (k : Nat) | int (n : Int) | nat (n : Nat) | bool (t : Bool) | str (l : List UInt8) | pnil | lnil | vnil (k : Nat) | fn (f : Nat)
 | un (o : UOp) (x : X) | bin (o : BOp) (x y : X) | tri (o : TOp) (x y z : X)
 deriving DecidableEq
def bitsI (o : BinOp) (k : IntKind) (x y : Int) : Int :=
 let a := BitVec.ofInt k.bits x
 let b := BitVec.ofInt k.bits y
 match o with
 | .and => k.wrap (a &&& b).toNat
 | .or => k.wrap (a ||| b).toNat
 | .xor => k.wrap (a ^^^ b).toNat
 | .andNot => k.wrap (a &&& ~~~b).toNat
 | _ => 0
def shlI (k : IntKind) (x y : Int) : Int := k.wrap (x * 2 ^ (min y.toNat k.bits))
def shrI (k : IntKind) (x y : Int) : Int := x.fdiv (2 ^ (min y.toNat k.bits))
def bytesV (s : ByteArray) : List Value := s.data.toList.map fun b => .int .u8 b.toNat
def UOp.den : UOp → U → U
 | .wrap k, x => .i (k.wrap x.I)
 | .not, x => .b (!x.B)
 | .cast, x => .i (x.N : Int)
 | .nat, x => .n x.I.toNat
 | .size, x => .n x.S.size
 | .isnil, x => .b x.P.isNone
 | .one, x => .l [x.V]
 | .viface t, x => .v (.iface t x.V)
 | .vint k, x => .v (.int k x.I)
 | .vbool, x => .v (.bool x.B)
 | .vstr, x => .v (.string x.S)
 | .vptr, x => .v (.pointer x.P)
 | .len, x => .n x.L.length
 | .sl, x => .l (bytesV x.S)
 | .co .i, x => .i x.I | .co .n, x => .n x.N | .co .b, x => .b x.B | .co .s, x => .s x.S | .co .p, x => .p x.P | .co .l, x => .l x.L | .co .v, x => .v x.V | .co .g, x => x
def BOp.den : BOp → U → U → U
 | .add, x, y => .i (x.I + y.I)
 | .sub, x, y => .i (x.I - y.I)
 | .mul, x, y => .i (x.I * y.I)
 | .quo, x, y => .i (x.I.tdiv y.I)
 | .rem, x, y => .i (x.I.tmod y.I)
 | .bits o k, x, y => .i (bitsI o k x.I y.I)
 | .shl k, x, y => .i (shlI k x.I y.I)
 | .shr k, x, y => .i (shrI k x.I y.I)
 | .eq, x, y => .b (x.I == y.I)
 | .lt, x, y => .b (decide (x.I < y.I))
 | .le, x, y => .b (decide (x.I ≤ y.I))
 | .beq, x, y => .b (x.B == y.B)
 | .and, x, y => .b (x.B && y.B)
 | .or, x, y => .b (x.B || y.B)
 | .seq, x, y => .b (x.S.toList == y.S.toList)
 | .slt, x, y => .b (Op.bytesLess x.S.toList y.S.toList)
 | .sapp, x, y => .s (x.S ++ y.S)
 | .byte, x, y => .i (x.S.data.toList.getD y.N 0).toNat
 | .nadd, x, y => .n (x.N + y.N)
 | .nsub, x, y => .n (x.N - y.N)
 | .nmul, x, y => .n (x.N * y.N)
 | .app, x, y => .l (x.L ++ y.L)
 | .padd, x, y => .p (x.P.map (·.add y.N))
 | .take, x, y => .l (x.L.take y.N)
 | .rep, x, y => .l (List.replicate x.N y.V)
def TOp.den : TOp → U → U → U → U
 | .ite, x, y, z => bif x.B then y else z
 | .vslc, x, y, z => .v (.slice x.P y.N z.N)
 | .ext, x, y, z => .s (x.S.extract y.N z.N)
 | .set, x, y, z => .l (x.L.set y.N z.V)
def nilV : Nat → Value
 | 0 => .nilIface
 | 1 => .nilFunc
 | _ => .map none
def X.den (ρ : Nat → U) : X → U
 | .var k => ρ k
 | .int n => .i n
 | .nat n => .n n
 | .bool t => .b t
 | .str l => .s ⟨l.toArray⟩
 | .pnil => .p none
 | .lnil => .l []
 | .vnil k => .v (nilV k)
 | .fn f => .v (.func (.func f) #[] #[])
 | .un o x => o.den (x.den ρ)
 | .bin o x y => o.den (x.den ρ) (y.den ρ)
 | .tri o x y z => o.den (x.den ρ) (y.den ρ) (z.den ρ)
def X.holds (ρ : Nat → U) : X → Prop
 | .bin .eq x y => (x.den ρ).I = (y.den ρ).I
 | .bin .lt x y => (x.den ρ).I < (y.den ρ).I
 | .bin .le x y => (x.den ρ).I ≤ (y.den ρ).I
 | .bin .and x y => x.holds ρ ∧ y.holds ρ
 | .bin .or x y => x.holds ρ ∨ y.holds ρ
 | .un .not x => ¬ x.holds ρ
 | .bool t => t = true
 | x => (x.den ρ).B = true
theorem X.holds_iff (ρ : Nat → U) : ∀ x : X, x.holds ρ ↔ (x.den ρ).B = true := by
 intro x
 induction x with
 | un o x ih => cases o <;> simp [X.holds, X.den, UOp.den, U.B, ih]
 | bin o x y ih1 ih2 => cases o <;> simp [X.holds, X.den, BOp.den, U.B, ih1, ih2]
 | bool t => simp [X.holds, X.den, U.B]
 | _ => rfl
def upd (ρ : Nat → U) (n : Nat) (u : U) : Nat → U := fun k => bif Nat.beq k n then u else ρ k
def X.upto (n : Nat) : X → Bool
 | .var k => Nat.blt k n
 | .un _ x => x.upto n
 | .bin _ x y => x.upto n && y.upto n
 | .tri _ x y z => x.upto n && y.upto n && z.upto n
 | _ => true
def Alike (n : Nat) (ρ ρ' : Nat → U) : Prop := ∀ k, k < n → ρ' k = ρ k
theorem Alike.refl (n : Nat) (ρ : Nat → U) : Alike n ρ ρ := fun _ _ => rfl
theorem Alike.trans {n m : Nat} {a b c : Nat → U} (h : Alike n a b) (g : Alike m b c) (hm : n ≤ m) : Alike n a c := fun k hk => (g k (by omega)).trans (h k hk)
theorem Alike.upd (n : Nat) (ρ : Nat → U) (u : U) : Alike n ρ (upd ρ n u) := fun k hk => by
 unfold Vc.upd; have : Nat.beq k n = false := by rw [← Bool.not_eq_true, Nat.beq_eq]; omega
 rw [this]; rfl
theorem X.den_alike {n : Nat} {ρ ρ' : Nat → U} (h : Alike n ρ ρ') : ∀ x : X, x.upto n = true → x.den ρ' = x.den ρ := by
 intro x
 induction x with
 | var k => intro hk; exact h k (by simpa [X.upto] using hk)
 | un o x ih => intro hk; simp only [X.upto] at hk; simp only [X.den, ih hk]
 | bin o x y ih1 ih2 => intro hk; simp only [X.upto, Bool.and_eq_true] at hk; simp only [X.den, ih1 hk.1, ih2 hk.2]
 | tri o x y z ih1 ih2 ih3 => intro hk; simp only [X.upto, Bool.and_eq_true] at hk; simp only [X.den, ih1 hk.1.1, ih2 hk.1.2, ih3 hk.2]
 | _ => intro _; rfl
structure Beta where
 blk : Nat → Nat
 row : Nat → Option Addr × Nat
 junk : Nat → Value
inductive C1
 | int (k : IntKind) (x : X) | bool (x : X) | str (x : X) | ptr (x : X) | slc (a n c : X) | val (x : X)
 | own (m off : Nat) | row (m : Nat) (n : X) | rowp (m : Nat) (off : X) | junk (k : Nat) | bslc (m n : Nat)
 deriving DecidableEq
def C1.den (β : Beta) (ρ : Nat → U) : C1 → Value
 | .int k x => .int k (x.den ρ).I
 | .bool x => .bool (x.den ρ).B
 | .str x => .string (x.den ρ).S
 | .ptr x => .pointer (x.den ρ).P
 | .slc a n c => .slice (a.den ρ).P (n.den ρ).N (c.den ρ).N
 | .val x => (x.den ρ).V
 | .own m off => .pointer (some ⟨β.blk m, off, none⟩)
 | .row m n => .slice (β.row m).1 (n.den ρ).N (β.row m).2
 | .rowp m off => .pointer ((β.row m).1.map (·.add (off.den ρ).N))
 | .junk k => β.junk k
 | .bslc m n => .slice (some ⟨β.blk m, 0, none⟩) n n
inductive SV1 | one (c : C1) | agg (l : List C1)
 deriving DecidableEq
inductive SV | s (x : SV1) | tup (l : List SV1)
 deriving DecidableEq
def SV1.den (β : Beta) (ρ : Nat → U) : SV1 → Value
 | .one c => c.den β ρ
 | .agg l => .agg (l.map (C1.den β ρ)).toArray
def SV.den (β : Beta) (ρ : Nat → U) : SV → Value
 | .s x => x.den β ρ
 | .tup l => .tuple (l.map (SV1.den β ρ)).toArray
inductive FX | pre | fact (f : Nat) (us os : List X) | inv (j : Nat) (us : List X) | row (e size : Nat) (a n c xs : X) | blk (b : X) (t : Nat) (xs : List X) | bytes (a s : X)
 deriving DecidableEq
structure RowS where
 m : Nat
 e : Nat
 size : Nat
 bytes : Nat
 n : X
 xs : X
 deriving DecidableEq
structure St where
 nt : Nat
 fr : List (Nat × SV)
 blk : List (Nat × Nat × List C1)
 row : List RowS
 nv : Nat
 facts : List FX
 exp : List (Nat × X × X) := []
 known : List X := []
 deriving DecidableEq
structure Sm where
 base : Nat
 lnames : List (Nat × Nat) := []
 pre0 : World → Prop
 post0 : List U → Prop
 fact0 : List U → World → Prop
 pre : Nat → List U → World → Prop
 post : Nat → List U → List U → Prop
 fact : Nat → List U → List U → World → Prop
 inv : Nat → List U → Prop
 invF : Nat → List U → World → Prop
 mea : Nat → List U → Nat
 df : List Deferred := []
 pan0 : List PanicEntry → Prop := fun _ => False
 pan : Nat → List U → List PanicEntry → Prop := fun _ _ _ => False
def Sm.lent (σ : Sm) (b : Nat) : Prop := ∃ m, σ.lnames.lookup m = some b
def Sm.mineAt (σ : Sm) (m b : Nat) : Prop := match σ.lnames.lookup m with | some b0 => b = b0 | none => σ.base ≤ b
def Sm.rowAt (σ : Sm) (m b : Nat) : Prop := σ.base ≤ b ∨ σ.lnames.lookup m = some b
theorem Sm.row_or {σ : Sm} {m b : Nat} (h : σ.rowAt m b) : σ.base ≤ b ∨ σ.lent b := h.imp_right fun h => ⟨m, h⟩
def Sm.owns (σ : Sm) (w : World) (m : Nat) (e : TypeId) (size : Nat) (v : Value) (n : Nat) (xs : List Value) : Prop := w.ownsRow 0 e size v n xs ∧ ∀ g, v.ownBlock = some g → σ.rowAt m g
theorem Sm.mine_or {σ : Sm} {m b : Nat} (h : σ.mineAt m b) : σ.base ≤ b ∨ σ.lent b := by
 unfold Sm.mineAt at h; split at h
 ·next b0 e => subst h; exact .inr ⟨m, e⟩
 ·exact .inl h
def dens (ρ : Nat → U) (l : List X) : List U := l.map (X.den ρ)
def LoadsAt (w : World) (a : Option Addr) (cs : List Value) : Prop := ∃ p, a = some p ∧ ∀ j v, cs[j]? = some v → w.cell? (p.add j) = some v
def FX.den (σ : Sm) (ρ : Nat → U) (w : World) : FX → Prop
 | .pre => σ.pre0 w
 | .fact f us os => σ.fact f (dens ρ us) (dens ρ os) w
 | .inv j us => σ.invF j (dens ρ us) w
 | .row e size a n c xs => w.ownsRow 0 e size (.slice (a.den ρ).P (n.den ρ).N (c.den ρ).N) (n.den ρ).N (xs.den ρ).L
 | .blk b t xs => w.heap[(b.den ρ).N]? = some (.cells (xs.map fun x => (x.den ρ).V).toArray t (0, 0))
 | .bytes a s => ∃ g, (a.den ρ).P = some ⟨g, 0, none⟩ ∧ ∀ j, j < (s.den ρ).S.size → w.cell? ⟨g, j, none⟩ = some (.int .u8 ((s.den ρ).S.data.toList.getD j 0).toNat)
def given (σ : Sm) (ρ : Nat → U) (w : World) : List FX → Prop → Prop
 | [], c => c
 | F :: l, c => l.foldl (fun a G => a ∧ G.den σ ρ w) (F.den σ ρ w) → c
theorem fold_and {α : Type} {f : α → Prop} : ∀ {l : List α} {p : Prop}, p → (∀ x ∈ l, f x) → l.foldl (fun a x => a ∧ f x) p
 | [], _, hp, _ => hp
 | x :: l, p, hp, h => fold_and (l := l) (p := p ∧ f x) ⟨hp, h x (List.mem_cons_self ..)⟩ fun y hy => h y (List.mem_cons_of_mem _ hy)
theorem given_out {σ : Sm} {ρ : Nat → U} {w : World} {c : Prop} : ∀ {l : List FX}, given σ ρ w l c → (∀ F ∈ l, F.den σ ρ w) → c
 | [], h, _ => h
 | F :: l, h, g => h (fold_and (l := l) (f := fun G => G.den σ ρ w) (g F (List.mem_cons_self ..)) fun G hG => g G (List.mem_cons_of_mem _ hG))
inductive VC
 | top | no (why : Nat)
 | all (n : Nat) (so : Srt) (k : VC) | ex (n : Nat) (so : Srt) (k : VC)
 | imp (c : X) (k : VC) | need (c : X) (k : VC) | needw (c : X) (fs : List FX) (k : VC) | and (a b : VC)
 | pre (f : Nat) (us : List X) (fs : List FX) (k : VC)
 | post (f : Nat) (us os : List X) (k : VC)
 | inv (j : Nat) (us : List X) (fs : List FX) (k : VC)
 | hyp (j : Nat) (us : List X) (k : VC)
 | less (j : Nat) (us vs : List X) (k : VC)
 | loads (fs : List FX) (a : X) (cs : List X) (k : VC)
 | cells (xs off : X) (cs : List X) (k : VC)
 | ones (xs : X) (k : VC)
 | reads (fs : List FX) (size : Nat) (a n xs : X) (k : VC)
 | ret (os : List X) (fs : List FX)
 | isfn (x : X) (f : Nat) (k : VC)
 | pan (f : Nat) (us : List X) (k : VC)
 | panv (x : X)
 | leq (x y : X) (k : VC)
 | st (S : St)
 deriving DecidableEq
def VC.den (σ : Sm) (ρ : Nat → U) : VC → Prop
 | .top => True
 | .no _ => False
 | .all n .i k => ∀ x : Int, k.den σ (upd ρ n (.i x))
 | .all n .n k => ∀ x : Nat, k.den σ (upd ρ n (.n x))
 | .all n .b k => ∀ x : Bool, k.den σ (upd ρ n (.b x))
 | .all n .s k => ∀ x : ByteArray, k.den σ (upd ρ n (.s x))
 | .all n .p k => ∀ x : Option Addr, k.den σ (upd ρ n (.p x))
 | .all n .l k => ∀ x : List Value, k.den σ (upd ρ n (.l x))
 | .all n .v k => ∀ x : Value, k.den σ (upd ρ n (.v x))
 | .all n .g k => ∀ (α : Type) (x : α), k.den σ (upd ρ n (.g x))
 | .ex n .i k => ∃ x : Int, k.den σ (upd ρ n (.i x))
 | .ex n .n k => ∃ x : Nat, k.den σ (upd ρ n (.n x))
 | .ex n .b k => ∃ x : Bool, k.den σ (upd ρ n (.b x))
 | .ex n .s k => ∃ x : ByteArray, k.den σ (upd ρ n (.s x))
 | .ex n .p k => ∃ x : Option Addr, k.den σ (upd ρ n (.p x))
 | .ex n .l k => ∃ x : List Value, k.den σ (upd ρ n (.l x))
 | .ex n .v k => ∃ x : Value, k.den σ (upd ρ n (.v x))
 | .ex n .g k => ∃ (α : Type) (x : α), k.den σ (upd ρ n (.g x))
 | .imp c k => c.holds ρ → k.den σ ρ
 | .need c k => c.holds ρ ∧ k.den σ ρ
 | .needw c fs k => (∀ w : World, given σ ρ w fs (c.holds ρ)) ∧ k.den σ ρ
 | .and a b => a.den σ ρ ∧ b.den σ ρ
 | .pre f us fs k => (∀ w : World, given σ ρ w fs (σ.pre f (dens ρ us) w)) ∧ k.den σ ρ
 | .post f us os k => σ.post f (dens ρ us) (dens ρ os) → k.den σ ρ
 | .inv j us fs k => σ.inv j (dens ρ us) ∧ (∀ w : World, given σ ρ w fs (σ.invF j (dens ρ us) w)) ∧ k.den σ ρ
 | .hyp j us k => σ.inv j (dens ρ us) → k.den σ ρ
 | .less j us vs k => σ.mea j (dens ρ vs) < σ.mea j (dens ρ us) ∧ k.den σ ρ
 | .loads fs a cs k => (∀ w : World, given σ ρ w fs (LoadsAt w (a.den ρ).P (cs.map fun x => (x.den ρ).V))) ∧ k.den σ ρ
 | .cells xs off cs k => (∀ j v, (cs.map fun x => (x.den ρ).V)[j]? = some v → (xs.den ρ).L[(off.den ρ).N + j]? = some v) ∧ k.den σ ρ
 | .ones xs k => (∀ v ∈ (xs.den ρ).L, v.oneCell' = true) ∧ k.den σ ρ
 | .reads fs size a n xs k => (∀ w : World, given σ ρ w fs (∃ B, Rd w B size (a.den ρ).P (n.den ρ).N (xs.den ρ).L)) ∧ k.den σ ρ
 | .ret os fs => σ.post0 (dens ρ os) ∧ ∀ w : World, given σ ρ w fs (σ.fact0 (dens ρ os) w)
 | .isfn x f k => (x.den ρ).V = .func (.func f) #[] #[] ∧ k.den σ ρ
 | .pan f us k => (∀ ch, σ.pan f (dens ρ us) ch → σ.pan0 ch) ∧ k.den σ ρ
 | .panv x => σ.pan0 [{ v := (x.den ρ).V, recovered := false }]
 | .leq x y k => (x.den ρ).L = (y.den ρ).L ∧ k.den σ ρ
 | .st _ => False
def U.srt : U → Srt
 | .i _ => .i | .n _ => .n | .b _ => .b | .s _ => .s | .p _ => .p | .l _ => .l | .v _ => .v | .g _ => .g
theorem VC.all_inst {σ : Sm} {ρ : Nat → U} {n : Nat} {so : Srt} {k : VC} (h : (VC.all n so k).den σ ρ) (u : U) (hu : u.srt = so) : k.den σ (upd ρ n u) := by
 subst hu; cases u with
 | g x => exact h _ x
 | _ => exact h _
theorem VC.ex_inst {σ : Sm} {ρ : Nat → U} {n : Nat} {so : Srt} {k : VC} (h : (VC.ex n so k).den σ ρ) : ∃ u : U, u.srt = so ∧ k.den σ (upd ρ n u) := by
 cases so with
 | g => obtain ⟨α, x, h⟩ := h; exact ⟨.g x, rfl, h⟩
 | i => obtain ⟨x, h⟩ := h; exact ⟨.i x, rfl, h⟩
 | n => obtain ⟨x, h⟩ := h; exact ⟨.n x, rfl, h⟩
 | b => obtain ⟨x, h⟩ := h; exact ⟨.b x, rfl, h⟩
 | s => obtain ⟨x, h⟩ := h; exact ⟨.s x, rfl, h⟩
 | p => obtain ⟨x, h⟩ := h; exact ⟨.p x, rfl, h⟩
 | l => obtain ⟨x, h⟩ := h; exact ⟨.l x, rfl, h⟩
 | v => obtain ⟨x, h⟩ := h; exact ⟨.v x, rfl, h⟩
def VC.both (a b : VC) : VC := if a = b then a else .and a b
theorem VC.both_iff (σ : Sm) (ρ : Nat → U) (a b : VC) : (VC.both a b).den σ ρ ↔ a.den σ ρ ∧ b.den σ ρ := by
 unfold VC.both; split
 ·next h => subst h; simp
 ·exact Iff.rfl
inductive Lf | int (k : IntKind) | bool | str | ptr | slc | val
 deriving DecidableEq
inductive Sh | one (l : Lf) | agg (l : List Lf)
 deriving DecidableEq
def Lf.srts : Lf → List Srt
 | .int _ => [.i] | .bool => [.b] | .str => [.s] | .ptr => [.p] | .slc => [.p, .n, .n] | .val => [.v]
def Lf.ar : Lf → Nat
 | .slc => 3
 | _ => 1
def at_ (us : List U) (k : Nat) : U := us.getD k (.i 0)
def Lf.val1 (us : List U) (k : Nat) : Lf → Value
 | .int j => .int j (at_ us k).I
 | .bool => .bool (at_ us k).B
 | .str => .string (at_ us k).S
 | .ptr => .pointer (at_ us k).P
 | .slc => .slice (at_ us k).P (at_ us (k + 1)).N (at_ us (k + 2)).N
 | .val => (at_ us k).V
def lfsV (us : List U) : Nat → List Lf → List Value
 | _, [] => []
 | k, l :: ls => l.val1 us k :: lfsV us (k + l.ar) ls
def lfsAr : List Lf → Nat
 | [] => 0
 | l :: ls => l.ar + lfsAr ls
def Sh.lfs : Sh → List Lf
 | .one l => [l]
 | .agg ls => ls
def Sh.val1 (us : List U) (k : Nat) : Sh → Value
 | .one l => l.val1 us k
 | .agg ls => .agg (lfsV us k ls).toArray
def shsV (us : List U) : Nat → List Sh → List Value
 | _, [] => []
 | k, s :: ss => s.val1 us k :: shsV us (k + lfsAr s.lfs) ss
def shsLfs (ss : List Sh) : List Lf := ss.flatMap Sh.lfs
def lfsSrts (ls : List Lf) : List Srt := ls.flatMap Lf.srts
def resV (us : List U) : List Sh → Value
 | [s] => s.val1 us 0
 | ss => .tuple (shsV us 0 ss).toArray
def isAggB (P : Program) (t : Nat) : Bool :=
 match P.underlying t with
 | some (.struct _) | some (.array _ _) => true
 | _ => false
def leafs (P : Program) : Nat → Nat → Option (List Lf)
 | 0, _ => none
 | d + 1, t =>
  match P.underlying t with
  | some .bool => some [.bool]
  | some (.int k) => some [.int k]
  | some .string => some [.str]
  | some (.pointer _) => some [.ptr]
  | some (.slice _) => some [.slc]
  | some (.map _ _) | some (.func _ _ _) | some (.interface _) => some [.val]
  | some (.struct fs) => (fs.toList.mapM fun f => leafs P d f.type).map List.flatten
  | some (.array n e) => (leafs P d e).map fun l => (List.replicate n l).flatten
  | _ => none
def shOf (P : Program) (t : Nat) : Option Sh :=
 match leafs P 9 t with
 | some ls => if isAggB P t then some (.agg ls) else match ls with | [l] => some (.one l) | _ => none
 | none => none
def shsOf (P : Program) (ts : Array Nat) : Option (List Sh) := ts.toList.mapM (shOf P)
def lentLfs (P : Program) (t : Nat) : Option (List Lf) :=
 match shOf P t, P.info? t with
 | some sh, some i => if sh.lfs.length == i.size then some sh.lfs else none
 | _, _ => none
def lentsLfs (P : Program) (l : List (Nat × Nat)) : Option (List (List Lf)) := l.mapM fun p => lentLfs P p.2
def Lf.fresh (n : Nat) : Lf → C1
 | .int k => .int k (.var n)
 | .bool => .bool (.var n)
 | .str => .str (.var n)
 | .ptr => .ptr (.var n)
 | .slc => .slc (.var n) (.var (n + 1)) (.var (n + 2))
 | .val => .val (.var n)
def freshs (n : Nat) : List Lf → List C1
 | [] => []
 | l :: ls => l.fresh n :: freshs (n + l.ar) ls
def Sh.fresh (n : Nat) : Sh → SV1
 | .one l => .one (l.fresh n)
 | .agg ls => .agg (freshs n ls)
def shsFresh (n : Nat) : List Sh → List SV1
 | [] => []
 | s :: ss => s.fresh n :: shsFresh (n + lfsAr s.lfs) ss
def vars (n : Nat) : Nat → List X
 | 0 => []
 | k + 1 => .var n :: vars (n + 1) k
def splice (l : List C1) (off : Nat) (new : List C1) : List C1 := l.take off ++ new ++ l.drop (off + new.length)
def C1.upto (n : Nat) : C1 → Bool
 | .int _ x | .bool x | .str x | .ptr x | .val x => x.upto n
 | .slc a b c => a.upto n && b.upto n && c.upto n
 | .row _ x | .rowp _ x => x.upto n
 | .own _ _ | .junk _ | .bslc _ _ => true
def SV1.upto (n : Nat) : SV1 → Bool
 | .one c => c.upto n
 | .agg l => l.all (·.upto n)
def SV.upto (n : Nat) : SV → Bool
 | .s x => x.upto n
 | .tup l => l.all (·.upto n)
def FX.upto (n : Nat) : FX → Bool
 | .pre => true
 | .fact _ us os => us.all (·.upto n) && os.all (·.upto n)
 | .inv _ us => us.all (·.upto n)
 | .row _ _ a m c xs => a.upto n && m.upto n && c.upto n && xs.upto n
 | .blk b _ xs => b.upto n && xs.all (·.upto n)
 | .bytes a s => a.upto n && s.upto n
def St.upto (S : St) (n : Nat) : Bool :=
 S.fr.all (fun p => p.2.upto n) && S.blk.all (fun q => q.2.2.all (·.upto n)) && S.row.all (fun r => r.n.upto n && r.xs.upto n) && S.facts.all (·.upto n) && S.exp.all (fun e => e.2.1.upto n && e.2.2.upto n) && S.known.all (·.upto n)
def St.ok (S : St) : Bool := S.upto S.nv
def C1.names (m : Nat) : C1 → Bool
 | .own k _ | .bslc k _ => k == m
 | _ => false
def C1.rows (m : Nat) : C1 → Bool
 | .row k _ | .rowp k _ => k == m
 | _ => false
def SV1.any (f : C1 → Bool) : SV1 → Bool
 | .one c => f c
 | .agg l => l.any f
def SV.any (f : C1 → Bool) : SV → Bool
 | .s x => x.any f
 | .tup l => l.any (·.any f)
def St.get (S : St) (t : Nat) : Option SV := S.fr.lookup t
def St.kill (S : St) (d : Option Nat) : St :=
 match d with
 | none => S
 | some d => { S with fr := S.fr.filter fun p => p.1 != d }
def St.put (S : St) (d : Option Nat) (v : SV) : St :=
 match d with
 | none => S
 | some d => if Nat.blt d S.nt then { S with fr := (d, v) :: S.fr.filter fun p => p.1 != d } else S
def St.block (S : St) (m : Nat) : Option (Nat × List C1) := S.blk.lookup m
def St.rowOf (S : St) (m : Nat) : Option RowS := S.row.find? (·.m == m)
def forget (f : SV → Bool) (l : List (Nat × SV)) : List (Nat × SV) :=
 let ts := (l.filter fun p => f p.2).map (·.1)
 l.filter fun p => !ts.contains p.1
def St.dropBlk (S : St) (m : Nat) : Option St :=
 if S.blk.any (fun q => q.1 != m && q.2.2.any (·.names m)) then none
 else some { S with fr := forget (·.any (·.names m)) S.fr, blk := S.blk.filter fun q => q.1 != m }
def St.unrow (S : St) (m : Nat) : Option St :=
 if S.blk.any (fun q => q.2.2.any (·.rows m)) then none
 else some { S with fr := forget (·.any (·.rows m)) S.fr, exp := S.exp.filter fun e => e.1 != m }
def St.dropRow (S : St) (m : Nat) : Option St :=
 (S.unrow m).map fun S => { S with row := S.row.filter fun r => r.m != m }
def C1.expd (S : St) : C1 → Option C1
 | .row m n => (S.exp.lookup m).map fun e => .slc e.1 n e.2
 | .own _ _ | .rowp _ _ | .junk _ | .bslc _ _ => none
 | c => some c
def C1.lf : C1 → Option (Lf × List X)
 | .int k x => some (.int k, [.un (.co .i) x])
 | .bool x => some (.bool, [.un (.co .b) x])
 | .str x => some (.str, [.un (.co .s) x])
 | .ptr x => some (.ptr, [.un (.co .p) x])
 | .slc a n c => some (.slc, [.un (.co .p) a, .un (.co .n) n, .un (.co .n) c])
 | .val x => some (.val, [.un (.co .v) x])
 | _ => none
def flat (S : St) : List C1 → Option (List Lf × List X)
 | [] => some ([], [])
 | c :: l =>
  match (c.expd S).bind C1.lf, flat S l with
  | some (f, xs), some (fs, ys) => some (f :: fs, xs ++ ys)
  | _, _ => none
def SV1.flat (S : St) : SV1 → Option (Sh × List X)
 | .one c => match (c.expd S).bind C1.lf with | some (f, xs) => some (.one f, xs) | none => none
 | .agg l => match Vc.flat S l with | some (fs, xs) => some (.agg fs, xs) | none => none
def flats (S : St) : List SV1 → Option (List Sh × List X)
 | [] => some ([], [])
 | v :: l =>
  match v.flat S, flats S l with
  | some (f, xs), some (fs, ys) => some (f :: fs, xs ++ ys)
  | _, _ => none
def C1.x (S : St) (c : C1) : Option X :=
 match c.expd S with
 | some (.int k x) => some (.un (.vint k) x)
 | some (.bool x) => some (.un .vbool x)
 | some (.str x) => some (.un .vstr x)
 | some (.ptr x) => some (.un .vptr x)
 | some (.slc a n c) => some (.tri .vslc a n c)
 | some (.val x) => some x
 | _ => none
def C1.solid : C1 → Bool
 | .val (.vnil _) | .val (.fn _) => true
 | .val _ | .junk _ => false
 | _ => true
def onesX : X → Bool
 | .lnil => true
 | .un .one (.un (.vint _) _) | .un .one (.un .vbool _) | .un .one (.un .vstr _) | .un .one (.un .vptr _) | .un .one (.tri .vslc _ _ _) | .un .one (.vnil _) | .un .one (.fn _) => true
 | .bin .app x y => onesX x && onesX y
 | _ => false
def constC : Value → Option C1
 | .int k n => some (.int k (.int n))
 | .bool b => some (.bool (.bool b))
 | .string s => some (.str (.str s.data.toList))
 | .pointer none => some (.ptr .pnil)
 | .slice none n c => if n = 0 ∧ c = 0 then some (.slc .pnil (.nat 0) (.nat 0)) else none
 | .nilIface => some (.val (.vnil 0))
 | .nilFunc => some (.val (.vnil 1))
 | .map none => some (.val (.vnil 2))
 | _ => none
def constS : Value → Option SV
 | .agg cs => (cs.toList.mapM constC).map fun l => .s (.agg l)
 | v => (constC v).map fun c => .s (.one c)
def St.opd (S : St) : Operand → Option SV
 | .tmp t => S.get t
 | .const v => constS v
 | .func f => some (.s (.one (.val (.fn f))))
 | _ => none
def cname (m j : Nat) : Nat := 100000 + m * 64 + j
structure LoopA where
 slots : List Nat := []
 blks : List Nat := []
 rows : List Nat := []
 extra : List X := []
 kill : List Nat := []
 gh : Nat := 0
structure Cfg where
 con : List (Nat × Nat) := []
 own : Nat := 0
 loops : List (Nat × LoopA) := []
 joins : List (Nat × LoopA) := []
 wraps : List Nat := []
 rows : List (Nat × Nat) := []
 retire : List Nat := []
 lents : List (Nat × List (Nat × Nat)) := []
 mine : List (Nat × Nat) := []
 pans : List Nat := []
 np : Bool := false
 fns : List (Nat × Nat) := []
 rcells : List (Nat × Nat × Nat) := []
 keepB : List (Nat × Nat × Nat) := []
 unroll : List (Nat × Nat) := []
 mrows : List (Nat × Nat × Nat) := []
 lrows : List (Nat × List (Nat × Nat × Nat)) := []
 news : List (Nat × Nat) := []
 shows : List (Nat × List Nat) := []
 views : List Nat := []
 early : List (Nat × List X) := []
def Cfg.lnm (Γ : Cfg) : List Nat := Γ.mine.map (·.1) ++ Γ.mrows.map fun q => cname q.1 q.2.1
def i64ok (x : X) : X := .bin .and (.bin .le (.int (-9223372036854775808)) x) (.bin .le x (.int 9223372036854775807))
def X.not : X → X
 | .bool t => .bool (!t)
 | .un .not x => x
 | x => .un .not x
def mkAdd : X → X → X
 | .int a, .int b => .int (a + b)
 | x, y => .bin .add x y
def mkSub : X → X → X
 | .int a, .int b => .int (a - b)
 | x, y => .bin .sub x y
def mkEq : X → X → X
 | .int a, .int b => .bool (a == b)
 | x, y => .bin .eq x y
def mkLt : X → X → X
 | .int a, .int b => .bool (decide (a < b))
 | x, y => .bin .lt x y
def mkLe : X → X → X
 | .int a, .int b => .bool (decide (a ≤ b))
 | x, y => .bin .le x y
def mkCast : X → X
 | .nat n => .int n
 | x => .un .cast x
def mkNat : X → X
 | .un .cast x => x
 | .int n => .nat n.toNat
 | x => .un .nat x
def mkMulN (k : Nat) (x : X) : X := if k = 1 then x else match x with | .nat n => .nat (n * k) | x => .bin .nmul x (.nat k)
def mkAddN : X → X → X
 | .nat a, .nat b => .nat (a + b)
 | x, .nat 0 => x
 | .nat 0, x => x
 | x, y => .bin .nadd x y
def mkPadd (a o : X) : X :=
 match o with
 | .nat 0 => a
 | o => match a with | .bin .padd a o' => .bin .padd a (mkAddN o' o) | a => .bin .padd a o
def mkApp : X → X → X
 | .lnil, x => x
 | x, .lnil => x
 | x, y => .bin .app x y
def arith (keep : Bool) (o : BinOp) (k : IntKind) (x y : X) : Option (C1 × List X) :=
 let w (z : X) : C1 × List X := if k = .i64 && !keep then (.int k z, [i64ok z]) else (.int k (.un (.wrap k) z), [])
 match o with
 | .add => some (w (mkAdd x y))
 | .sub => some (w (mkSub x y))
 | .mul => some (w (.bin .mul x y))
 | .quo => let r := w (.bin .quo x y); some (r.1, X.not (mkEq y (.int 0)) :: r.2)
 | .rem => some (.int k (.bin .rem x y), [X.not (mkEq y (.int 0))])
 | .and | .or | .xor | .andNot => some (.int k (.bin (.bits o k) x y), [])
 | .eql => some (.bool (mkEq x y), [])
 | .neq => some (.bool (X.not (mkEq x y)), [])
 | .lss => some (.bool (mkLt x y), [])
 | .leq => some (.bool (mkLe x y), [])
 | .gtr => some (.bool (mkLt y x), [])
 | .geq => some (.bool (mkLe y x), [])
 | _ => none
def strOp (o : BinOp) (x y : X) : Option (C1 × List X) :=
 match o with
 | .add => some (.str (.bin .sapp x y), [.bin .le (.un .cast (.bin .nadd (.un .size x) (.un .size y))) (.int 9223372036854775807)])
 | .eql => some (.bool (.bin .seq x y), [])
 | .neq => some (.bool (.un .not (.bin .seq x y)), [])
 | .lss => some (.bool (.bin .slt x y), [])
 | .leq => some (.bool (.bin .or (.bin .slt x y) (.bin .seq x y)), [])
 | .gtr => some (.bool (.un .not (.bin .or (.bin .slt x y) (.bin .seq x y))), [])
 | .geq => some (.bool (.un .not (.bin .slt x y)), [])
 | _ => none
def binC (keep : Bool) (o : BinOp) (x y : C1) : Option (C1 × List X) :=
 match o, x, y with
 | .shl, .int k a, .int _ b => some (.int k (.bin (.shl k) a b), [mkLe (.int 0) b])
 | .shr, .int k a, .int _ b => some (.int k (.bin (.shr k) a b), [mkLe (.int 0) b])
 | o, .int k a, .int k' b => if k = k' ∧ o ≠ .shl ∧ o ≠ .shr then arith keep o k a b else none
 | o, .str a, .str b => strOp o a b
 | _, _, _ => none
def eqC (P : Program) (t : Nat) (x y : C1) : Option X :=
 match P.underlying t, x, y with
 | some .bool, .bool a, .bool b => some (.bin .beq a b)
 | some (.pointer _), .ptr a, .ptr .pnil => some (.un .isnil a)
 | some (.pointer _), .own _ _, .ptr .pnil => some (.bool false)
 | some (.slice _), .slc a _ _, .slc .pnil _ _ => some (.un .isnil a)
 | _, _, _ => none
def St.know (S : St) (c : X) : St := { S with known := c :: S.known }
def needs (S : St) : List X → (St → VC) → VC
 | [], k => k S
 | c :: l, k => if c = .bool true ∨ S.known.contains c = true then needs S l k else .need c (needs (S.know c) l k)
def needsF (fs : List FX) (S : St) : List X → (St → VC) → VC
 | [], k => k S
 | c :: l, k => if c = .bool true ∨ S.known.contains c = true then needsF fs S l k else match c with
  | .un .not (.un .isnil _) => .needw c fs (needsF fs (S.know c) l k)
  | _ => .need c (needsF fs (S.know c) l k)
def mkIsnil : X → X
 | .bin .padd a _ => .un .isnil a
 | a => .un .isnil a
def fieldOf (P : Program) (t i : Nat) : Option Field :=
 match P.underlying t with
 | some (.struct fs) => fs[i]?
 | _ => none
def sizeB (P : Program) (t : Nat) : Option Nat := (P.info? t).map (·.size)
def partS (P : Program) (t : Nat) (l : List C1) (off : Nat) : Option SV1 :=
 match P.info? t, P.underlying t with
 | none, _ | _, none => none
 | some i, some _ =>
  if isAggB P t then if off + i.size ≤ l.length then some (.agg ((l.drop off).take i.size)) else none
  else (l[off]?).map .one
def exs : List Srt → St → (St → VC) → VC
 | [], S, k => k S
 | so :: l, S, k => .ex S.nv so (exs l { S with nv := S.nv + 1 } k)
def alls : List Srt → St → (St → VC) → VC
 | [], S, k => k S
 | so :: l, S, k => .all S.nv so (alls l { S with nv := S.nv + 1 } k)
def bound (S : St) (d : X) : Option Operand → Option X
 | none => some d
 | some x => match S.opd x with | some (.s (.one (.int _ q))) => some q | _ => none
def cutA (a c : X) (z : Nat) : X → X
 | .int 0 => a
 | l => .tri .ite (.bin .eq (.un .cast c) l) a (mkPadd a (mkMulN z (mkNat l)))
def bytesAt (p : X) : List FX → Option (X × X)
 | [] => none
 | .bytes a s :: l => if p = a then some (.nat 0, s) else match p with | .bin .padd a' o => if a' = a then some (o, s) else bytesAt p l | _ => bytesAt p l
 | _ :: l => bytesAt p l
def mkAnd : X → X → X
 | .bool true, x => x
 | x, .bool true => x
 | x, y => .bin .and x y
def eqK (P : Program) (t : Nat) (x y : C1) : Option X :=
 match P.underlying t, x, y with
 | some (.int _), .int k a, .int k' b => if k = k' then some (mkEq a b) else none
 | some .bool, .bool a, .bool b => some (.bin .beq a b)
 | some .string, .str a, .str b => some (.bin .seq a b)
 | _, _, _ => none
def eqFs (P : Program) (f : Nat → SV1 → SV1 → Option X) (l m : List C1) : List Field → Option X
 | [] => some (.bool true)
 | g :: fs =>
  if g.name ≠ "_" then
   match partS P g.type l g.offset, partS P g.type m g.offset with
   | some a, some b => match f g.type a b, eqFs P f l m fs with
    | some q, some r => some (mkAnd q r)
    | _, _ => none
   | _, _ => none
  else eqFs P f l m fs
def eqV (P : Program) : Nat → Nat → SV1 → SV1 → Option X
 | 0, _, _, _ => none
 | _ + 1, t, .one a, .one b => eqK P t a b
 | d + 1, t, .agg l, .agg m =>
  match P.underlying t with
  | some (.struct fs) => if P.stoodInHeld t = false then eqFs P (eqV P d) l m fs.toList else none
  | _ => none
 | _, _, _, _ => none
def elems : X → Option (List X)
 | .lnil => some []
 | .un .one x => some [x]
 | .bin .app x y => match elems x, elems y with | some l, some m => some (l ++ m) | _, _ => none
 | _ => none
def litFn (xs off : X) : Option Nat :=
 match off, elems xs with
 | .nat j, some l => match l[j]? with | some (.fn f) => some f | _ => none
 | _, _ => none
def quiet (P : Program) (Γ : Cfg) (fs : List FX) (okm : Nat → Bool) (o : Oper) (S : St) (k : SV → St → VC) : VC :=
 match o.op with
 | .move x | .assign x => match S.opd x with | some v => k v S | none => .no 1
 | .binOp op t x y _ =>
  match S.opd x, S.opd y with
  | some (.s (.one a)), some (.s (.one b)) =>
   match binC (Γ.wraps.contains (o.dst.getD 0)) op a b with
   | some (v, ns) => needs S ns fun S => k (.s (.one v)) S
   | none =>
    match op, eqC P t a b with
    | .eql, some q => k (.s (.one (.bool q))) S
    | .neq, some q => k (.s (.one (.bool (X.not q)))) S
    | _, _ => .no 2
  | some (.s (.agg a)), some (.s (.agg b)) =>
   match op, eqV P 8 t (.agg a) (.agg b) with
   | .eql, some q => k (.s (.one (.bool q))) S
   | .neq, some q => k (.s (.one (.bool (X.not q)))) S
   | _, _ => .no 3
  | _, _ => .no 3
 | .unOp .not _ x => match S.opd x with | some (.s (.one (.bool q))) => k (.s (.one (.bool (X.not q)))) S | _ => .no 4
 | .unOp .neg _ x => match S.opd x with | some (.s (.one (.int .i64 q))) => (needs S [i64ok (mkSub (.int 0) q)] fun S => k (.s (.one (.int .i64 (mkSub (.int 0) q)))) S) | _ => .no 4
 | .pick c x y =>
  match S.opd c with
  | some (.s (.one (.bool (.bool true)))) => match S.opd x with | some v => k v S | none => .no 5
  | some (.s (.one (.bool (.bool false)))) => match S.opd y with | some v => k v S | none => .no 5
  | some (.s (.one (.bool q))) =>
   match S.opd x, S.opd y with
   | some (.s (.one (.bool v))), some (.s (.one (.bool u))) => k (.s (.one (.bool (.tri .ite q v u)))) S
   | some (.s (.one (.int k1 v))), some (.s (.one (.int k2 u))) => if k1 = k2 then k (.s (.one (.int k1 (.tri .ite q v u)))) S else .no 5
   | _, _ => .no 5
  | _ => .no 5
 | .convert s t x =>
  match S.opd x, P.underlying s, P.underlying t with
  | some (.s (.one (.int _ q))), some _, some (.int j) => k (.s (.one (.int j (.un (.wrap j) q)))) S
  | some (.s (.one (.str q))), some _, some .string => k (.s (.one (.str q))) S
  | some (.s (.one (.slc A n _))), some (.slice e), some .string =>
   match P.underlying e with
   | some (.int .u8) => if S.ok then .ex S.nv .s (.reads fs 1 A n (.un .sl (.var S.nv)) (k (.s (.one (.str (.var S.nv)))) { S with nv := S.nv + 1 })) else .no 131
   | _ => .no 131
  | some (.s (.one (.row m n))), some (.slice e), some .string =>
   match P.underlying e, S.rowOf m with
   | some (.int .u8), some r => if S.ok = true ∧ okm m = true ∧ r.size = 1 ∧ r.n = n then .ex S.nv .s (.leq r.xs (.un .sl (.var S.nv)) (k (.s (.one (.str (.var S.nv)))) { S with nv := S.nv + 1 })) else .no 132
   | _, _ => .no 132
  | _, _, _ => .no 6
 | .nilCheck x =>
  match S.opd x with
  | some (.s (.one (.own m off))) => k (.s (.one (.own m off))) S
  | some (.s (.one (.ptr p))) => (needsF fs S [.un .not (mkIsnil p)] fun S => k (.s (.one (.ptr p))) S)
  | _ => .no 7
 | .fieldAddr t x i =>
  match fieldOf P t i, S.opd x with
  | some f, some (.s (.one (.own m off))) => if (sizeB P f.type).getD 0 = 0 then .no 8 else k (.s (.one (.own m (off + f.offset)))) S
  | some f, some (.s (.one (.ptr p))) => if (sizeB P f.type).getD 0 = 0 then .no 8 else (needsF fs S [.un .not (mkIsnil p)] fun S => k (.s (.one (.ptr (mkPadd p (.nat f.offset))))) S)
  | some f, some (.s (.one (.rowp m x))) =>
   match S.rowOf m with
   | some r => if (sizeB P f.type).getD 0 = 0 ∨ okm m = false then .no 8 else (needs S [mkLt (.int 0) (mkCast r.n)] fun S => k (.s (.one (.rowp m (mkAddN x (.nat f.offset))))) S)
   | none => .no 8
  | _, _ => .no 8
 | .field t x i =>
  match fieldOf P t i, S.opd x with
  | some f, some (.s (.agg l)) => match partS P f.type l f.offset with | some v => k (.s v) S | none => .no 9
  | _, _ => .no 9
 | .extract x i => match S.opd x with | some (.tup l) => (match l[i]? with | some v => k (.s v) S | none => .no 10) | _ => .no 10
 | .index t x i =>
  match P.underlying t, S.opd x, S.opd i with
  | some .string, some (.s (.one (.str s))), some (.s (.one (.int _ q))) =>
   (needs S [mkLe (.int 0) q, mkLt q (mkCast (.un .size s))] fun S => k (.s (.one (.int .u8 (.bin .byte s (mkNat q))))) S)
  | _, _, _ => .no 11
 | .indexAddr t x i =>
  match P.underlying t, S.opd x, S.opd i with
  | some (.slice e), some (.s (.one (.slc a n _))), some (.s (.one (.int _ q))) =>
   match sizeB P e with
   | some z => (needsF fs S [.un .not (mkIsnil a), mkLe (.int 0) q, mkLt q (mkCast n)] fun S => k (.s (.one (.ptr (mkPadd a (mkMulN z (mkNat q)))))) S)
   | none => .no 12
  | some (.slice e), some (.s (.one (.row m n))), some (.s (.one (.int _ q))) =>
   match sizeB P e, S.rowOf m with
   | some z, some r => if r.n = n ∧ okm m then (needs S [mkLe (.int 0) q, mkLt q (mkCast n)] fun S => k (.s (.one (.rowp m (mkMulN z (mkNat q))))) S) else .no 12
   | _, _ => .no 12
  | some (.slice e), some (.s (.one (.bslc m n))), some (.s (.one (.int _ (.int q)))) =>
   match sizeB P e with
   | some z => if 0 ≤ q ∧ q < n then k (.s (.one (.own m (q.toNat * z)))) S else .no 12
   | none => .no 12
  | _, _, _ => .no 12
 | .slice t x lo hi none =>
  match P.underlying t, S.opd x with
  | some .string, some (.s (.one (.str s))) =>
   match bound S (.int 0) lo, bound S (mkCast (.un .size s)) hi with
   | some l, some h => (needs S [mkLe (.int 0) h, mkLe h (mkCast (.un .size s)), mkLe (.int 0) l, mkLe l h] fun S => k (.s (.one (.str (.tri .ext s (mkNat l) (mkNat h))))) S)
   | _, _ => .no 13
  | some (.slice e), some (.s (.one (.slc a n c))) =>
   match sizeB P e, bound S (.int 0) lo, bound S (mkCast n) hi with
   | some z, some l, some h =>
    (needs S [mkLe (.int 0) h, mkLe h (mkCast c), mkLe (.int 0) l, mkLe l h] fun S => k (.s (.one (.slc (cutA a c z l) (.bin .nsub (mkNat h) (mkNat l)) (.bin .nsub c (mkNat l))))) S)
   | _, _, _ => .no 13
  | _, _ => .no 13
 | .load t x =>
  match S.opd x with
  | some (.s (.one (.own m off))) =>
   match S.block m with
   | some (_, cs) => if okm m then (match partS P t cs off with | some v => k (.s v) S | none => .no 14) else .no 14
   | none => .no 14
  | some (.s (.one (.ptr p))) =>
   match shOf P t, P.info? t with
   | some sh, some i =>
    match (if sh = .one (.int .u8) ∧ i.size = 1 then bytesAt p fs else none) with
    | some (off, s) => needs S [mkLt (mkCast off) (mkCast (.un .size s))] fun S => k (.s (.one (.int .u8 (.bin .byte s off)))) S
    | none =>
    if S.ok && sh.lfs.length == i.size then
     exs (lfsSrts sh.lfs) S fun S' =>
      match (freshs S.nv sh.lfs).mapM (C1.x S') with
      | some cs => .loads fs p cs (k (.s (sh.fresh S.nv)) S')
      | none => .no 15
    else .no 15
   | _, _ => .no 15
  | some (.s (.one (.rowp m off))) =>
   match shOf P t, S.rowOf m, P.info? t with
   | some sh, some r, some i =>
    match (if okm m = true ∧ sh = .one .val ∧ i.size = 1 then litFn r.xs off else none) with
    | some f => k (.s (.one (.val (.fn f)))) S
    | none =>
    if S.ok && okm m && sh.lfs.length == i.size && !(i.size == 0) then
     exs (lfsSrts sh.lfs) S fun S' =>
      match (freshs S.nv sh.lfs).mapM (C1.x S') with
      | some cs => .cells r.xs off cs (k (.s (sh.fresh S.nv)) S')
      | none => .no 16
    else .no 16
   | _, _, _ => .no 16
  | _ => .no 17
 | .makeInterface t x =>
  match P.underlying t, S.opd x with
  | some (.interface _), _ => .no 113
  | some _, some (.s (.one c)) => match c.x S with | some v => k (.s (.one (.val (.un (.viface t) v)))) S | none => .no 113
  | _, _ => .no 113
 | .call { callee := .builtin .len, args, argTypes } =>
  match argTypes[0]?, (args[0]?).bind S.opd with
  | some t, some (.s (.one c)) =>
   match P.underlying t, c with
   | some .string, .str s => k (.s (.one (.int .i64 (mkCast (.un .size s))))) S
   | some (.slice _), .slc _ n _ => k (.s (.one (.int .i64 (mkCast n)))) S
   | some (.slice _), .row _ n => k (.s (.one (.int .i64 (mkCast n)))) S
   | some (.slice _), .bslc _ n => k (.s (.one (.int .i64 (.int n)))) S
   | _, _ => .no 18
  | _, _ => .no 18
 | .call { callee := .builtin .min, args, argTypes := _ } =>
  match args.toList.mapM S.opd with
  | some [.s (.one (.int j x)), .s (.one (.int j' y))] => if j = j' then k (.s (.one (.int j (.tri .ite (mkLt y x) y x)))) S else .no 133
  | _ => .no 133
 | .call { callee := .builtin .max, args, argTypes := _ } =>
  match args.toList.mapM S.opd with
  | some [.s (.one (.int j x)), .s (.one (.int j' y))] => if j = j' then k (.s (.one (.int j (.tri .ite (mkLt x y) y x)))) S else .no 133
  | _ => .no 133
 | _ => .no 19
def isQuiet : Op → Bool
 | .move _ | .assign _ | .binOp .. | .unOp .. | .pick .. | .convert .. | .nilCheck _ | .fieldAddr .. | .field .. | .extract .. | .index .. | .indexAddr .. | .slice .. | .load .. | .makeInterface .. => true
 | .call { callee := .builtin .len, .. } | .call { callee := .builtin .min, .. } | .call { callee := .builtin .max, .. } => true
 | _ => false
end Go.Proofs.Ytgjbcahpgkchfaa.Vc
