/- Of the texts VcO, VcP, Ty5, Ty6. -/
import Derived.Test.YtgjbcahpgkchfaaG20
import Derived.Test.YtgjbcahpgkchfaaProg
import Derived.Test.YtgjbcahpgkchfaaG02
set_option linter.unusedSimpArgs false
set_option linter.unusedVariables false
namespace Go.Proofs.Ytgjbcahpgkchfaa.Vc
open Go Go.RowKit
structure Alg where
 T : Type
 tt : T
 ff : T
 allI : (Int → T) → T
 allN : (Nat → T) → T
 allB : (Bool → T) → T
 allS : (ByteArray → T) → T
 allP : (Option Addr → T) → T
 allL : (List Value → T) → T
 allV : (Value → T) → T
 exI : (Int → T) → T
 exN : (Nat → T) → T
 exB : (Bool → T) → T
 exS : (ByteArray → T) → T
 exP : (Option Addr → T) → T
 exL : (List Value → T) → T
 exV : (Value → T) → T
 exG : (U → T) → T
 allG : (U → T) → T
 imp : T → T → T
 and : T → T → T
 or : T → T → T
 not : T → T
 isT : Bool → T
 eqI : Int → Int → T
 ltI : Int → Int → T
 leI : Int → Int → T
 allW : (World → T) → T
 pre : Ctr → List U → World → T
 post : Ctr → List U → List U → T
 fact : Ctr → List U → List U → World → T
 inv : Inv → List U → T
 invF : Inv → List U → World → T
 less : Inv → List U → List U → T
 row : World → Nat → Nat → Nat → Value → Nat → List Value → T
 blk : World → Nat → List Value → Nat → T
 loads : World → Option Addr → List Value → T
 cells : List Value → Nat → List Value → T
 ones : List Value → T
 leq : List Value → List Value → T
 reads : World → Nat → Option Addr → Nat → List Value → T
 bytes : World → Option Addr → ByteArray → T
 isfn : Value → Nat → T
 pan : Ctr → List U → Ctr → List U → T
 panv : Ctr → List U → Value → T
 fn : Nat → Value
 int : Int → Int
 nat : Nat → Nat
 str : List UInt8 → ByteArray
 tru : Bool → Bool
 wrap : IntKind → Int → Int
 bnot : Bool → Bool
 cast : Nat → Int
 toNat : Int → Nat
 size : ByteArray → Nat
 isnil : Option Addr → Bool
 len : List Value → Nat
 sl : ByteArray → List Value
 add : Int → Int → Int
 sub : Int → Int → Int
 mul : Int → Int → Int
 quo : Int → Int → Int
 rem : Int → Int → Int
 bits : BinOp → IntKind → Int → Int → Int
 shl : IntKind → Int → Int → Int
 shr : IntKind → Int → Int → Int
 eqB : Int → Int → Bool
 ltB : Int → Int → Bool
 leB : Int → Int → Bool
 beq : Bool → Bool → Bool
 band : Bool → Bool → Bool
 bor : Bool → Bool → Bool
 seq : ByteArray → ByteArray → Bool
 slt : ByteArray → ByteArray → Bool
 sapp : ByteArray → ByteArray → ByteArray
 byte : ByteArray → Nat → Int
 nadd : Nat → Nat → Nat
 nsub : Nat → Nat → Nat
 nmul : Nat → Nat → Nat
 app : List Value → List Value → List Value
 padd : Option Addr → Nat → Option Addr
 take : List Value → Nat → List Value
 rep : Nat → Value → List Value
 iteI : Bool → Int → Int → Int
 iteN : Bool → Nat → Nat → Nat
 iteB : Bool → Bool → Bool → Bool
 iteS : Bool → ByteArray → ByteArray → ByteArray
 iteP : Bool → Option Addr → Option Addr → Option Addr
 ext : ByteArray → Nat → Nat → ByteArray
 set : List Value → Nat → Value → List Value
 nilv : Nat → Value
@[reducible] def std : Alg where
 T := Prop
 tt := True
 ff := False
 allI f := ∀ x, f x
 allN f := ∀ x, f x
 allB f := ∀ x, f x
 allS f := ∀ x, f x
 allP f := ∀ x, f x
 allL f := ∀ x, f x
 allV f := ∀ x, f x
 exI f := ∃ x, f x
 exN f := ∃ x, f x
 exB f := ∃ x, f x
 exS f := ∃ x, f x
 exP f := ∃ x, f x
 exL f := ∃ x, f x
 exV f := ∃ x, f x
 exG f := ∃ (α : Type) (x : α), f (.g x)
 allG f := ∀ (α : Type) (x : α), f (.g x)
 imp a b := a → b
 and a b := a ∧ b
 or a b := a ∨ b
 not a := ¬ a
 isT b := b = true
 eqI x y := x = y
 ltI x y := x < y
 leI x y := x ≤ y
 allW f := ∀ w, f w
 pre c us w := c.pre us w
 post c us os := c.post us os
 fact c us os w := c.fact us os w
 inv c us := c.inv us
 invF c us w := c.fact us w
 less c us vs := c.mea vs < c.mea us
 row w _ e size v n xs := w.ownsRow 0 e size v n xs
 blk w b xs t := w.heap[b]? = some (.cells xs.toArray t (0, 0))
 loads w a cs := LoadsAt w a cs
 cells xs off cs := ∀ j v, cs[j]? = some v → xs[off + j]? = some v
 ones xs := ∀ v ∈ xs, v.oneCell' = true
 leq xs ys := xs = ys
 reads w size a n xs := ∃ B, Rd w B size a n xs
 bytes w a s := ∃ g, a = some ⟨g, 0, none⟩ ∧ ∀ j, j < s.size → w.cell? ⟨g, j, none⟩ = some (.int .u8 (s.data.toList.getD j 0).toNat)
 isfn v f := v = .func (.func f) #[] #[]
 pan c us c0 us0 := ∀ ch, c.pan us ch → c0.pan us0 ch
 panv c us v := c.pan us [{ v := v, recovered := false }]
 fn f := .func (.func f) #[] #[]
 int n := n
 nat n := n
 str l := ⟨l.toArray⟩
 tru t := t
 wrap k x := k.wrap x
 bnot b := !b
 cast n := n
 toNat x := x.toNat
 size s := s.size
 isnil a := a.isNone
 len l := l.length
 sl s := bytesV s
 add x y := x + y
 sub x y := x - y
 mul x y := x * y
 quo x y := x.tdiv y
 rem x y := x.tmod y
 bits o k x y := bitsI o k x y
 shl k x y := shlI k x y
 shr k x y := shrI k x y
 eqB x y := x == y
 ltB x y := decide (x < y)
 leB x y := decide (x ≤ y)
 beq x y := x == y
 band x y := x && y
 bor x y := x || y
 seq x y := x.toList == y.toList
 slt x y := Op.bytesLess x.toList y.toList
 sapp x y := x ++ y
 byte s k := (s.data.toList.getD k 0).toNat
 nadd x y := x + y
 nsub x y := x - y
 nmul x y := x * y
 app x y := x ++ y
 padd a k := a.map (·.add k)
 take l k := l.take k
 rep k v := List.replicate k v
 iteI b x y := bif b then x else y
 iteN b x y := bif b then x else y
 iteB b x y := bif b then x else y
 iteS b x y := bif b then x else y
 iteP b x y := bif b then x else y
 ext s a b := s.extract a b
 set l k v := l.set k v
 nilv k := nilV k
def UOp.denO (O : Alg) : UOp → U → U
 | .wrap k, x => .i (O.wrap k x.I)
 | .not, x => .b (O.bnot x.B)
 | .cast, x => .i (O.cast x.N)
 | .nat, x => .n (O.toNat x.I)
 | .size, x => .n (O.size x.S)
 | .isnil, x => .b (O.isnil x.P)
 | .one, x => .l [x.V]
 | .viface t, x => .v (.iface t x.V)
 | .vint k, x => .v (.int k x.I)
 | .vbool, x => .v (.bool x.B)
 | .vstr, x => .v (.string x.S)
 | .vptr, x => .v (.pointer x.P)
 | .len, x => .n (O.len x.L)
 | .sl, x => .l (O.sl x.S)
 | .co .i, x => .i x.I | .co .n, x => .n x.N | .co .b, x => .b x.B | .co .s, x => .s x.S | .co .p, x => .p x.P | .co .l, x => .l x.L | .co .v, x => .v x.V | .co .g, x => x
def BOp.denO (O : Alg) : BOp → U → U → U
 | .add, x, y => .i (O.add x.I y.I)
 | .sub, x, y => .i (O.sub x.I y.I)
 | .mul, x, y => .i (O.mul x.I y.I)
 | .quo, x, y => .i (O.quo x.I y.I)
 | .rem, x, y => .i (O.rem x.I y.I)
 | .bits o k, x, y => .i (O.bits o k x.I y.I)
 | .shl k, x, y => .i (O.shl k x.I y.I)
 | .shr k, x, y => .i (O.shr k x.I y.I)
 | .eq, x, y => .b (O.eqB x.I y.I)
 | .lt, x, y => .b (O.ltB x.I y.I)
 | .le, x, y => .b (O.leB x.I y.I)
 | .beq, x, y => .b (O.beq x.B y.B)
 | .and, x, y => .b (O.band x.B y.B)
 | .or, x, y => .b (O.bor x.B y.B)
 | .seq, x, y => .b (O.seq x.S y.S)
 | .slt, x, y => .b (O.slt x.S y.S)
 | .sapp, x, y => .s (O.sapp x.S y.S)
 | .byte, x, y => .i (O.byte x.S y.N)
 | .nadd, x, y => .n (O.nadd x.N y.N)
 | .nsub, x, y => .n (O.nsub x.N y.N)
 | .nmul, x, y => .n (O.nmul x.N y.N)
 | .app, x, y => .l (O.app x.L y.L)
 | .padd, x, y => .p (O.padd x.P y.N)
 | .take, x, y => .l (O.take x.L y.N)
 | .rep, x, y => .l (O.rep x.N y.V)
def iteO (O : Alg) (b : Bool) : U → U → U
 | .i x, .i y => .i (O.iteI b x y)
 | .n x, .n y => .n (O.iteN b x y)
 | .b x, .b y => .b (O.iteB b x y)
 | .s x, .s y => .s (O.iteS b x y)
 | .p x, .p y => .p (O.iteP b x y)
 | x, y => bif b then x else y
def TOp.denO (O : Alg) : TOp → U → U → U → U
 | .ite, x, y, z => iteO O x.B y z
 | .vslc, x, y, z => .v (.slice x.P y.N z.N)
 | .ext, x, y, z => .s (O.ext x.S y.N z.N)
 | .set, x, y, z => .l (O.set x.L y.N z.V)
def X.denO (O : Alg) (ρ : Nat → U) : X → U
 | .var k => ρ k
 | .int n => .i (O.int n)
 | .nat n => .n (O.nat n)
 | .bool t => .b (O.tru t)
 | .str l => .s (O.str l)
 | .pnil => .p none
 | .lnil => .l []
 | .vnil k => .v (O.nilv k)
 | .fn f => .v (O.fn f)
 | .un o x => o.denO O (x.denO O ρ)
 | .bin o x y => o.denO O (x.denO O ρ) (y.denO O ρ)
 | .tri o x y z => o.denO O (x.denO O ρ) (y.denO O ρ) (z.denO O ρ)
def X.holdsO (O : Alg) (ρ : Nat → U) : X → O.T
 | .bin .eq x y => O.eqI (x.denO O ρ).I (y.denO O ρ).I
 | .bin .lt x y => O.ltI (x.denO O ρ).I (y.denO O ρ).I
 | .bin .le x y => O.leI (x.denO O ρ).I (y.denO O ρ).I
 | .bin .and x y => O.and (x.holdsO O ρ) (y.holdsO O ρ)
 | .bin .or x y => O.or (x.holdsO O ρ) (y.holdsO O ρ)
 | .un .not x => O.not (x.holdsO O ρ)
 | .bool t => O.isT (O.tru t)
 | x => O.isT (x.denO O ρ).B
theorem iteO_std (b : Bool) (x y : U) : iteO std b x y = bif b then x else y := by cases x <;> cases y <;> first | rfl | (cases b <;> rfl)
theorem X.denO_std (ρ : Nat → U) : ∀ x : X, x.denO std ρ = x.den ρ := by
 intro x
 induction x with
 | un o x ih => simp only [X.denO, X.den, ih]; cases o <;> first | rfl | (rename_i s; cases s <;> rfl)
 | bin o x y ih1 ih2 => simp only [X.denO, X.den, ih1, ih2]; cases o <;> rfl
 | tri o x y z ih1 ih2 ih3 => simp only [X.denO, X.den, ih1, ih2, ih3]; cases o <;> first | rfl | exact iteO_std _ _ _
 | _ => rfl
theorem X.holdsO_std (ρ : Nat → U) : ∀ x : X, x.holdsO std ρ = x.holds ρ := by
 intro x
 induction x with
 | un o x ih => cases o <;> simp only [X.holdsO, X.holds, ih, X.denO_std]
 | bin o x y ih1 ih2 => cases o <;> simp only [X.holdsO, X.holds, ih1, ih2, X.denO_std]
 | bool t => rfl
 | _ => simp only [X.holdsO, X.holds, X.denO_std]
def densO (O : Alg) (ρ : Nat → U) : List X → List U
 | [] => []
 | x :: l => x.denO O ρ :: densO O ρ l
theorem densO_std (ρ : Nat → U) : ∀ l : List X, densO std ρ l = dens ρ l
 | [] => rfl
 | x :: l => by simp only [densO, dens, List.map_cons, X.denO_std, densO_std ρ l]
def valsO (O : Alg) (ρ : Nat → U) : List X → List Value
 | [] => []
 | x :: l => (x.denO O ρ).V :: valsO O ρ l
theorem valsO_std (ρ : Nat → U) : ∀ l : List X, valsO std ρ l = l.map fun x => (x.den ρ).V
 | [] => rfl
 | x :: l => by simp only [valsO, List.map_cons, X.denO_std, valsO_std ρ l]
structure Env where
 C : Nat → Ctr
 s : Ctr
 I : Nat → Inv
 us : List U
 base : Nat
def Env.sm (E : Env) (ln : List (Nat × Nat)) (df : List Deferred := []) : Sm :=
 { base := E.base, lnames := ln, df := df, pre0 := E.s.pre E.us, post0 := E.s.post E.us, fact0 := E.s.fact E.us, pre := fun f => (E.C f).pre, post := fun f => (E.C f).post, fact := fun f => (E.C f).fact, inv := fun j => (E.I j).inv, invF := fun j => (E.I j).fact, mea := fun j => (E.I j).mea, pan0 := E.s.pan E.us, pan := fun f => (E.C f).pan }
def FX.denO (O : Alg) (E : Env) (ρ : Nat → U) (w : World) : FX → O.T
 | .pre => O.pre E.s E.us w
 | .fact f us os => O.fact (E.C f) (densO O ρ us) (densO O ρ os) w
 | .inv j us => O.invF (E.I j) (densO O ρ us) w
 | .row e size a n c xs => O.row w E.base e size (.slice (a.denO O ρ).P (n.denO O ρ).N (c.denO O ρ).N) (n.denO O ρ).N (xs.denO O ρ).L
 | .blk b t xs => O.blk w (b.denO O ρ).N (valsO O ρ xs) t
 | .bytes a s => O.bytes w (a.denO O ρ).P (s.denO O ρ).S
theorem FX.denO_std (E : Env) (ln : List (Nat × Nat)) (df : List Deferred) (ρ : Nat → U) (w : World) (F : FX) : F.denO std E ρ w = F.den (E.sm ln df) ρ w := by
 cases F <;> simp only [FX.denO, FX.den, densO_std, X.denO_std, valsO_std] <;> rfl
def andO (O : Alg) (E : Env) (ρ : Nat → U) (w : World) : List FX → O.T → O.T
 | [], t => t
 | G :: l, t => andO O E ρ w l (O.and t (G.denO O E ρ w))
def givenO (O : Alg) (E : Env) (ρ : Nat → U) (fs : List FX) (c : World → O.T) : O.T :=
 match fs with
 | [] => O.allW fun w => c w
 | F :: l => O.allW fun w => O.imp (andO O E ρ w l (F.denO O E ρ w)) (c w)
theorem andO_std (E : Env) (ln : List (Nat × Nat)) (df : List Deferred) (ρ : Nat → U) (w : World) : ∀ (l : List FX) (t : Prop), andO std E ρ w l t = l.foldl (fun a G => a ∧ G.den (E.sm ln df) ρ w) t
 | [], _ => rfl
 | G :: l, t => by rw [andO, List.foldl_cons, andO_std E ln df ρ w l, FX.denO_std E ln df]
theorem givenO_std (E : Env) (ln : List (Nat × Nat)) (df : List Deferred) (ρ : Nat → U) (fs : List FX) (c : World → Prop) : givenO std E ρ fs c = ∀ w : World, given (E.sm ln df) ρ w fs (c w) := by
 cases fs with
 | nil => rfl
 | cons F l =>
  show (∀ w : World, andO std E ρ w l (F.denO std E ρ w) → c w) = _; simp only [andO_std E ln df, FX.denO_std E ln df]; rfl
def VC.denO (O : Alg) (E : Env) (ρ : Nat → U) : VC → O.T
 | .top => O.tt
 | .no _ => O.ff
 | .all n .i k => O.allI fun x => k.denO O E (upd ρ n (.i x))
 | .all n .n k => O.allN fun x => k.denO O E (upd ρ n (.n x))
 | .all n .b k => O.allB fun x => k.denO O E (upd ρ n (.b x))
 | .all n .s k => O.allS fun x => k.denO O E (upd ρ n (.s x))
 | .all n .p k => O.allP fun x => k.denO O E (upd ρ n (.p x))
 | .all n .l k => O.allL fun x => k.denO O E (upd ρ n (.l x))
 | .all n .v k => O.allV fun x => k.denO O E (upd ρ n (.v x))
 | .all n .g k => O.allG fun x => k.denO O E (upd ρ n x)
 | .ex n .i k => O.exI fun x => k.denO O E (upd ρ n (.i x))
 | .ex n .n k => O.exN fun x => k.denO O E (upd ρ n (.n x))
 | .ex n .b k => O.exB fun x => k.denO O E (upd ρ n (.b x))
 | .ex n .s k => O.exS fun x => k.denO O E (upd ρ n (.s x))
 | .ex n .p k => O.exP fun x => k.denO O E (upd ρ n (.p x))
 | .ex n .l k => O.exL fun x => k.denO O E (upd ρ n (.l x))
 | .ex n .v k => O.exV fun x => k.denO O E (upd ρ n (.v x))
 | .ex n .g k => O.exG fun x => k.denO O E (upd ρ n x)
 | .imp c k => O.imp (c.holdsO O ρ) (k.denO O E ρ)
 | .need c k => O.and (c.holdsO O ρ) (k.denO O E ρ)
 | .needw c fs k => O.and (givenO O E ρ fs fun _ => c.holdsO O ρ) (k.denO O E ρ)
 | .and a b => O.and (a.denO O E ρ) (b.denO O E ρ)
 | .pre f us fs k => O.and (givenO O E ρ fs fun w => O.pre (E.C f) (densO O ρ us) w) (k.denO O E ρ)
 | .post f us os k => O.imp (O.post (E.C f) (densO O ρ us) (densO O ρ os)) (k.denO O E ρ)
 | .inv j us fs k => O.and (O.inv (E.I j) (densO O ρ us)) (O.and (givenO O E ρ fs fun w => O.invF (E.I j) (densO O ρ us) w) (k.denO O E ρ))
 | .hyp j us k => O.imp (O.inv (E.I j) (densO O ρ us)) (k.denO O E ρ)
 | .less j us vs k => O.and (O.less (E.I j) (densO O ρ us) (densO O ρ vs)) (k.denO O E ρ)
 | .loads fs a cs k => O.and (givenO O E ρ fs fun w => O.loads w (a.denO O ρ).P (valsO O ρ cs)) (k.denO O E ρ)
 | .cells xs off cs k => O.and (O.cells (xs.denO O ρ).L (off.denO O ρ).N (valsO O ρ cs)) (k.denO O E ρ)
 | .ones xs k => O.and (O.ones (xs.denO O ρ).L) (k.denO O E ρ)
 | .leq xs ys k => O.and (O.leq (xs.denO O ρ).L (ys.denO O ρ).L) (k.denO O E ρ)
 | .reads fs size a n xs k => O.and (givenO O E ρ fs fun w => O.reads w size (a.denO O ρ).P (n.denO O ρ).N (xs.denO O ρ).L) (k.denO O E ρ)
 | .ret os fs => O.and (O.post E.s E.us (densO O ρ os)) (givenO O E ρ fs fun w => O.fact E.s E.us (densO O ρ os) w)
 | .isfn x f k => O.and (O.isfn (x.denO O ρ).V f) (k.denO O E ρ)
 | .pan f us k => O.and (O.pan (E.C f) (densO O ρ us) E.s E.us) (k.denO O E ρ)
 | .panv x => O.panv E.s E.us (x.denO O ρ).V
 | .st _ => O.ff
theorem VC.denO_std (E : Env) (ln : List (Nat × Nat)) (df : List Deferred) : ∀ (v : VC) (ρ : Nat → U), v.denO std E ρ = v.den (E.sm ln df) ρ := by
 intro v
 induction v with
 | all n so k ih => intro ρ; cases so <;> simp only [VC.denO, VC.den, ih]
 | ex n so k ih => intro ρ; cases so <;> simp only [VC.denO, VC.den, ih]
 | imp c k ih => intro ρ; simp only [VC.denO, VC.den, ih, X.holdsO_std]
 | need c k ih => intro ρ; simp only [VC.denO, VC.den, ih, X.holdsO_std]
 | needw c fs k ih => intro ρ; simp only [VC.denO, VC.den, ih, X.holdsO_std, givenO_std E ln df]
 | and a b ih1 ih2 => intro ρ; simp only [VC.denO, VC.den, ih1, ih2]
 | pre f us fs k ih => intro ρ; simp only [VC.denO, VC.den, ih, givenO_std E ln df, densO_std]; rfl
 | post f us os k ih => intro ρ; simp only [VC.denO, VC.den, ih, densO_std]; rfl
 | inv j us fs k ih => intro ρ; simp only [VC.denO, VC.den, ih, givenO_std E ln df, densO_std]; rfl
 | hyp j us k ih => intro ρ; simp only [VC.denO, VC.den, ih, densO_std]; rfl
 | less j us vs k ih => intro ρ; simp only [VC.denO, VC.den, ih, densO_std]; rfl
 | loads fs a cs k ih => intro ρ; simp only [VC.denO, VC.den, ih, givenO_std E ln df, X.denO_std, valsO_std]
 | cells xs off cs k ih => intro ρ; simp only [VC.denO, VC.den, ih, X.denO_std, valsO_std]
 | ones xs k ih => intro ρ; simp only [VC.denO, VC.den, ih, X.denO_std]
 | leq xs ys k ih => intro ρ; simp only [VC.denO, VC.den, ih, X.denO_std]
 | reads fs size a n xs k ih => intro ρ; simp only [VC.denO, VC.den, ih, givenO_std E ln df, X.denO_std]
 | ret os fs => intro ρ; simp only [VC.denO, VC.den, givenO_std E ln df, densO_std]; rfl
 | isfn x f k ih => intro ρ; simp only [VC.denO, VC.den, ih, X.denO_std]
 | pan f us k ih => intro ρ; simp only [VC.denO, VC.den, ih, densO_std]; rfl
 | panv x => intro ρ; simp only [VC.denO, VC.den, X.denO_std]; rfl
 | _ => intro ρ; rfl
inductive Plan | done | take (i : Nat) (p : Plan) | act (i : Nat) (p : Plan) | skip (i : Nat) (p : Plan) | split (i : Nat) (p q : Plan)
def takesTo (p : Plan) : Nat → Nat → Plan
 | _, 0 => p
 | i, c + 1 => .take i (takesTo p (i + 1) c)
def planOf : Nat → List Nat → Plan × List Nat
 | 0, l => (.done, l)
 | _ + 1, [] => (.done, [])
 | g + 1, n :: l =>
  if n = 999999 then (.done, l) else
  if 999999 < n then let r := planOf g l; (takesTo r.1 ((n - 1000000) / 1000) ((n - 1000000) % 1000), r.2) else
  match n % 4 with
  | 0 => let r := planOf g l; (.take (n / 4) r.1, r.2)
  | 1 => let r := planOf g l; (.act (n / 4) r.1, r.2)
  | 2 => let r := planOf g l; (.skip (n / 4) r.1, r.2)
  | _ => let r := planOf g l; let q := planOf g r.2; (.split (n / 4) r.1 q.1, q.2)
def runPlan (P : Program) (Γ : Cfg) (ops : Array Oper) (fs : List FX) : Plan → St → (St → VC) → VC
 | .done, S, k => k S
 | .take i p, S, k =>
  match ops[i]? with
  | some o => quiet P Γ fs (fun _ => true) o S fun v S' => runPlan P Γ ops fs p (S'.put o.dst v) k
  | none => .no 200
 | .act i p, S, k =>
  match ops[i]? with
  | some o => stepG P Γ ops o S fun S' => runPlan P Γ ops fs p S' k
  | none => .no 200
 | .skip i p, S, k =>
  match ops[i]? with
  | some o => runPlan P Γ ops fs p (S.put o.dst undefS) k
  | none => .no 200
 | .split i p q, S, k =>
  match pend ops S i with
  | some (d, c) => .and (.imp c (runPlan P Γ ops fs p ((S.know c).put (some d) (.s (.one (.bool (.bool true))))) k)) (.imp (X.not c) (runPlan P Γ ops fs q ((S.know (X.not c)).put (some d) (.s (.one (.bool (.bool false))))) k))
  | none => .no 201
def choiceQ (run : List Nat → St → (St → VC) → VC) (ops : Array Oper) (S : St) (i : Nat) (l : List Nat) : Option (St × List Nat) :=
 match openG ops S i with
 | none => none
 | some (g, q) =>
  match pickAt ops g (i :: l) with
  | none => none
  | some (l0, p, l') =>
   match endSt (run l0 ((S.know q).put (some g) (.s (.one (.bool (.bool true))))) .st), endSt (run l0 ((S.know (X.not q)).put (some g) (.s (.one (.bool (.bool false))))) .st) with
   | some T1, some T2 =>
    match T1.get p, T2.get p with
    | some (.s (.one (.bool x))), some (.s (.one (.bool y))) => if Nat.beq T1.nv S.nv && Nat.beq T2.nv S.nv then some ({ S with fr := (p, .s (.one (.bool (iteX q x y)))) :: T1.fr.filter fun e => e.1 != p && T1.fr.lookup e.1 == some e.2 && T2.fr.lookup e.1 == some e.2 }, l') else none
    | _, _ => none
   | _, _ => none
def runOpsQ (P : Program) (Γ : Cfg) (ops : Array Oper) : Nat → List Nat → St → (St → VC) → VC
 | 0, l, S, k => runOps P Γ ops l S k
 | _ + 1, [], S, k => k S
 | f + 1, i :: l, S, k =>
  match choiceQ (runOpsQ P Γ ops f) ops S i l with
  | some (M, l') => runOpsQ P Γ ops f l' M k
  | none =>
   match ops[i]? with
   | none => .no 42
   | some o => stepG P Γ ops o S fun S' => runOpsQ P Γ ops f l S' k
def execP (P : Program) (Γ : Cfg) (pl : List (Nat × Plan)) : Code → St → (Ex → St → VC) → VC
 | .skip, S, k => k .normal S
 | .label _, S, k => k .normal S
 | .region r ops draw, S, k =>
  needs S ((Γ.early.lookup r).getD []) fun S =>
  if draw then
   match pl.lookup r with
   | some p => runPlan P { Γ with np := true } ops S.facts p S (k .normal)
   | none => .no 202
  else runOpsQ P Γ ops (ops.size + 1) (List.range ops.size) S (k .normal)
 | .seq a b, S, k =>
  match (joinKey a).bind fun r => (Γ.joins.lookup r).map fun A => (r + 1000, A) with
  | none => execP P Γ pl a S fun e S' => match e with | .normal => execP P Γ pl b S' k | e => k e S'
  | some (r, A) =>
   match headOf A a S with
   | none => .no 90
   | some H =>
    let hv := vars S.nv H.srts.length ++ A.extra
    .and (execP P Γ pl a S fun e T => match e with
       | .normal => match fits H T with
        | some vs => .inv r (vs ++ A.extra) T.facts .top
        | none => .no 91
       | e => k e T)
      (alls H.srts S fun S1 => .hyp r hv (execP P Γ pl b (H.at_ S1.nv r hv) k))
 | .cond c x y, S, k =>
  match S.opd c with
  | some (.s (.one (.bool (.bool true)))) => execP P Γ pl x S k
  | some (.s (.one (.bool (.bool false)))) => execP P Γ pl y S k
  | some (.s (.one (.bool q))) =>
   if S.known.contains q = true then execP P Γ pl x S k
   else if S.known.contains (X.not q) = true then execP P Γ pl y S k
   else .and (.imp q (execP P Γ pl x (S.know q) k)) (.imp (X.not q) (execP P Γ pl y (S.know (X.not q)) k))
  | _ => .no 61
 | .block id c, S, k => execP P Γ pl c S fun e S' => match e with | .exit j => if j = id then k .normal S' else k e S' | e => k e S'
 | .exit id, S, k => k (.exit id) S
 | .ret, S, k => k .ret S
 | .loop c, S, k =>
  match (Code.first c).bind fun r => Γ.unroll.lookup r with
  | some n => rounds (execP P Γ pl c) n S k
  | none =>
  match (Code.first c).bind fun r => (Γ.loops.lookup r).map fun A => (r, A) with
  | none => .no 62
  | some (r, A) =>
   match headOf A c S with
   | none => .no 63
   | some H =>
    match fits H S with
    | none => .no 64
    | some us =>
      let hv := vars S.nv H.srts.length ++ (A.extra ++ vars (S.nv + H.srts.length) A.gh)
      exs (List.replicate A.gh .g) { S with nv := S.nv + H.srts.length } fun _ =>
      .inv r (us ++ (A.extra ++ vars (S.nv + H.srts.length) A.gh)) S.facts
       (alls (H.srts ++ List.replicate A.gh .g) S fun S1 =>
        .hyp r hv (execP P Γ pl c (H.at_ S1.nv r hv) (fun e T => match e with
         | .normal => match fits H T with
          | some vs => exs (List.replicate A.gh .g) T fun _ => .inv r (vs ++ (A.extra ++ vars T.nv A.gh)) T.facts (.less r hv (vs ++ (A.extra ++ vars T.nv A.gh)) .top)
          | none => .no 65
         | e => k e T)))
 | _, _, _ => .no 69
def vcOfP (P : Program) (Γ : Cfg) (pl : List (Nat × List Nat)) (f : Nat) : VC :=
 match P.funcs[f]? with
 | none => .no 80
 | some fn =>
  match shsOf P fn.params, shsOf P fn.resultTypes, lentsLfs P Γ.mine, fn.body with
  | some pin, some pout, some lls, some body => match claims P (mclaims Γ.mrows) (vars (lfsAr (shsLfs pin)) Γ.mrows.length) (start fn pin Γ.own Γ.mine Γ.mrows.length lls) with | none => .no 84 | some S0 => execP P Γ (pl.map fun p => (p.1, (planOf 1000 p.2).1)) body S0 fun e S => match e with | .normal | .ret => final P Γ.lnm fn pout Γ.mine Γ.mrows lls S | _ => .no 81
  | _, _, _, _ => .no 82
def chk (P : Program) (Γ : Cfg) (fn : Func) (specs : List (Nat × Ctr)) (gh : Nat) (srts : List Srt) : Bool :=
 P.follows .mixedOrders && decide (Γ.con = conOf specs) && Γ.keepB.isEmpty && Γ.mine.isEmpty && Γ.mrows.isEmpty &&
 match shsOf P fn.params, shsOf P fn.resultTypes with
 | some pin, some _ => decide (srts = lfsSrts (shsLfs pin) ++ List.replicate gh .g)
 | _, _ => false
def AllU (k : List U → Prop) : List Srt → List U → Prop
 | [], acc => k acc.reverse
 | .i :: l, acc => ∀ x : Int, AllU k l (.i x :: acc)
 | .n :: l, acc => ∀ x : Nat, AllU k l (.n x :: acc)
 | .b :: l, acc => ∀ x : Bool, AllU k l (.b x :: acc)
 | .s :: l, acc => ∀ x : ByteArray, AllU k l (.s x :: acc)
 | .p :: l, acc => ∀ x : Option Addr, AllU k l (.p x :: acc)
 | .l :: l, acc => ∀ x : List Value, AllU k l (.l x :: acc)
 | .v :: l, acc => ∀ x : Value, AllU k l (.v x :: acc)
 | .g :: l, acc => ∀ (α : Type) (x : α), AllU k l (.g x :: acc)
theorem AllU.get {k : List U → Prop} : ∀ {l : List Srt} {acc us : List U}, AllU k l acc → us.map U.srt = l → k (acc.reverse ++ us)
 | [], acc, us, h, hu => by
  have : us = [] := by simpa using hu
  subst this; rw [List.append_nil]; exact h
 | so :: l, acc, us, h, hu => by
  cases us with
  | nil => cases hu
  | cons u us =>
   rw [List.map_cons] at hu; injection hu with h1 h2
   have hh : AllU k l (u :: acc) := by
    subst h1; cases u <;> first | exact h _ | exact h _ _
   have := AllU.get hh h2; rw [List.reverse_cons, List.append_assoc] at this; exact this
theorem keeps_v {P : Program} {f : Nat} {fn : Func} {v : VC} (hfn : P.funcs[f]? = some fn) (Γ : Cfg) (hv : vcOf P Γ f = v) (srts : List Srt) (s : Ctr) (specs : List (Nat × Ctr)) (hs : KeepAll P Γ.lents Γ.lrows Γ.pans specs)
  (hok : chk P Γ fn specs s.gh srts = true) (mono : ∀ us w w', s.pre us w → Below w.heap.size w w' → s.pre us w')
  (vc : AllU (fun us => ∀ w, s.pre us w → ∃ invs, v.denO std ⟨ctrOf specs, s, invOf invs, us, w.heap.size⟩ (rhoOf us srts)) srts []) (hpan : ∀ us ch, ¬ s.pan us ch := by exact fun _ _ h => h) (hnew : NewsOk P Γ.news := by exact newsOk_nil) : Keeps P f s := by
 unfold chk at hok; simp only [Bool.and_eq_true, decide_eq_true_eq] at hok; obtain ⟨⟨⟨⟨⟨hm, hΓ⟩, hkb⟩, hmine⟩, hmr⟩, hok⟩ := hok; split at hok
 ·next pin pout h1 h2 =>
  rw [decide_eq_true_eq] at hok; subst hok; refine keeps_of hm hfn h1 h2 s specs Γ hs hΓ mono ?_ (by simpa using hmine) (by simpa using hmr) hpan (by simpa using hkb) hnew; intro us w ht hp; obtain ⟨invs, h⟩ := AllU.get vc ht w hp; refine ⟨invs, ?_⟩; rw [hv]; rw [VC.denO_std _ [] []] at h; exact h
 ·cases hok
theorem vc_use {v : VC} {us : List U} {ρ : Nat → U} {specs : List (Nat × Ctr)} {invs : List (Nat × Inv)} {s0 : Ctr} {b0 : Nat} (Q : (O : Alg) → (Nat → Ctr) → Ctr → (Nat → Inv) → Nat → O.T)
  (h : ∀ O C s I b, v.denO O ⟨C, s, I, us, b⟩ ρ = Q O C s I b) (g : Q std (ctrOf specs) s0 (invOf invs) b0) : v.denO std ⟨ctrOf specs, s0, invOf invs, us, b0⟩ ρ := by
 rw [h]; exact g
end Go.Proofs.Ytgjbcahpgkchfaa.Vc
namespace Go.Proofs.Ytgjbcahpgkchfaa
open Go Go.RowKit Vc
set_option maxRecDepth 100000
def iC (i : Ins) : List Value := [.int .i64 i.op, .int .i64 i.a, .int .i64 i.b]
theorem iC_len (i : Ins) : (iC i).length = 3 := rfl
def InsM (w : World) (A : Option Addr) (b : List Ins) : Prop := Rd w w.heap.size 3 A b.length (b.flatMap iC)
def BoM (w : World) (A : Option Addr) (l : List Bool) : Prop := Rd w w.heap.size 1 A l.length (l.map Value.bool)
theorem InsM.on {w w' : World} {A : Option Addr} {b : List Ins} (h : InsM w A b) (hb : Below w.heap.size w w') : InsM w' A b := Rd.more (Rd.below h hb) hb.size
theorem BoM.on {w w' : World} {A : Option Addr} {b : List Bool} (h : BoM w A b) (hb : Below w.heap.size w w') : BoM w' A b := Rd.more (Rd.below h hb) hb.size
theorem loadsR {w : World} {B size n : Nat} {A : Option Addr} {xs : List Value} (h : Rd w B size A n xs) (hn : 0 < n) {off : Nat} {part : List Value} (hp : ∀ j v, part[j]? = some v → xs[off + j]? = some v) : LoadsAt w (A.map (·.add off)) part := by
 obtain ⟨b, o, rfl, _, hc⟩ := h.2 hn; refine ⟨⟨b, o + off, none⟩, ?_, fun j v hv => ?_⟩
 ·show some ((⟨b, o, none⟩ : Addr).add off) = _; rw [add_plain]
 ·rw [add_plain, Nat.add_assoc]; exact hc _ v (hp j v hv)
theorem flat3 (b : List Ins) {k : Nat} (hk : k < b.length) : ∀ j, j < 3 → (b.flatMap iC)[k * 3 + j]? = (iC b[k])[j]? := by
 induction b generalizing k with
 | nil => exact absurd hk (by simp)
 | cons x l ih =>
  intro j hj; rw [List.flatMap_cons]; cases k with
  | zero =>
   rw [List.getElem?_append_left (by rw [iC_len]; omega)]; simp
  | succ k =>
   rw [List.getElem?_append_right (by rw [iC_len]; omega), iC_len, show (k + 1) * 3 + j - 3 = k * 3 + j by omega]; simp only [List.length_cons] at hk; exact ih (by omega) j hj
theorem flat_len (b : List Ins) : (b.flatMap iC).length = b.length * 3 := by
 induction b with
 | nil => rfl
 | cons x l ih => rw [List.flatMap_cons, List.length_append, ih, iC_len, List.length_cons]; omega
section
variable {w : World} {A : Option Addr} {b : List Ins} {k : Nat}
theorem InsM.nn (h : InsM w A b) (hk : k < b.length) : ¬ A.isNone = true := by
 obtain ⟨g, o, rfl, _⟩ := h.2 (by omega); simp
theorem InsM.ld (h : InsM w A b) (hk : k < b.length) : LoadsAt w (A.map (·.add (k * 3))) [.int .i64 b[k].op, .int .i64 b[k].a, .int .i64 b[k].b] :=
 loadsR h (by omega) fun j v hv => by
  have hj : j < 3 := lt_of_some hv; rw [flat3 b hk j hj]; exact hv
theorem InsM.ld0 (h : InsM w A b) (hk : k < b.length) : LoadsAt w (A.map (·.add (k * 3))) [.int .i64 b[k].op] :=
 loadsR h (by omega) fun j v hv => by
  have hj : j < 1 := lt_of_some hv; rw [flat3 b hk j (by omega)]; obtain rfl : j = 0 := by omega
  exact hv
theorem InsM.ld1 (h : InsM w A b) (hk : k < b.length) : LoadsAt w (A.map (·.add (k * 3 + 1))) [.int .i64 b[k].a] :=
 loadsR h (by omega) fun j v hv => by
  have hj : j < 1 := lt_of_some hv; obtain rfl : j = 0 := by omega
  rw [Nat.add_zero, flat3 b hk 1 (by omega)]; exact hv
end
section
variable {w : World} {A : Option Addr} {l : List Bool} {k : Nat}
theorem BoM.nn (h : BoM w A l) (hk : k < l.length) : ¬ A.isNone = true := by
 obtain ⟨g, o, rfl, _⟩ := h.2 (by omega); simp
theorem BoM.ld (h : BoM w A l) (hk : k < l.length) : LoadsAt w (A.map (·.add k)) [.bool l[k]] :=
 loadsR h (by omega) fun j v hv => by
  have hj : j < 1 := lt_of_some hv; obtain rfl : j = 0 := by omega
  rw [Nat.add_zero, List.getElem?_map, List.getElem?_eq_getElem hk]; exact hv
end
def InP (P : List Ins → Prop) (us : List U) (w : World) : Prop := ∃ A c, ∃ b : List Ins, us = [.p A, .n b.length, .n c, .g b] ∧ InsM w A b ∧ P b
theorem inP_on {P : List Ins → Prop} {us : List U} {w w' : World} (h : InP P us w) (hb : Below w.heap.size w w') : InP P us w' := by
 obtain ⟨A, c, b, h1, h2, h3⟩ := h; exact ⟨A, c, b, h1, h2.on hb, h3⟩
theorem inP_get {P : List Ins → Prop} {A : Option Addr} {n c : Nat} {b : List Ins} {w : World} (h : InP P [.p A, .n n, .n c, .g b] w) : InsM w A b := by
 obtain ⟨A', c', b', he, h, _⟩ := h; simp only [List.cons.injEq, U.p.injEq, U.n.injEq, and_true] at he; obtain ⟨rfl, _, _, hg⟩ := he; cases hg; exact h
theorem g_inj' {α : Type} {x y : α} (h : some (U.g x) = some (U.g y)) : x = y := by
 injection h with h
 cases h; rfl
def JumpsC : Ctr where
 gh := 0
 pre us _ := match us with | [.i _, .i _, .i _] => True | _ => False
 post us os := match us with | [.i o, .i a, .i c] => os = [.b (jmpB ⟨o, a, c⟩)] | _ => False
 fact _ _ _ := True
def aimT (b : List Ins) (j : Nat) : List Bool := (List.range b.length).map fun k => aimB (b.take j) k
theorem aimT_len (b : List Ins) (j : Nat) : (aimT b j).length = b.length := by simp [aimT]
theorem aimT_zero (b : List Ins) : aimT b 0 = List.replicate b.length false := by
 unfold aimT aimB; simp [List.map_const']
theorem aimB_snoc (b : List Ins) (x : Ins) (k : Nat) : aimB (b ++ [x]) k = (aimB b k || (jmpB x && decide (x.a = (k : Int)))) := by
 unfold aimB; simp [List.any_append]
theorem aimT_at (b : List Ins) (j : Nat) {k : Nat} (hk : k < b.length) : (aimT b j)[k]? = some (aimB (b.take j) k) := by
 unfold aimT; rw [List.getElem?_map, List.getElem?_range hk]; rfl
theorem aimT_skip {b : List Ins} {j : Nat} (hj : j < b.length) (h : jmpB b[j] = false) : aimT b (j + 1) = aimT b j := by
 unfold aimT; refine List.map_congr_left fun k _ => ?_
 rw [List.take_succ_eq_append_getElem hj, aimB_snoc, h, Bool.false_and, Bool.or_false]
theorem aimT_set {b : List Ins} {j : Nat} (hj : j < b.length) (h : jmpB b[j] = true) (h0 : 0 ≤ b[j].a) : aimT b (j + 1) = (aimT b j).set b[j].a.toNat true := by
 apply List.ext_getElem?; intro k; rw [List.getElem?_set, aimT_len]
 rcases Nat.lt_or_ge k b.length with hk | hk
 ·rw [aimT_at b _ hk, aimT_at b _ hk, List.take_succ_eq_append_getElem hj, aimB_snoc, h, Bool.true_and]
  by_cases e : b[j].a.toNat = k
  ·rw [if_pos e, if_pos (by omega), decide_eq_true (by omega), Bool.or_true]
  ·rw [if_neg e, decide_eq_false (by omega), Bool.or_false]
 ·rw [List.getElem?_eq_none (by rw [aimT_len]; exact hk), List.getElem?_eq_none (by rw [aimT_len]; exact hk)]; split
  ·next e => rw [if_neg (by omega)]
  ·rfl
def AimsC : Ctr where
 gh := 1
 pre us w := InP (fun b => Within b ∧ b.length ≤ 2048) us w
 post us os := ∀ b : List Ins, us.getLast? = some (.g b) → ∃ A c, os = [.p A, .n b.length, .n c]
 fact us os w := ∀ (b : List Ins) A n c, us.getLast? = some (.g b) → os = [.p A, .n n, .n c] → n = b.length → BoM w A (aimT b b.length)
theorem bo_set (l : List Bool) (k : Nat) (v : Bool) : (l.map Value.bool).set k (.bool v) = (l.set k v).map Value.bool := by rw [List.map_set]
def cfg_jumps : Cfg := {  }
def vcd_jumps : { v : VC // vcOf Try.prog cfg_jumps 25 = v } := by refine ⟨?v, ?h⟩; rotate_left; conv => lhs; reduce
theorem vce_jumps : vcOf Try.prog cfg_jumps 25 = vcd_jumps.1 := vcd_jumps.2
theorem jumps_keeps : Keeps Try.prog 25 JumpsC := by
 refine keeps_v Try.func25 cfg_jumps vce_jumps [.i, .i, .i] JumpsC [] trivial (by kernel_rfl) (fun _ _ _ h _ => h) ?_; intro o a c w hp; refine ⟨[], vc_use ?Q ?h ?g⟩
 case h => intro O C s I b; conv => lhs; reduce
 dsimp only [std]; simp only [ctrOf, invOf, List.lookup, Nat.reduceBEq, Option.getD_some, Int.reduceOfNat, Int.reduceNegSucc]; unfold JumpsC; dsimp only; exact ⟨rfl, fun _ _ => trivial⟩
def cfg_aims : Cfg := { con := [(25, 0)], own := 1, loops := [(3, { slots := [11, 3], rows := [8] })] }
def vcd_aims : { v : VC // vcOf Try.prog cfg_aims 27 = v } := by refine ⟨?v, ?h⟩; rotate_left; conv => lhs; reduce
theorem vce_aims : vcOf Try.prog cfg_aims 27 = vcd_aims.1 := vcd_aims.2
theorem aims_keeps : Keeps Try.prog 27 AimsC := by
 refine keeps_v Try.func27 cfg_aims vce_aims [.p, .n, .n, .g] AimsC [(25, JumpsC)] ⟨jumps_keeps, trivial⟩ (by kernel_rfl) (fun _ _ _ h hb => inP_on h hb) ?_; intro x0 x1 x2 α x3 w hp; have hp : AimsC.pre [.p x0, .n x1, .n x2, .g x3] w := hp; obtain ⟨A, c, b, he, hI, hW, hl⟩ := hp; simp only [List.cons.injEq, U.p.injEq, U.n.injEq, and_true] at he; obtain ⟨rfl, rfl, rfl, hg⟩ := he; cases hg; refine ⟨[(3, { inv := fun v => ∃ j : Nat, j ≤ b.length ∧ v = [.n b.length, .l ((aimT b j).map Value.bool), .i j], mea := fun v => match v with | [_, _, .i i] => b.length - i.toNat | _ => 0 })], vc_use ?Q ?h ?g⟩
 case h => intro O C s I b; conv => lhs; reduce
 dsimp only [std]; simp only [ctrOf, invOf, List.lookup, Nat.reduceBEq, Option.getD_some, Int.reduceOfNat, Int.reduceNegSucc]; refine ⟨by omega, by omega, by omega, ⟨0, Nat.zero_le _, by rw [aimT_zero, List.map_replicate]; rfl⟩, fun _ _ => trivial, ?_⟩; rintro m xs i ⟨j, hj, he⟩; simp only [List.cons.injEq, U.n.injEq, U.l.injEq, U.i.injEq, and_true] at he; obtain ⟨rfl, rfl, rfl⟩ := he; refine ⟨fun hlt => ?_, fun hge x3 x4 => ⟨fun b' hb => ?_, fun w hw b' A n c hb ho hn => ?_⟩⟩
 ·have hlt : j < b.length := by omega
  simp only [Int.toNat_natCast]; refine ⟨fun w h => (inP_get h.1).nn hlt, by omega, b[j].op, b[j].a, b[j].b, fun w h => (inP_get h.1).ld hlt, fun _ _ => trivial, fun q hq => ?_⟩; have hq : [U.b q] = [.b (jmpB b[j])] := hq; simp only [List.cons.injEq, U.b.injEq, and_true] at hq; subst hq; have hz : b.length - ((j : Int) + 1).toNat < b.length - j := by omega
  refine ⟨fun hjm => ?_, fun hjm => ?_⟩
  ·obtain ⟨h0, h1⟩ := hW _ (List.getElem_mem hlt) hjm; refine ⟨h0, by omega, by rw [List.length_map, aimT_len]; omega, by omega, ⟨j + 1, hlt, ?_⟩, fun _ _ => trivial, hz, trivial⟩; rw [bo_set, aimT_set hlt hjm h0]; rfl
  ·have hjm : jmpB b[j] = false := by simpa using hjm
   refine ⟨by omega, ⟨j + 1, hlt, ?_⟩, fun _ _ => trivial, hz, trivial⟩; rw [aimT_skip hlt hjm]; rfl
 ·obtain rfl := g_inj' hb; exact ⟨x3, x4, rfl⟩
 ·obtain rfl := g_inj' hb; simp only [List.cons.injEq, U.p.injEq, U.n.injEq, and_true] at ho; obtain ⟨rfl, rfl, rfl⟩ := ho; obtain rfl : j = b.length := by omega
  have := Rd.of_own hw.2; unfold BoM; rw [aimT_len]; exact this
def WithoutC : Ctr where
 gh := 1
 pre us w := ∃ A c A' c', ∃ p : List Ins × List Bool, us = [.p A, .n p.1.length, .n c, .p A', .n p.2.length, .n c', .g p] ∧ InsM w A p.1 ∧ BoM w A' p.2 ∧ p.1.length = p.2.length ∧ Within p.1 ∧ p.1.length ≤ 2048
 post us os := ∀ p : List Ins × List Bool, us.getLast? = some (.g p) → ∃ A c, os = [.p A, .n (withoutL p.1 p.2).length, .n c]
 fact us os w := ∀ (p : List Ins × List Bool) A n c, us.getLast? = some (.g p) → os = [.p A, .n n, .n c] → n = (withoutL p.1 p.2).length → InsM w A (withoutL p.1 p.2)
theorem without_get {A A' : Option Addr} {n c n' c' : Nat} {b : List Ins} {gone : List Bool} {w : World} (h : WithoutC.pre [.p A, .n n, .n c, .p A', .n n', .n c', .g (b, gone)] w) : InsM w A b ∧ BoM w A' gone := by
 obtain ⟨B, d, B', d', p, he, h1, h2, _⟩ := h; simp only [List.cons.injEq, U.p.injEq, U.n.injEq, and_true] at he; obtain ⟨rfl, _, _, rfl, _, _, hg⟩ := he; cases hg; exact ⟨h1, h2⟩
def atT (gone : List Bool) (N j : Nat) : List Int := (List.range (N + 1)).map fun k => if k ≤ j then (keptN gone k : Int) else 0
theorem atT_len (gone : List Bool) (N j : Nat) : (atT gone N j).length = N + 1 := by simp [atT]
theorem atT_at (gone : List Bool) (N j : Nat) {k : Nat} (hk : k ≤ N) : (atT gone N j)[k]? = some (if k ≤ j then (keptN gone k : Int) else 0) := by
 unfold atT; rw [List.getElem?_map, List.getElem?_range (by omega)]; rfl
theorem atT_zero (gone : List Bool) (N : Nat) : atT gone N 0 = List.replicate (N + 1) 0 := by
 apply List.ext_getElem?; intro k
 rcases Nat.lt_or_ge k (N + 1) with hk | hk
 ·rw [atT_at _ _ _ (by omega), List.getElem?_replicate, if_pos hk]; split
  ·next h => rw [show k = 0 by omega, keptN_zero]; rfl
  ·rfl
 ·rw [List.getElem?_eq_none (by rw [atT_len]; exact hk), List.getElem?_eq_none (by simp; exact hk)]
theorem atT_set (gone : List Bool) (N j : Nat) (v : Int) (hv : v = keptN gone (j + 1)) : (atT gone N j).set (j + 1) v = atT gone N (j + 1) := by
 apply List.ext_getElem?; intro k; rw [List.getElem?_set, atT_len]
 rcases Nat.lt_or_ge k (N + 1) with hk | hk
 ·rw [atT_at _ _ _ (by omega), atT_at _ _ _ (by omega)]
  by_cases e : j + 1 = k
  ·subst e; rw [if_pos rfl, if_pos hk, if_pos (Nat.le_refl _), hv]
  ·rw [if_neg e]
   by_cases h2 : k ≤ j
   ·rw [if_pos h2, if_pos (by omega)]
   ·rw [if_neg h2, if_neg (by omega)]
 ·rw [List.getElem?_eq_none (by rw [atT_len]; exact hk), List.getElem?_eq_none (by rw [atT_len]; exact hk)]; split
  ·next e => rw [if_neg (by omega)]
  ·rfl
def intV (l : List Int) : List Value := l.map fun n => Value.int .i64 n
theorem intV_len (l : List Int) : (intV l).length = l.length := by simp [intV]
theorem intV_at {l : List Int} {k : Nat} {n : Int} (h : l[k]? = some n) : ∀ j v, [Value.int .i64 n][j]? = some v → (intV l)[k + j]? = some v := fun j v hv => by
 have hj : j < 1 := lt_of_some hv; obtain rfl : j = 0 := by omega
 rw [Nat.add_zero, intV, List.getElem?_map, h]; exact hv
theorem intV_set (l : List Int) (k : Nat) (n : Int) : (intV l).set k (.int .i64 n) = intV (l.set k n) := by unfold intV; rw [List.map_set]
def cfg_without : Cfg := { con := [(25, 0)], own := 1, loops := [(3, { slots := [16, 5], rows := [13] }), (11, { slots := [42, 7], rows := [7] })], rows := [(7, 31)] }
def vcd_without : { v : VC // vcOf Try.prog cfg_without 26 = v } := by refine ⟨?v, ?h⟩; rotate_left; conv => lhs; reduce
theorem vce_without : vcOf Try.prog cfg_without 26 = vcd_without.1 := vcd_without.2
theorem without_keeps : Keeps Try.prog 26 WithoutC := by
 refine keeps_v Try.func26 cfg_without vce_without [.p, .n, .n, .p, .n, .n, .g] WithoutC [(25, JumpsC)] ⟨jumps_keeps, trivial⟩ (by kernel_rfl) (fun _ _ _ h hb => by
  obtain ⟨A, c, A', c', p, h1, h2, h3, h4⟩ := h; exact ⟨A, c, A', c', p, h1, h2.on hb, h3.on hb, h4⟩) ?_
 intro x0 x1 x2 x3 x4 x5 α x6 w hp; have hp : WithoutC.pre [.p x0, .n x1, .n x2, .p x3, .n x4, .n x5, .g x6] w := hp; obtain ⟨A, c, A', c', ⟨b, gone⟩, he, hI, hB, hlen, hW, hl⟩ := hp; simp only [List.cons.injEq, U.p.injEq, U.n.injEq, and_true] at he; obtain ⟨rfl, rfl, rfl, rfl, rfl, rfl, hg⟩ := he; cases hg; simp only at hI hB hlen hW hl; refine ⟨[(3, { inv := fun v => ∃ j : Nat, j ≤ b.length ∧ v = [.n (b.length + 1), .l (intV (atT gone b.length j)), .i j], mea := fun v => match v with | [_, _, .i i] => b.length - i.toNat | _ => 0 }), (11, { inv := fun v => ∃ j : Nat, j ≤ b.length ∧ v = [.n (pickL (adjI gone) (b.take j) (gone.take j)).length, .l ((pickL (adjI gone) (b.take j) (gone.take j)).flatMap iC), .i j], mea := fun v => match v with | [_, _, .i i] => b.length - i.toNat | _ => 0 })], vc_use ?Q ?h ?g⟩
 case h => intro O C s I b; conv => lhs; reduce
 dsimp only [std]; simp only [ctrOf, invOf, List.lookup, Nat.reduceBEq, Option.getD_some, Int.reduceOfNat, Int.reduceNegSucc]; have e1 : ((b.length : Int) + 1).toNat = b.length + 1 := by omega
 rw [e1]; refine ⟨by omega, by omega, by omega, by omega, ⟨0, Nat.zero_le _, by rw [atT_zero, intV, List.map_replicate]; rfl⟩, fun _ _ => trivial, ?_⟩; rintro m xs i ⟨j, hj, he⟩; simp only [List.cons.injEq, U.n.injEq, U.l.injEq, U.i.injEq, and_true] at he; obtain ⟨rfl, rfl, rfl⟩ := he; refine ⟨fun hlt => ?_, fun hge => ?_⟩
 ·have hlt : j < b.length := by omega
  have hz : b.length - ((j : Int) + 1).toNat < b.length - j := by omega
  have e2 : ((j : Int) + 1).toNat = j + 1 := by omega
  have hk0 := atT_at gone b.length j (k := j) (by omega); rw [if_pos (Nat.le_refl _)] at hk0; have hle := keptN_le gone j; have hg2 : j < gone.length := by omega
  have hsu := keptN_succ (List.getElem?_eq_getElem hg2); simp only [Int.toNat_natCast, e2, intV_set, intV_len, List.length_set, atT_len]; refine ⟨by omega, by omega, by omega, _, intV_at hk0, by omega, by omega, by omega, fun w h => (without_get h.1).2.nn hg2, by omega, gone[j], fun w h => (without_get h.1).2.ld hg2, fun hgj => ?_, fun hgj => ?_⟩
  ·have hgj : gone[j] = false := by simpa using hgj
   rw [hgj] at hsu; refine ⟨(keptN gone j : Int), intV_at ?_, by omega, by omega, ⟨j + 1, hlt, ?_⟩, fun _ _ => trivial, by omega, trivial⟩
   ·rw [List.getElem?_set_self (by rw [atT_len]; omega)]
   ·rw [List.set_set, atT_set gone b.length j _ (by rw [hsu]; simp)]; rfl
  ·rw [hgj] at hsu; refine ⟨⟨j + 1, hlt, ?_⟩, fun _ _ => trivial, by omega, trivial⟩; rw [atT_set gone b.length j _ (by rw [hsu]; simp)]; rfl
 ·obtain rfl : j = b.length := by omega
  refine ⟨⟨0, Nat.zero_le _, rfl⟩, fun _ _ => trivial, ?_⟩; rintro m xs i ⟨j, hj, he⟩; simp only [List.cons.injEq, U.n.injEq, U.l.injEq, U.i.injEq, and_true] at he; obtain ⟨rfl, rfl, rfl⟩ := he; refine ⟨fun hlt => ?_, fun hge x3 x4 => ⟨fun p hb => ?_, fun w hw p A n c hb ho hn => ?_⟩⟩
  ·have hlt : j < b.length := by omega
   have hg2 : j < gone.length := by omega
   have hz : b.length - ((j : Int) + 1).toNat < b.length - j := by omega
   have e2 : ((j : Int) + 1) = ((j + 1 : Nat) : Int) := by omega
   have hsn := pickL_snoc (adjI gone) b gone j hlen hlt; have hpl : (pickL (adjI gone) (b.take j) (gone.take j)).length ≤ j := by
    rw [pickL_len _ _ _ (by simp; omega)]; have := keptN_le (gone.take j) (gone.take j).length; rw [List.length_take] at this ⊢
    omega
   simp only [Int.toNat_natCast]; refine ⟨fun w h => (without_get h.1.1).1.nn hlt, by omega, b[j].op, b[j].a, b[j].b, fun w h => (without_get h.1.1).1.ld hlt, fun w h => (without_get h.1.1).2.nn hg2, by omega, gone[j], fun w h => (without_get h.1.1).2.ld hg2, fun hgj => ?_, fun hgj => ?_⟩
   ·refine ⟨by omega, ⟨j + 1, hlt, ?_⟩, fun _ _ => trivial, hz, trivial⟩; rw [hsn, hgj, if_pos rfl, List.append_nil]; rfl
   ·have hgj : gone[j] = false := by simpa using hgj
    rw [hgj, if_neg (by simp)] at hsn; refine ⟨fun _ _ => trivial, fun q hq => ?_⟩; have hq : [U.b q] = [.b (jmpB b[j])] := hq; simp only [List.cons.injEq, U.b.injEq, and_true] at hq; subst hq; refine ⟨fun hjm => ?_, fun hjm => ?_⟩
    ·obtain ⟨h0, h1⟩ := hW _ (List.getElem_mem hlt) hjm; have hk0 := atT_at gone b.length b.length (k := b[j].a.toNat) (by omega); rw [if_pos (by omega)] at hk0; refine ⟨h0, by omega, _, intV_at hk0, by omega, by omega, by omega, ⟨j + 1, hlt, ?_⟩, fun _ _ => trivial, hz, trivial⟩; rw [hsn, List.flatMap_append, List.length_append]; unfold adjI; rw [if_pos hjm]; rfl
    ·refine ⟨by omega, by omega, by omega, ⟨j + 1, hlt, ?_⟩, fun _ _ => trivial, hz, trivial⟩; rw [hsn, List.flatMap_append, List.length_append]; unfold adjI; rw [if_neg hjm]; rfl
  ·obtain rfl := g_inj' hb; obtain rfl : j = b.length := by omega
   refine ⟨x3, x4, ?_⟩; rw [List.take_length, hlen, List.take_length]; rfl
  ·obtain rfl := g_inj' hb; simp only [List.cons.injEq, U.p.injEq, U.n.injEq, and_true] at ho; obtain ⟨rfl, rfl, rfl⟩ := ho; obtain rfl : j = b.length := by omega
   have := Rd.of_own hw.2; rw [List.take_length, hlen, List.take_length] at this; exact this
end Go.Proofs.Ytgjbcahpgkchfaa
