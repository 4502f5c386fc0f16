/- Of the texts VcO, VcP, Wal1, Gp0. -/
import Derived.Test.YtjhaafbbdgjagaaGreatG14
import Derived.Test.YtjhaafbbdgjagaaGreatProg
import Derived.Test.YtjhaafbbdgjagaaGreatG01
set_option linter.unusedSimpArgs false
set_option linter.unusedVariables false
namespace Go.Proofs.YtjhaafbbdgjagaaGreat.Vc
open Go Go.RowKit
structure Alg where
 T : Type
 tt : T
 ff : T
 allI : (Int → T) → T
 allN : (Nat → T) → T
 allB : (Bool → T) → T
 allS : (ByteArray → T) → T
 allP : (Option Addr → T) → T
 allL : (List Value → T) → T
 allV : (Value → T) → T
 exI : (Int → T) → T
 exN : (Nat → T) → T
 exB : (Bool → T) → T
 exS : (ByteArray → T) → T
 exP : (Option Addr → T) → T
 exL : (List Value → T) → T
 exV : (Value → T) → T
 exG : (U → T) → T
 imp : T → T → T
 and : T → T → T
 or : T → T → T
 not : T → T
 isT : Bool → T
 eqI : Int → Int → T
 ltI : Int → Int → T
 leI : Int → Int → T
 allW : (World → T) → T
 pre : Ctr → List U → World → T
 post : Ctr → List U → List U → T
 fact : Ctr → List U → List U → World → T
 inv : Inv → List U → T
 invF : Inv → List U → World → T
 less : Inv → List U → List U → T
 row : World → Nat → Nat → Nat → Value → Nat → List Value → T
 blk : World → Nat → List Value → Nat → T
 loads : World → Option Addr → List Value → T
 cells : List Value → Nat → List Value → T
 ones : List Value → T
 leq : List Value → List Value → T
 reads : World → Nat → Option Addr → Nat → List Value → T
 bytes : World → Option Addr → ByteArray → T
 isfn : Value → Nat → T
 pan : Ctr → List U → Ctr → List U → T
 panv : Ctr → List U → Value → T
 fn : Nat → Value
 int : Int → Int
 nat : Nat → Nat
 str : List UInt8 → ByteArray
 tru : Bool → Bool
 wrap : IntKind → Int → Int
 bnot : Bool → Bool
 cast : Nat → Int
 toNat : Int → Nat
 size : ByteArray → Nat
 isnil : Option Addr → Bool
 len : List Value → Nat
 sl : ByteArray → List Value
 add : Int → Int → Int
 sub : Int → Int → Int
 mul : Int → Int → Int
 quo : Int → Int → Int
 rem : Int → Int → Int
 bits : BinOp → IntKind → Int → Int → Int
 shl : IntKind → Int → Int → Int
 shr : IntKind → Int → Int → Int
 eqB : Int → Int → Bool
 ltB : Int → Int → Bool
 leB : Int → Int → Bool
 beq : Bool → Bool → Bool
 band : Bool → Bool → Bool
 bor : Bool → Bool → Bool
 seq : ByteArray → ByteArray → Bool
 slt : ByteArray → ByteArray → Bool
 sapp : ByteArray → ByteArray → ByteArray
 byte : ByteArray → Nat → Int
 nadd : Nat → Nat → Nat
 nsub : Nat → Nat → Nat
 nmul : Nat → Nat → Nat
 app : List Value → List Value → List Value
 padd : Option Addr → Nat → Option Addr
 take : List Value → Nat → List Value
 iteI : Bool → Int → Int → Int
 iteN : Bool → Nat → Nat → Nat
 iteB : Bool → Bool → Bool → Bool
 iteS : Bool → ByteArray → ByteArray → ByteArray
 iteP : Bool → Option Addr → Option Addr → Option Addr
 ext : ByteArray → Nat → Nat → ByteArray
 set : List Value → Nat → Value → List Value
 nilv : Nat → Value
@[reducible] def std : Alg where
 T := Prop
 tt := True
 ff := False
 allI f := ∀ x, f x
 allN f := ∀ x, f x
 allB f := ∀ x, f x
 allS f := ∀ x, f x
 allP f := ∀ x, f x
 allL f := ∀ x, f x
 allV f := ∀ x, f x
 exI f := ∃ x, f x
 exN f := ∃ x, f x
 exB f := ∃ x, f x
 exS f := ∃ x, f x
 exP f := ∃ x, f x
 exL f := ∃ x, f x
 exV f := ∃ x, f x
 exG f := ∃ (α : Type) (x : α), f (.g x)
 imp a b := a → b
 and a b := a ∧ b
 or a b := a ∨ b
 not a := ¬ a
 isT b := b = true
 eqI x y := x = y
 ltI x y := x < y
 leI x y := x ≤ y
 allW f := ∀ w, f w
 pre c us w := c.pre us w
 post c us os := c.post us os
 fact c us os w := c.fact us os w
 inv c us := c.inv us
 invF c us w := c.fact us w
 less c us vs := c.mea vs < c.mea us
 row w _ e size v n xs := w.ownsRow 0 e size v n xs
 blk w b xs t := w.heap[b]? = some (.cells xs.toArray t (0, 0))
 loads w a cs := LoadsAt w a cs
 cells xs off cs := ∀ j v, cs[j]? = some v → xs[off + j]? = some v
 ones xs := ∀ v ∈ xs, v.oneCell' = true
 leq xs ys := xs = ys
 reads w size a n xs := ∃ B, Rd w B size a n xs
 bytes w a s := ∃ g, a = some ⟨g, 0, none⟩ ∧ ∀ j, j < s.size → w.cell? ⟨g, j, none⟩ = some (.int .u8 (s.data.toList.getD j 0).toNat)
 isfn v f := v = .func (.func f) #[] #[]
 pan c us c0 us0 := ∀ ch, c.pan us ch → c0.pan us0 ch
 panv c us v := c.pan us [{ v := v, recovered := false }]
 fn f := .func (.func f) #[] #[]
 int n := n
 nat n := n
 str l := ⟨l.toArray⟩
 tru t := t
 wrap k x := k.wrap x
 bnot b := !b
 cast n := n
 toNat x := x.toNat
 size s := s.size
 isnil a := a.isNone
 len l := l.length
 sl s := bytesV s
 add x y := x + y
 sub x y := x - y
 mul x y := x * y
 quo x y := x.tdiv y
 rem x y := x.tmod y
 bits o k x y := bitsI o k x y
 shl k x y := shlI k x y
 shr k x y := shrI k x y
 eqB x y := x == y
 ltB x y := decide (x < y)
 leB x y := decide (x ≤ y)
 beq x y := x == y
 band x y := x && y
 bor x y := x || y
 seq x y := x.toList == y.toList
 slt x y := Op.bytesLess x.toList y.toList
 sapp x y := x ++ y
 byte s k := (s.data.toList.getD k 0).toNat
 nadd x y := x + y
 nsub x y := x - y
 nmul x y := x * y
 app x y := x ++ y
 padd a k := a.map (·.add k)
 take l k := l.take k
 iteI b x y := bif b then x else y
 iteN b x y := bif b then x else y
 iteB b x y := bif b then x else y
 iteS b x y := bif b then x else y
 iteP b x y := bif b then x else y
 ext s a b := s.extract a b
 set l k v := l.set k v
 nilv k := nilV k
def UOp.denO (O : Alg) : UOp → U → U
 | .wrap k, x => .i (O.wrap k x.I)
 | .not, x => .b (O.bnot x.B)
 | .cast, x => .i (O.cast x.N)
 | .nat, x => .n (O.toNat x.I)
 | .size, x => .n (O.size x.S)
 | .isnil, x => .b (O.isnil x.P)
 | .one, x => .l [x.V]
 | .viface t, x => .v (.iface t x.V)
 | .vint k, x => .v (.int k x.I)
 | .vbool, x => .v (.bool x.B)
 | .vstr, x => .v (.string x.S)
 | .vptr, x => .v (.pointer x.P)
 | .len, x => .n (O.len x.L)
 | .sl, x => .l (O.sl x.S)
 | .co .i, x => .i x.I | .co .n, x => .n x.N | .co .b, x => .b x.B | .co .s, x => .s x.S | .co .p, x => .p x.P | .co .l, x => .l x.L | .co .v, x => .v x.V | .co .g, x => x
def BOp.denO (O : Alg) : BOp → U → U → U
 | .add, x, y => .i (O.add x.I y.I)
 | .sub, x, y => .i (O.sub x.I y.I)
 | .mul, x, y => .i (O.mul x.I y.I)
 | .quo, x, y => .i (O.quo x.I y.I)
 | .rem, x, y => .i (O.rem x.I y.I)
 | .bits o k, x, y => .i (O.bits o k x.I y.I)
 | .shl k, x, y => .i (O.shl k x.I y.I)
 | .shr k, x, y => .i (O.shr k x.I y.I)
 | .eq, x, y => .b (O.eqB x.I y.I)
 | .lt, x, y => .b (O.ltB x.I y.I)
 | .le, x, y => .b (O.leB x.I y.I)
 | .beq, x, y => .b (O.beq x.B y.B)
 | .and, x, y => .b (O.band x.B y.B)
 | .or, x, y => .b (O.bor x.B y.B)
 | .seq, x, y => .b (O.seq x.S y.S)
 | .slt, x, y => .b (O.slt x.S y.S)
 | .sapp, x, y => .s (O.sapp x.S y.S)
 | .byte, x, y => .i (O.byte x.S y.N)
 | .nadd, x, y => .n (O.nadd x.N y.N)
 | .nsub, x, y => .n (O.nsub x.N y.N)
 | .nmul, x, y => .n (O.nmul x.N y.N)
 | .app, x, y => .l (O.app x.L y.L)
 | .padd, x, y => .p (O.padd x.P y.N)
 | .take, x, y => .l (O.take x.L y.N)
def iteO (O : Alg) (b : Bool) : U → U → U
 | .i x, .i y => .i (O.iteI b x y)
 | .n x, .n y => .n (O.iteN b x y)
 | .b x, .b y => .b (O.iteB b x y)
 | .s x, .s y => .s (O.iteS b x y)
 | .p x, .p y => .p (O.iteP b x y)
 | x, y => bif b then x else y
def TOp.denO (O : Alg) : TOp → U → U → U → U
 | .ite, x, y, z => iteO O x.B y z
 | .vslc, x, y, z => .v (.slice x.P y.N z.N)
 | .ext, x, y, z => .s (O.ext x.S y.N z.N)
 | .set, x, y, z => .l (O.set x.L y.N z.V)
def X.denO (O : Alg) (ρ : Nat → U) : X → U
 | .var k => ρ k
 | .int n => .i (O.int n)
 | .nat n => .n (O.nat n)
 | .bool t => .b (O.tru t)
 | .str l => .s (O.str l)
 | .pnil => .p none
 | .lnil => .l []
 | .vnil k => .v (O.nilv k)
 | .fn f => .v (O.fn f)
 | .un o x => o.denO O (x.denO O ρ)
 | .bin o x y => o.denO O (x.denO O ρ) (y.denO O ρ)
 | .tri o x y z => o.denO O (x.denO O ρ) (y.denO O ρ) (z.denO O ρ)
def X.holdsO (O : Alg) (ρ : Nat → U) : X → O.T
 | .bin .eq x y => O.eqI (x.denO O ρ).I (y.denO O ρ).I
 | .bin .lt x y => O.ltI (x.denO O ρ).I (y.denO O ρ).I
 | .bin .le x y => O.leI (x.denO O ρ).I (y.denO O ρ).I
 | .bin .and x y => O.and (x.holdsO O ρ) (y.holdsO O ρ)
 | .bin .or x y => O.or (x.holdsO O ρ) (y.holdsO O ρ)
 | .un .not x => O.not (x.holdsO O ρ)
 | .bool t => O.isT (O.tru t)
 | x => O.isT (x.denO O ρ).B
theorem iteO_std (b : Bool) (x y : U) : iteO std b x y = bif b then x else y := by cases x <;> cases y <;> first | rfl | (cases b <;> rfl)
theorem X.denO_std (ρ : Nat → U) : ∀ x : X, x.denO std ρ = x.den ρ := by
 intro x
 induction x with
 | un o x ih => simp only [X.denO, X.den, ih]; cases o <;> first | rfl | (rename_i s; cases s <;> rfl)
 | bin o x y ih1 ih2 => simp only [X.denO, X.den, ih1, ih2]; cases o <;> rfl
 | tri o x y z ih1 ih2 ih3 => simp only [X.denO, X.den, ih1, ih2, ih3]; cases o <;> first | rfl | exact iteO_std _ _ _
 | _ => rfl
theorem X.holdsO_std (ρ : Nat → U) : ∀ x : X, x.holdsO std ρ = x.holds ρ := by
 intro x
 induction x with
 | un o x ih => cases o <;> simp only [X.holdsO, X.holds, ih, X.denO_std]
 | bin o x y ih1 ih2 => cases o <;> simp only [X.holdsO, X.holds, ih1, ih2, X.denO_std]
 | bool t => rfl
 | _ => simp only [X.holdsO, X.holds, X.denO_std]
def densO (O : Alg) (ρ : Nat → U) : List X → List U
 | [] => []
 | x :: l => x.denO O ρ :: densO O ρ l
theorem densO_std (ρ : Nat → U) : ∀ l : List X, densO std ρ l = dens ρ l
 | [] => rfl
 | x :: l => by simp only [densO, dens, List.map_cons, X.denO_std, densO_std ρ l]
def valsO (O : Alg) (ρ : Nat → U) : List X → List Value
 | [] => []
 | x :: l => (x.denO O ρ).V :: valsO O ρ l
theorem valsO_std (ρ : Nat → U) : ∀ l : List X, valsO std ρ l = l.map fun x => (x.den ρ).V
 | [] => rfl
 | x :: l => by simp only [valsO, List.map_cons, X.denO_std, valsO_std ρ l]
structure Env where
 C : Nat → Ctr
 s : Ctr
 I : Nat → Inv
 us : List U
 base : Nat
def Env.sm (E : Env) (ln : List (Nat × Nat)) (df : List Deferred := []) : Sm :=
 { base := E.base, lnames := ln, df := df, pre0 := E.s.pre E.us, post0 := E.s.post E.us, fact0 := E.s.fact E.us, pre := fun f => (E.C f).pre, post := fun f => (E.C f).post, fact := fun f => (E.C f).fact, inv := fun j => (E.I j).inv, invF := fun j => (E.I j).fact, mea := fun j => (E.I j).mea, pan0 := E.s.pan E.us, pan := fun f => (E.C f).pan }
def FX.denO (O : Alg) (E : Env) (ρ : Nat → U) (w : World) : FX → O.T
 | .pre => O.pre E.s E.us w
 | .fact f us os => O.fact (E.C f) (densO O ρ us) (densO O ρ os) w
 | .inv j us => O.invF (E.I j) (densO O ρ us) w
 | .row e size a n c xs => O.row w E.base e size (.slice (a.denO O ρ).P (n.denO O ρ).N (c.denO O ρ).N) (n.denO O ρ).N (xs.denO O ρ).L
 | .blk b t xs => O.blk w (b.denO O ρ).N (valsO O ρ xs) t
 | .bytes a s => O.bytes w (a.denO O ρ).P (s.denO O ρ).S
theorem FX.denO_std (E : Env) (ln : List (Nat × Nat)) (df : List Deferred) (ρ : Nat → U) (w : World) (F : FX) : F.denO std E ρ w = F.den (E.sm ln df) ρ w := by
 cases F <;> simp only [FX.denO, FX.den, densO_std, X.denO_std, valsO_std] <;> rfl
def andO (O : Alg) (E : Env) (ρ : Nat → U) (w : World) : List FX → O.T → O.T
 | [], t => t
 | G :: l, t => andO O E ρ w l (O.and t (G.denO O E ρ w))
def givenO (O : Alg) (E : Env) (ρ : Nat → U) (fs : List FX) (c : World → O.T) : O.T :=
 match fs with
 | [] => O.allW fun w => c w
 | F :: l => O.allW fun w => O.imp (andO O E ρ w l (F.denO O E ρ w)) (c w)
theorem andO_std (E : Env) (ln : List (Nat × Nat)) (df : List Deferred) (ρ : Nat → U) (w : World) : ∀ (l : List FX) (t : Prop), andO std E ρ w l t = l.foldl (fun a G => a ∧ G.den (E.sm ln df) ρ w) t
 | [], _ => rfl
 | G :: l, t => by rw [andO, List.foldl_cons, andO_std E ln df ρ w l, FX.denO_std E ln df]
theorem givenO_std (E : Env) (ln : List (Nat × Nat)) (df : List Deferred) (ρ : Nat → U) (fs : List FX) (c : World → Prop) : givenO std E ρ fs c = ∀ w : World, given (E.sm ln df) ρ w fs (c w) := by
 cases fs with
 | nil => rfl
 | cons F l =>
  show (∀ w : World, andO std E ρ w l (F.denO std E ρ w) → c w) = _; simp only [andO_std E ln df, FX.denO_std E ln df]; rfl
def VC.denO (O : Alg) (E : Env) (ρ : Nat → U) : VC → O.T
 | .top => O.tt
 | .no _ => O.ff
 | .all n .i k => O.allI fun x => k.denO O E (upd ρ n (.i x))
 | .all n .n k => O.allN fun x => k.denO O E (upd ρ n (.n x))
 | .all n .b k => O.allB fun x => k.denO O E (upd ρ n (.b x))
 | .all n .s k => O.allS fun x => k.denO O E (upd ρ n (.s x))
 | .all n .p k => O.allP fun x => k.denO O E (upd ρ n (.p x))
 | .all n .l k => O.allL fun x => k.denO O E (upd ρ n (.l x))
 | .all n .v k => O.allV fun x => k.denO O E (upd ρ n (.v x))
 | .all _ .g _ => O.ff
 | .ex n .i k => O.exI fun x => k.denO O E (upd ρ n (.i x))
 | .ex n .n k => O.exN fun x => k.denO O E (upd ρ n (.n x))
 | .ex n .b k => O.exB fun x => k.denO O E (upd ρ n (.b x))
 | .ex n .s k => O.exS fun x => k.denO O E (upd ρ n (.s x))
 | .ex n .p k => O.exP fun x => k.denO O E (upd ρ n (.p x))
 | .ex n .l k => O.exL fun x => k.denO O E (upd ρ n (.l x))
 | .ex n .v k => O.exV fun x => k.denO O E (upd ρ n (.v x))
 | .ex n .g k => O.exG fun x => k.denO O E (upd ρ n x)
 | .imp c k => O.imp (c.holdsO O ρ) (k.denO O E ρ)
 | .need c k => O.and (c.holdsO O ρ) (k.denO O E ρ)
 | .needw c fs k => O.and (givenO O E ρ fs fun _ => c.holdsO O ρ) (k.denO O E ρ)
 | .and a b => O.and (a.denO O E ρ) (b.denO O E ρ)
 | .pre f us fs k => O.and (givenO O E ρ fs fun w => O.pre (E.C f) (densO O ρ us) w) (k.denO O E ρ)
 | .post f us os k => O.imp (O.post (E.C f) (densO O ρ us) (densO O ρ os)) (k.denO O E ρ)
 | .inv j us fs k => O.and (O.inv (E.I j) (densO O ρ us)) (O.and (givenO O E ρ fs fun w => O.invF (E.I j) (densO O ρ us) w) (k.denO O E ρ))
 | .hyp j us k => O.imp (O.inv (E.I j) (densO O ρ us)) (k.denO O E ρ)
 | .less j us vs k => O.and (O.less (E.I j) (densO O ρ us) (densO O ρ vs)) (k.denO O E ρ)
 | .loads fs a cs k => O.and (givenO O E ρ fs fun w => O.loads w (a.denO O ρ).P (valsO O ρ cs)) (k.denO O E ρ)
 | .cells xs off cs k => O.and (O.cells (xs.denO O ρ).L (off.denO O ρ).N (valsO O ρ cs)) (k.denO O E ρ)
 | .ones xs k => O.and (O.ones (xs.denO O ρ).L) (k.denO O E ρ)
 | .leq xs ys k => O.and (O.leq (xs.denO O ρ).L (ys.denO O ρ).L) (k.denO O E ρ)
 | .reads fs size a n xs k => O.and (givenO O E ρ fs fun w => O.reads w size (a.denO O ρ).P (n.denO O ρ).N (xs.denO O ρ).L) (k.denO O E ρ)
 | .ret os fs => O.and (O.post E.s E.us (densO O ρ os)) (givenO O E ρ fs fun w => O.fact E.s E.us (densO O ρ os) w)
 | .isfn x f k => O.and (O.isfn (x.denO O ρ).V f) (k.denO O E ρ)
 | .pan f us k => O.and (O.pan (E.C f) (densO O ρ us) E.s E.us) (k.denO O E ρ)
 | .panv x => O.panv E.s E.us (x.denO O ρ).V
theorem VC.denO_std (E : Env) (ln : List (Nat × Nat)) (df : List Deferred) : ∀ (v : VC) (ρ : Nat → U), v.denO std E ρ = v.den (E.sm ln df) ρ := by
 intro v
 induction v with
 | all n so k ih => intro ρ; cases so <;> simp only [VC.denO, VC.den, ih]
 | ex n so k ih => intro ρ; cases so <;> simp only [VC.denO, VC.den, ih]
 | imp c k ih => intro ρ; simp only [VC.denO, VC.den, ih, X.holdsO_std]
 | need c k ih => intro ρ; simp only [VC.denO, VC.den, ih, X.holdsO_std]
 | needw c fs k ih => intro ρ; simp only [VC.denO, VC.den, ih, X.holdsO_std, givenO_std E ln df]
 | and a b ih1 ih2 => intro ρ; simp only [VC.denO, VC.den, ih1, ih2]
 | pre f us fs k ih => intro ρ; simp only [VC.denO, VC.den, ih, givenO_std E ln df, densO_std]; rfl
 | post f us os k ih => intro ρ; simp only [VC.denO, VC.den, ih, densO_std]; rfl
 | inv j us fs k ih => intro ρ; simp only [VC.denO, VC.den, ih, givenO_std E ln df, densO_std]; rfl
 | hyp j us k ih => intro ρ; simp only [VC.denO, VC.den, ih, densO_std]; rfl
 | less j us vs k ih => intro ρ; simp only [VC.denO, VC.den, ih, densO_std]; rfl
 | loads fs a cs k ih => intro ρ; simp only [VC.denO, VC.den, ih, givenO_std E ln df, X.denO_std, valsO_std]
 | cells xs off cs k ih => intro ρ; simp only [VC.denO, VC.den, ih, X.denO_std, valsO_std]
 | ones xs k ih => intro ρ; simp only [VC.denO, VC.den, ih, X.denO_std]
 | leq xs ys k ih => intro ρ; simp only [VC.denO, VC.den, ih, X.denO_std]
 | reads fs size a n xs k ih => intro ρ; simp only [VC.denO, VC.den, ih, givenO_std E ln df, X.denO_std]
 | ret os fs => intro ρ; simp only [VC.denO, VC.den, givenO_std E ln df, densO_std]; rfl
 | isfn x f k ih => intro ρ; simp only [VC.denO, VC.den, ih, X.denO_std]
 | pan f us k ih => intro ρ; simp only [VC.denO, VC.den, ih, densO_std]; rfl
 | panv x => intro ρ; simp only [VC.denO, VC.den, X.denO_std]; rfl
 | _ => intro ρ; rfl
inductive Plan | done | take (i : Nat) (p : Plan) | act (i : Nat) (p : Plan) | skip (i : Nat) (p : Plan) | split (i : Nat) (p q : Plan)
def takesTo (p : Plan) : Nat → Nat → Plan
 | _, 0 => p
 | i, c + 1 => .take i (takesTo p (i + 1) c)
def planOf : Nat → List Nat → Plan × List Nat
 | 0, l => (.done, l)
 | _ + 1, [] => (.done, [])
 | g + 1, n :: l =>
  if n = 999999 then (.done, l) else
  if 999999 < n then let r := planOf g l; (takesTo r.1 ((n - 1000000) / 1000) ((n - 1000000) % 1000), r.2) else
  match n % 4 with
  | 0 => let r := planOf g l; (.take (n / 4) r.1, r.2)
  | 1 => let r := planOf g l; (.act (n / 4) r.1, r.2)
  | 2 => let r := planOf g l; (.skip (n / 4) r.1, r.2)
  | _ => let r := planOf g l; let q := planOf g r.2; (.split (n / 4) r.1 q.1, q.2)
def runPlan (P : Program) (Γ : Cfg) (ops : Array Oper) (fs : List FX) : Plan → St → (St → VC) → VC
 | .done, S, k => k S
 | .take i p, S, k =>
  match ops[i]? with
  | some o => quiet P Γ fs (fun _ => true) o S fun v S' => runPlan P Γ ops fs p (S'.put o.dst v) k
  | none => .no 200
 | .act i p, S, k =>
  match ops[i]? with
  | some o => stepG P Γ ops o S fun S' => runPlan P Γ ops fs p S' k
  | none => .no 200
 | .skip i p, S, k =>
  match ops[i]? with
  | some o => runPlan P Γ ops fs p (S.kill o.dst) k
  | none => .no 200
 | .split i p q, S, k =>
  match pend ops S i with
  | some (d, c) => .and (.imp c (runPlan P Γ ops fs p ((S.know c).put (some d) (.s (.one (.bool (.bool true))))) k)) (.imp (X.not c) (runPlan P Γ ops fs q ((S.know (X.not c)).put (some d) (.s (.one (.bool (.bool false))))) k))
  | none => .no 201
def execP (P : Program) (Γ : Cfg) (pl : List (Nat × Plan)) : Code → St → (Ex → St → VC) → VC
 | .skip, S, k => k .normal S
 | .label _, S, k => k .normal S
 | .region r ops draw, S, k =>
  if draw then
   match pl.lookup r with
   | some p => runPlan P { Γ with np := true } ops S.facts p S (k .normal)
   | none => .no 202
  else runOps P Γ ops (List.range ops.size) S (k .normal)
 | .seq a b, S, k =>
  match (joinKey a).bind fun r => (Γ.joins.lookup r).map fun A => (r + 1000, A) with
  | none => execP P Γ pl a S fun e S' => match e with | .normal => execP P Γ pl b S' k | e => k e S'
  | some (r, A) =>
   match headOf A a S with
   | none => .no 90
   | some H =>
    let hv := vars S.nv H.srts.length ++ A.extra
    .and (execP P Γ pl a S fun e T => match e with
       | .normal => match fits H T with
        | some vs => .inv r (vs ++ A.extra) T.facts .top
        | none => .no 91
       | e => k e T)
      (alls H.srts S fun S1 => .hyp r hv (execP P Γ pl b (H.at_ S1.nv r hv) k))
 | .cond c x y, S, k =>
  match S.opd c with
  | some (.s (.one (.bool (.bool true)))) => execP P Γ pl x S k
  | some (.s (.one (.bool (.bool false)))) => execP P Γ pl y S k
  | some (.s (.one (.bool q))) =>
   if S.known.contains q = true then execP P Γ pl x S k
   else if S.known.contains (X.not q) = true then execP P Γ pl y S k
   else .and (.imp q (execP P Γ pl x (S.know q) k)) (.imp (X.not q) (execP P Γ pl y (S.know (X.not q)) k))
  | _ => .no 61
 | .block id c, S, k => execP P Γ pl c S fun e S' => match e with | .exit j => if j = id then k .normal S' else k e S' | e => k e S'
 | .exit id, S, k => k (.exit id) S
 | .ret, S, k => k .ret S
 | .loop c, S, k =>
  match (Code.first c).bind fun r => Γ.unroll.lookup r with
  | some n => rounds (execP P Γ pl c) n S k
  | none =>
  match (Code.first c).bind fun r => (Γ.loops.lookup r).map fun A => (r, A) with
  | none => .no 62
  | some (r, A) =>
   match headOf A c S with
   | none => .no 63
   | some H =>
    match fits H S with
    | none => .no 64
    | some us =>
      let hv := vars S.nv H.srts.length ++ A.extra
      .inv r (us ++ A.extra) S.facts
       (alls H.srts S fun S1 =>
        .hyp r hv (execP P Γ pl c (H.at_ S1.nv r hv) (fun e T => match e with
         | .normal => match fits H T with
          | some vs => .inv r (vs ++ A.extra) T.facts (.less r hv (vs ++ A.extra) .top)
          | none => .no 65
         | e => k e T)))
 | _, _, _ => .no 69
def vcOfP (P : Program) (Γ : Cfg) (pl : List (Nat × List Nat)) (f : Nat) : VC :=
 match P.funcs[f]? with
 | none => .no 80
 | some fn =>
  match shsOf P fn.params, shsOf P fn.resultTypes, lentsLfs P Γ.mine, fn.body with
  | some pin, some pout, some lls, some body => match claims P (mclaims Γ.mrows) (vars (lfsAr (shsLfs pin)) Γ.mrows.length) (start fn pin Γ.own Γ.mine Γ.mrows.length lls) with | none => .no 84 | some S0 => execP P Γ (pl.map fun p => (p.1, (planOf 1000 p.2).1)) body S0 fun e S => match e with | .normal | .ret => final P Γ.lnm fn pout Γ.mine Γ.mrows lls S | _ => .no 81
  | _, _, _, _ => .no 82
def chkL (P : Program) (Γ : Cfg) (fn : Func) (specs : List (Nat × Ctr)) (gh : Nat) (srts : List Srt) : Bool :=
 P.follows .mixedOrders && decide (Γ.con = conOf specs) && Γ.keepB.isEmpty &&
 match shsOf P fn.params, shsOf P fn.resultTypes, lentsLfs P Γ.mine with
 | some pin, some _, some lls => decide (srts = lfsSrts (shsLfs pin) ++ (List.replicate Γ.mrows.length .l ++ (lfsSrts lls.flatten ++ List.replicate gh .g)))
 | _, _, _ => false
def chk (P : Program) (Γ : Cfg) (fn : Func) (specs : List (Nat × Ctr)) (gh : Nat) (srts : List Srt) : Bool :=
 P.follows .mixedOrders && decide (Γ.con = conOf specs) && Γ.keepB.isEmpty && Γ.mine.isEmpty && Γ.mrows.isEmpty &&
 match shsOf P fn.params, shsOf P fn.resultTypes with
 | some pin, some _ => decide (srts = lfsSrts (shsLfs pin) ++ List.replicate gh .g)
 | _, _ => false
def AllU (k : List U → Prop) : List Srt → List U → Prop
 | [], acc => k acc.reverse
 | .i :: l, acc => ∀ x : Int, AllU k l (.i x :: acc)
 | .n :: l, acc => ∀ x : Nat, AllU k l (.n x :: acc)
 | .b :: l, acc => ∀ x : Bool, AllU k l (.b x :: acc)
 | .s :: l, acc => ∀ x : ByteArray, AllU k l (.s x :: acc)
 | .p :: l, acc => ∀ x : Option Addr, AllU k l (.p x :: acc)
 | .l :: l, acc => ∀ x : List Value, AllU k l (.l x :: acc)
 | .v :: l, acc => ∀ x : Value, AllU k l (.v x :: acc)
 | .g :: l, acc => ∀ (α : Type) (x : α), AllU k l (.g x :: acc)
theorem AllU.get {k : List U → Prop} : ∀ {l : List Srt} {acc us : List U}, AllU k l acc → us.map U.srt = l → k (acc.reverse ++ us)
 | [], acc, us, h, hu => by
  have : us = [] := by simpa using hu
  subst this; rw [List.append_nil]; exact h
 | so :: l, acc, us, h, hu => by
  cases us with
  | nil => cases hu
  | cons u us =>
   rw [List.map_cons] at hu; injection hu with h1 h2
   have hh : AllU k l (u :: acc) := by
    subst h1; cases u <;> first | exact h _ | exact h _ _
   have := AllU.get hh h2; rw [List.reverse_cons, List.append_assoc] at this; exact this
theorem keepsR_v {P : Program} {f : Nat} {fn : Func} {v : VC} (hfn : P.funcs[f]? = some fn) (Γ : Cfg) (hv : vcOf P Γ f = v) (srts : List Srt) (s : Ctr) (specs : List (Nat × Ctr)) (hs : KeepAll P Γ.lents Γ.lrows Γ.pans specs)
  (hok : chkL P Γ fn specs s.gh srts = true) (mono : ∀ us w w', s.pre us w → s.pre us w')
  (vc : AllU (fun us => ∀ w, s.pre us w → ∃ invs, v.denO std ⟨ctrOf specs, s, invOf invs, us, w.heap.size⟩ (rhoOf us srts)) srts []) (hnew : NewsOk P Γ.news := by exact newsOk_nil) : KeepsR P f s Γ.mine Γ.mrows := by
 unfold chkL at hok; simp only [Bool.and_eq_true, decide_eq_true_eq] at hok; obtain ⟨⟨⟨hm, hΓ⟩, hkb⟩, hok⟩ := hok; split at hok
 ·next pin pout lls h1 h2 h3 =>
  rw [decide_eq_true_eq] at hok; subst hok; refine keepsR_of hm hfn h1 h2 s specs Γ h3 hs hΓ mono ?_ (by simpa using hkb) hnew; intro us w ht hp ln; obtain ⟨invs, h⟩ := AllU.get vc ht w hp; refine ⟨invs, ?_⟩; rw [hv]; rw [VC.denO_std _ ln []] at h; exact h
 ·cases hok
theorem keepsL_v {P : Program} {f : Nat} {fn : Func} {v : VC} (hfn : P.funcs[f]? = some fn) (Γ : Cfg) (hv : vcOf P Γ f = v) (srts : List Srt) (s : Ctr) (specs : List (Nat × Ctr)) (hs : KeepAll P Γ.lents Γ.lrows Γ.pans specs)
  (hok : chkL P Γ fn specs s.gh srts = true) (mono : ∀ us w w', s.pre us w → s.pre us w')
  (vc : AllU (fun us => ∀ w, s.pre us w → ∃ invs, v.denO std ⟨ctrOf specs, s, invOf invs, us, w.heap.size⟩ (rhoOf us srts)) srts []) (hmr : Γ.mrows = [] := by rfl) (hnew : NewsOk P Γ.news := by exact newsOk_nil) : KeepsL P f s Γ.mine := by
 have := keepsR_v hfn Γ hv srts s specs hs hok mono vc hnew; rw [hmr] at this; exact this
theorem keeps_v {P : Program} {f : Nat} {fn : Func} {v : VC} (hfn : P.funcs[f]? = some fn) (Γ : Cfg) (hv : vcOf P Γ f = v) (srts : List Srt) (s : Ctr) (specs : List (Nat × Ctr)) (hs : KeepAll P Γ.lents Γ.lrows Γ.pans specs)
  (hok : chk P Γ fn specs s.gh srts = true) (mono : ∀ us w w', s.pre us w → Below w.heap.size w w' → s.pre us w')
  (vc : AllU (fun us => ∀ w, s.pre us w → ∃ invs, v.denO std ⟨ctrOf specs, s, invOf invs, us, w.heap.size⟩ (rhoOf us srts)) srts []) (hpan : ∀ us ch, ¬ s.pan us ch := by exact fun _ _ h => h) (hnew : NewsOk P Γ.news := by exact newsOk_nil) : Keeps P f s := by
 unfold chk at hok; simp only [Bool.and_eq_true, decide_eq_true_eq] at hok; obtain ⟨⟨⟨⟨⟨hm, hΓ⟩, hkb⟩, hmine⟩, hmr⟩, hok⟩ := hok; split at hok
 ·next pin pout h1 h2 =>
  rw [decide_eq_true_eq] at hok; subst hok; refine keeps_of hm hfn h1 h2 s specs Γ hs hΓ mono ?_ (by simpa using hmine) (by simpa using hmr) hpan (by simpa using hkb) hnew; intro us w ht hp; obtain ⟨invs, h⟩ := AllU.get vc ht w hp; refine ⟨invs, ?_⟩; rw [hv]; rw [VC.denO_std _ [] []] at h; exact h
 ·cases hok
theorem vc_use {v : VC} {us : List U} {ρ : Nat → U} {specs : List (Nat × Ctr)} {invs : List (Nat × Inv)} {s0 : Ctr} {b0 : Nat} (Q : (O : Alg) → (Nat → Ctr) → Ctr → (Nat → Inv) → Nat → O.T)
  (h : ∀ O C s I b, v.denO O ⟨C, s, I, us, b⟩ ρ = Q O C s I b) (g : Q std (ctrOf specs) s0 (invOf invs) b0) : v.denO std ⟨ctrOf specs, s0, invOf invs, us, b0⟩ ρ := by
 rw [h]; exact g
end Go.Proofs.YtjhaafbbdgjagaaGreat.Vc
namespace Go.Proofs.YtjhaafbbdgjagaaGreat
open Go Go.RowKit Vc
set_option maxRecDepth 100000
def bV (l : List UInt8) : List Value := l.map fun b => .int .u8 b.toNat
theorem bV_one (l : List UInt8) : ∀ v ∈ bV l, v.oneCell' = true := by
 intro v hv; obtain ⟨b, _, rfl⟩ := List.mem_map.1 hv; rfl
theorem bV_take (l : List UInt8) (n : Nat) : (bV l).take n = bV (l.take n) := by unfold bV; rw [List.map_take]
theorem bV_app (a b : List UInt8) : bV a ++ bV b = bV (a ++ b) := by unfold bV; rw [List.map_append]
theorem bV_len (l : List UInt8) : (bV l).length = l.length := by unfold bV; rw [List.length_map]
theorem bV_inj : ∀ {a b : List UInt8}, bV a = bV b → a = b
 | [], [], _ => rfl
 | [], _ :: _, h => by cases h
 | _ :: _, [], h => by cases h
 | x :: a, y :: b, h => by
  injection h with h1 h2
  injection h1 with _ h1
  rw [bV_inj h2, UInt8.toNat_inj.1 (by omega : x.toNat = y.toNat)]
def logU (L : LogS) (p q : Option Addr) (c d : Nat) : List U := [.l (bV L.safe), .l (bV L.loose), .p p, .n L.safe.length, .n c, .p q, .n L.loose.length, .n d, .i L.left, .i L.keep, .b L.down]
theorem logU_inj {L M : LogS} {p q p' q' : Option Addr} {c d c' d' : Nat} (h : logU L p q c d = logU M p' q' c' d') : L = M := by
 cases L; cases M; simp only [logU, List.cons.injEq, U.l.injEq, U.i.injEq, U.b.injEq, and_true] at h; obtain ⟨h1, h2, _, _, _, _, _, _, h3, h4, h5⟩ := h; rw [bV_inj h1, bV_inj h2, h3, h4, h5]
def LogS.Small (L : LogS) (n : Nat) : Prop := L.Ok ∧ L.size ≤ n
def LogC {A : Type} (us : A → List U) (ok : A → Prop) (R : A → LogS → LogS → List U → Prop) (n : Nat) : Ctr where
 gh := 0
 pre u _ := ∃ a x L p q c d, u = .p a :: us x ++ logU L p q c d ∧ L.Small n ∧ ok x
 post u o := ∀ a x L p q c d, u = .p a :: us x ++ logU L p q c d → ∃ M p' q' c' d' rs, o = rs ++ logU M p' q' c' d' ∧ R x L M rs
 fact _ _ _ := True
theorem LogC.post_of {A : Type} {us : A → List U} {ok : A → Prop} {R : A → LogS → LogS → List U → Prop} {n : Nat} (hu : ∀ x y, us x = us y → x = y) {a : Option Addr} {x : A} {L : LogS} {p q : Option Addr} {c d : Nat} {o : List U} (M : LogS) (p' q' : Option Addr) (c' d' : Nat) (rs : List U) (he : o = rs ++ logU M p' q' c' d') (h : R x L M rs) :
  (LogC us ok R n).post (.p a :: us x ++ logU L p q c d) o := by
 intro a' x' L' p1 q1 c1 d1 e; obtain ⟨e1, e2⟩ := List.append_inj' e rfl; injection e1 with _ e1
 obtain rfl := hu _ _ e1; obtain rfl := logU_inj e2; exact ⟨M, p', q', c', d', rs, he, h⟩
def big : Nat := 100000000000000
def ArmC : Ctr := LogC (fun x : Int × Int => [.i x.1, .i x.2]) (fun _ => True) (fun x L M rs => rs = [] ∧ M = L.arm x.1 x.2) big
def DieC : Ctr := LogC (fun x : Int => [.i x]) (fun _ => True) (fun x L M rs => rs = [] ∧ M = L.die x) big
def ActC : Ctr := LogC (fun _ : Unit => []) (fun _ => True) (fun _ L M rs => rs = [.b (!M.down)] ∧ M = L.act) big
def DownC : Ctr := LogC (fun _ : Unit => []) (fun _ => True) (fun _ L M rs => rs = [.b L.down] ∧ M = L) big
def SyncC : Ctr := LogC (fun _ : Unit => []) (fun _ => True) (fun _ L M rs => rs = [.i (bif L.sync.2 then 0 else 27)] ∧ M = L.sync.1) big
def BytesC : Ctr := LogC (fun _ : Unit => []) (fun _ => True) (fun _ L M rs => rs = [.s (bs L.safe ++ bs L.loose), .i L.safe.length] ∧ M = L) big
theorem ii_inj : ∀ x y : Int × Int, ([.i x.1, .i x.2] : List U) = [.i y.1, .i y.2] → x = y := by
 rintro ⟨a, b⟩ ⟨c, d⟩ h; simp only [List.cons.injEq, U.i.injEq, and_true] at h; rw [h.1, h.2]
theorem i_inj : ∀ x y : Int, ([.i x] : List U) = [.i y] → x = y := by
 intro x y h; simp only [List.cons.injEq, U.i.injEq, and_true] at h; exact h
theorem u_inj : ∀ x y : Unit, ([] : List U) = [] → x = y := fun _ _ _ => rfl
def cfg_arm : Cfg := { mine := [(0, 112)], rcells := [(0, 0, 5), (0, 1, 5)], mrows := [(0, 0, 5), (0, 1, 5)] }
def vcd_arm : { v : VC // vcOf Tryz.prog cfg_arm 13 = v } := by refine ⟨?v, ?h⟩; rotate_left; conv => lhs; reduce
theorem vce_arm : vcOf Tryz.prog cfg_arm 13 = vcd_arm.1 := vcd_arm.2
theorem arm_keeps : KeepsR Tryz.prog 13 ArmC [(0, 112)] [(0, 0, 5), (0, 1, 5)] := by
 refine keepsR_v Tryz.func13 cfg_arm vce_arm [.p, .i, .i, .l, .l, .p, .n, .n, .p, .n, .n, .i, .i, .b] ArmC [] trivial (by kernel_rfl) (fun _ _ _ h => h) ?_; intro x0 x1 x2 x3 x4 x5 x6 x7 x8 x9 x10 x11 x12 x13 w hp; refine ⟨[], vc_use ?Q ?h ?g⟩
 case h => intro O C s I b; conv => lhs; reduce
 dsimp only [std]
 try simp only [List.lookup, Nat.reduceBEq, Option.getD_some, Int.reduceOfNat, Int.reduceNegSucc]
 obtain ⟨a, ⟨n, k⟩, L, p, q, c, d, he, ⟨hok, hs⟩, hx⟩ := hp; have he := he.symm; simp only [List.reverse_cons, List.reverse_nil, logU, List.cons_append, List.nil_append, List.cons.injEq, U.p.injEq, U.i.injEq, U.l.injEq, U.n.injEq, U.b.injEq, and_true] at he; obtain ⟨rfl, rfl, rfl, rfl, rfl, rfl, rfl, rfl, rfl, rfl, rfl, rfl, rfl, rfl⟩ := he; unfold LogS.size big at hs; exact ⟨LogC.post_of (us := fun x : Int × Int => [.i x.1, .i x.2]) (x := (n, k)) ii_inj (L.arm n k) p q c d [] (by simp only [logU, LogS.arm, cond_eq_ite, decide_eq_true_eq, List.nil_append]) ⟨rfl, rfl⟩, fun _ _ => trivial⟩
def cfg_die : Cfg := { mine := [(0, 112)], rcells := [(0, 0, 5), (0, 1, 5)], mrows := [(0, 0, 5), (0, 1, 5)] }
def vcd_die : { v : VC // vcOfP Tryz.prog cfg_die [(2, [1000004, 1005003, 36, 17, 33, 41, 45, 1012002, 57])] 15 = v } := by refine ⟨?v, ?h⟩; rotate_left; conv => lhs; reduce
theorem vce_die : vcOf Tryz.prog cfg_die 15 = vcd_die.1 := by kernel_rfl
theorem die_keeps : KeepsR Tryz.prog 15 DieC [(0, 112)] [(0, 0, 5), (0, 1, 5)] := by
 refine keepsR_v Tryz.func15 cfg_die vce_die [.p, .i, .l, .l, .p, .n, .n, .p, .n, .n, .i, .i, .b] DieC [] trivial (by kernel_rfl) (fun _ _ _ h => h) ?_; intro x0 x1 x2 x3 x4 x5 x6 x7 x8 x9 x10 x11 x12 w hp; refine ⟨[], vc_use ?Q ?h ?g⟩
 case h => intro O C s I b; conv => lhs; reduce
 dsimp only [std]
 try simp only [List.lookup, Nat.reduceBEq, Option.getD_some, Int.reduceOfNat, Int.reduceNegSucc]
 obtain ⟨a, k0, L, p, q, c, d, he, ⟨hok, hs⟩, hx⟩ := hp; have he := he.symm; simp only [List.reverse_cons, List.reverse_nil, logU, List.cons_append, List.nil_append, List.cons.injEq, U.p.injEq, U.i.injEq, U.l.injEq, U.n.injEq, U.b.injEq, and_true] at he; obtain ⟨rfl, rfl, rfl, rfl, rfl, rfl, rfl, rfl, rfl, rfl, rfl, rfl, rfl⟩ := he; unfold LogS.size big at hs; have hb : L.safe.length + L.loose.length ≤ 100000000000000 := hs; have hk : (bif decide ((L.loose.length : Int) < bif decide (k0 < 0) then 0 else k0) then (L.loose.length : Int) else bif decide (k0 < 0) then 0 else k0).toNat = min k0.toNat L.loose.length ∧ 0 ≤ (bif decide ((L.loose.length : Int) < bif decide (k0 < 0) then 0 else k0) then (L.loose.length : Int) else bif decide (k0 < 0) then 0 else k0) := by
  simp only [cond_eq_ite, decide_eq_true_eq]; split <;> split <;> omega
 generalize (bif decide ((L.loose.length : Int) < bif decide (k0 < 0) then 0 else k0) then (L.loose.length : Int) else bif decide (k0 < 0) then 0 else k0) = k at hk; obtain ⟨hk, hk0⟩ := hk; refine ⟨fun hd => ⟨?_, fun _ _ => trivial⟩, fun hd => ⟨hk0, by omega, fun v hv => bV_one _ v (List.mem_of_mem_take hv), by omega, by omega, fun p1 c1 p2 c2 => ⟨?_, fun _ _ => trivial⟩⟩⟩
 ·exact LogC.post_of (us := fun x : Int => [.i x]) (x := k0) i_inj (L.die k0) p q c d [] (by unfold LogS.die; rw [if_pos hd]; rfl) ⟨rfl, rfl⟩
 ·refine LogC.post_of (us := fun x : Int => [.i x]) (x := k0) i_inj (L.die k0) p1 p2 c1 c2 [] ?_ ⟨rfl, rfl⟩; have ht : L.loose.take k.toNat = L.loose.take k0.toNat := by rw [hk, List.take_eq_take_iff]; omega
  have hn : (L.loose.take k0.toNat).length = k.toNat := by rw [List.length_take, hk]
  unfold LogS.die; rw [if_neg hd]; simp only [logU, bV_take, bV_app, ht, List.length_append, hn, List.nil_append]; rfl
def cfg_down : Cfg := { mine := [(0, 112)], rcells := [(0, 0, 5), (0, 1, 5)], mrows := [(0, 0, 5), (0, 1, 5)] }
def vcd_down : { v : VC // vcOf Tryz.prog cfg_down 23 = v } := by refine ⟨?v, ?h⟩; rotate_left; conv => lhs; reduce
theorem vce_down : vcOf Tryz.prog cfg_down 23 = vcd_down.1 := vcd_down.2
theorem down_keeps : KeepsR Tryz.prog 23 DownC [(0, 112)] [(0, 0, 5), (0, 1, 5)] := by
 refine keepsR_v Tryz.func23 cfg_down vce_down [.p, .l, .l, .p, .n, .n, .p, .n, .n, .i, .i, .b] DownC [] trivial (by kernel_rfl) (fun _ _ _ h => h) ?_; intro x0 x1 x2 x3 x4 x5 x6 x7 x8 x9 x10 x11 w hp; refine ⟨[], vc_use ?Q ?h ?g⟩
 case h => intro O C s I b; conv => lhs; reduce
 dsimp only [std]
 try simp only [List.lookup, Nat.reduceBEq, Option.getD_some, Int.reduceOfNat, Int.reduceNegSucc]
 obtain ⟨a, ⟨⟩, L, p, q, c, d, he, ⟨hok, hs⟩, hx⟩ := hp; have he := he.symm; simp only [List.reverse_cons, List.reverse_nil, logU, List.cons_append, List.nil_append, List.cons.injEq, U.p.injEq, U.i.injEq, U.l.injEq, U.n.injEq, U.b.injEq, and_true] at he; obtain ⟨rfl, rfl, rfl, rfl, rfl, rfl, rfl, rfl, rfl, rfl, rfl, rfl⟩ := he; unfold LogS.size big at hs; exact ⟨LogC.post_of (us := fun _ : Unit => []) (x := ()) u_inj L p q c d [.b L.down] rfl ⟨rfl, rfl⟩, fun _ _ => trivial⟩
def cfg_act : Cfg := { con := [(15, 0)], lents := [(15, [(0, 112)])], mine := [(0, 112)], rcells := [(0, 0, 5), (0, 1, 5)], mrows := [(0, 0, 5), (0, 1, 5)], lrows := [(15, [(0, 0, 5), (0, 1, 5)])] }
def vcd_act : { v : VC // vcOf Tryz.prog cfg_act 59 = v } := by refine ⟨?v, ?h⟩; rotate_left; conv => lhs; reduce
theorem vce_act : vcOf Tryz.prog cfg_act 59 = vcd_act.1 := vcd_act.2
theorem act_keeps : KeepsR Tryz.prog 59 ActC [(0, 112)] [(0, 0, 5), (0, 1, 5)] := by
 refine keepsR_v Tryz.func59 cfg_act vce_act [.p, .l, .l, .p, .n, .n, .p, .n, .n, .i, .i, .b] ActC [(15, DieC)] ⟨die_keeps, trivial⟩ (by kernel_rfl) (fun _ _ _ h => h) ?_; intro x0 x1 x2 x3 x4 x5 x6 x7 x8 x9 x10 x11 w hp; refine ⟨[], vc_use ?Q ?h ?g⟩
 case h => intro O C s I b; conv => lhs; reduce
 dsimp only [std]
 try simp only [ctrOf, invOf, List.lookup, Nat.reduceBEq, Option.getD_some, Int.reduceOfNat, Int.reduceNegSucc]
 obtain ⟨a, ⟨⟩, L, p, q, c, d, he, ⟨hok, hs⟩, hx⟩ := hp; have he := he.symm; simp only [List.reverse_cons, List.reverse_nil, logU, List.cons_append, List.nil_append, List.cons.injEq, U.p.injEq, U.i.injEq, U.l.injEq, U.n.injEq, U.b.injEq, and_true] at he; obtain ⟨rfl, rfl, rfl, rfl, rfl, rfl, rfl, rfl, rfl, rfl, rfl, rfl⟩ := he; unfold LogS.size big at hs; obtain ⟨ok1, ok2, ok3⟩ := hok; refine ⟨fun h0 => ⟨⟨by omega, by omega⟩, fun h1 => ?_, fun h1 => ⟨?_, fun _ _ => trivial⟩⟩, fun h0 => ⟨?_, fun _ _ => trivial⟩⟩
 ·intro a1; refine ⟨fun w _ => ⟨a1, L.keep, { L with left := L.left - 1 }, p, q, c, d, rfl, ⟨⟨ok1, by show 0 ≤ L.left - 1 ∧ L.left - 1 < _; omega, ok3⟩, hs⟩, trivial⟩, ?_⟩; intro y1 y2 y3 y4 y5 y6 y7 y8 y9 y10 y11 hd; obtain ⟨M, p', q', c', d', rs, e1, rfl, e2⟩ := hd a1 L.keep { L with left := L.left - 1 } p q c d rfl
  have e1 := e1.symm; simp only [List.reverse_cons, List.reverse_nil, logU, List.cons_append, List.nil_append, List.cons.injEq, U.p.injEq, U.i.injEq, U.l.injEq, U.n.injEq, U.b.injEq, and_true] at e1; obtain ⟨rfl, rfl, rfl, rfl, rfl, rfl, rfl, rfl, rfl, rfl, rfl⟩ := e1; refine ⟨LogC.post_of (us := fun _ : Unit => []) (x := ()) u_inj M p' q' c' d' [.b (!M.down)] rfl ⟨rfl, ?_⟩, fun _ _ => trivial⟩; rw [e2, LogS.act, if_pos h0, if_pos h1, h1]
 ·refine LogC.post_of (us := fun _ : Unit => []) (x := ()) u_inj L.act p q c d [.b (!L.act.down)] ?_ ⟨rfl, rfl⟩; rw [LogS.act, if_pos h0, if_neg h1]; rfl
 ·refine LogC.post_of (us := fun _ : Unit => []) (x := ()) u_inj L.act p q c d [.b (!L.act.down)] ?_ ⟨rfl, rfl⟩; rw [LogS.act, if_neg h0]; rfl
def cfg_sync : Cfg := { con := [(59, 0)], lents := [(59, [(0, 112)])], mine := [(0, 112)], rcells := [(0, 0, 5), (0, 1, 5)], mrows := [(0, 0, 5), (0, 1, 5)], lrows := [(59, [(0, 0, 5), (0, 1, 5)])] }
def vcd_sync : { v : VC // vcOfP Tryz.prog cfg_sync [(3, [1000004, 1005003, 17, 33, 37, 1010002, 49])] 11 = v } := by refine ⟨?v, ?h⟩; rotate_left; conv => lhs; reduce
theorem vce_sync : vcOf Tryz.prog cfg_sync 11 = vcd_sync.1 := by kernel_rfl
theorem sync_keeps : KeepsR Tryz.prog 11 SyncC [(0, 112)] [(0, 0, 5), (0, 1, 5)] := by
 refine keepsR_v Tryz.func11 cfg_sync vce_sync [.p, .l, .l, .p, .n, .n, .p, .n, .n, .i, .i, .b] SyncC [(59, ActC)] ⟨act_keeps, trivial⟩ (by kernel_rfl) (fun _ _ _ h => h) ?_; intro x0 x1 x2 x3 x4 x5 x6 x7 x8 x9 x10 x11 w hp; refine ⟨[], vc_use ?Q ?h ?g⟩
 case h => intro O C s I b; conv => lhs; reduce
 dsimp only [std]
 try simp only [ctrOf, invOf, List.lookup, Nat.reduceBEq, Option.getD_some, Int.reduceOfNat, Int.reduceNegSucc]
 obtain ⟨a, ⟨⟩, L, p, q, c, d, he, ⟨hok, hs⟩, hx⟩ := hp; have he := he.symm; simp only [List.reverse_cons, List.reverse_nil, logU, List.cons_append, List.nil_append, List.cons.injEq, U.p.injEq, U.i.injEq, U.l.injEq, U.n.injEq, U.b.injEq, and_true] at he; obtain ⟨rfl, rfl, rfl, rfl, rfl, rfl, rfl, rfl, rfl, rfl, rfl, rfl⟩ := he; unfold LogS.size big at hs; have ho : L.act.Ok := LogS.act_ok hok; have hz := LogS.act_size L; unfold LogS.size at hz; refine ⟨fun h0 => ⟨?_, fun _ _ => trivial⟩, fun h0 => ?_⟩
 ·refine LogC.post_of (us := fun _ : Unit => []) (x := ()) u_inj L.sync.1 p q c d [.i (bif L.sync.2 then 0 else 27)] ?_ ⟨rfl, rfl⟩; rw [LogS.sync, if_pos h0]; rfl
 ·intro a1; refine ⟨fun w _ => ⟨a1, (), L, p, q, c, d, rfl, ⟨hok, hs⟩, trivial⟩, ?_⟩; intro y0 y1 y2 y3 y4 y5 y6 y7 y8 y9 y10 y11 hd; obtain ⟨M, p', q', c', d', rs, e1, rfl, rfl⟩ := hd a1 () L p q c d rfl; have e1 := e1.symm; simp only [List.reverse_cons, List.reverse_nil, logU, List.cons_append, List.nil_append, List.cons.injEq, U.p.injEq, U.i.injEq, U.l.injEq, U.n.injEq, U.b.injEq, and_true] at e1; obtain ⟨rfl, rfl, rfl, rfl, rfl, rfl, rfl, rfl, rfl, rfl, rfl, rfl⟩ := e1; refine ⟨fun h1 => ⟨?_, fun _ _ => trivial⟩, fun h1 => ⟨bV_one _, by omega, by omega, fun p1 c1 p2 c2 => ⟨?_, fun _ _ => trivial⟩⟩⟩
  ·have h1 : L.act.down = true := by simpa using h1
   refine LogC.post_of (us := fun _ : Unit => []) (x := ()) u_inj L.sync.1 p' q' c' d' [.i (bif L.sync.2 then 0 else 27)] ?_ ⟨rfl, rfl⟩; rw [LogS.sync, if_neg h0]; dsimp only; rw [if_pos h1]; rfl
  ·have h1 : ¬ L.act.down = true := by simpa using h1
   refine LogC.post_of (us := fun _ : Unit => []) (x := ()) u_inj L.sync.1 p1 p2 c1 c2 [.i (bif L.sync.2 then 0 else 27)] ?_ ⟨rfl, rfl⟩; rw [LogS.sync, if_neg h0]; dsimp only; rw [if_neg h1]; simp only [logU, bV_app, List.length_append, List.nil_append]; rfl
def cfg_bytes : Cfg := { mine := [(0, 112)], rcells := [(0, 0, 5), (0, 1, 5)], mrows := [(0, 0, 5), (0, 1, 5)] }
def vcd_bytes : { v : VC // vcOf Tryz.prog cfg_bytes 22 = v } := ⟨VC.and (VC.and (VC.ex 12 (Srt.s) (VC.leq (X.var 1) (X.un (UOp.sl) (X.var 12)) (VC.ex 13 (Srt.s) (VC.leq (X.var 2) (X.un (UOp.sl) (X.var 13)) (VC.need (X.bin (BOp.le) (X.un (UOp.cast) (X.bin (BOp.nadd) (X.un (UOp.size) (X.var 12)) (X.un (UOp.size) (X.var 13)))) (X.int 9223372036854775807)) (VC.ret [X.un (UOp.co (Srt.s)) (X.bin (BOp.sapp) (X.var 12) (X.var 13)), X.un (UOp.co (Srt.i)) (X.un (UOp.cast) (X.var 4)), X.un (UOp.co (Srt.l)) (X.var 1), X.un (UOp.co (Srt.l)) (X.var 2), X.un (UOp.co (Srt.p)) (X.var 3), X.un (UOp.co (Srt.n)) (X.var 4), X.un (UOp.co (Srt.n)) (X.var 5), X.un (UOp.co (Srt.p)) (X.var 6), X.un (UOp.co (Srt.n)) (X.var 7), X.un (UOp.co (Srt.n)) (X.var 8), X.un (UOp.co (Srt.i)) (X.var 9), X.un (UOp.co (Srt.i)) (X.var 10), X.un (UOp.co (Srt.b)) (X.var 11)] [FX.pre])))))) (VC.and (VC.ex 12 (Srt.s) (VC.leq (X.var 1) (X.un (UOp.sl) (X.var 12)) (VC.ex 13 (Srt.s) (VC.leq (X.var 2) (X.un (UOp.sl) (X.var 13)) (VC.need (X.bin (BOp.le) (X.un (UOp.cast) (X.bin (BOp.nadd) (X.un (UOp.size) (X.var 12)) (X.un (UOp.size) (X.var 13)))) (X.int 9223372036854775807)) (VC.ret [X.un (UOp.co (Srt.s)) (X.bin (BOp.sapp) (X.var 12) (X.var 13)), X.un (UOp.co (Srt.i)) (X.un (UOp.cast) (X.var 4)), X.un (UOp.co (Srt.l)) (X.var 1), X.un (UOp.co (Srt.l)) (X.var 2), X.un (UOp.co (Srt.p)) (X.var 3), X.un (UOp.co (Srt.n)) (X.var 4), X.un (UOp.co (Srt.n)) (X.var 5), X.un (UOp.co (Srt.p)) (X.var 6), X.un (UOp.co (Srt.n)) (X.var 7), X.un (UOp.co (Srt.n)) (X.var 8), X.un (UOp.co (Srt.i)) (X.var 9), X.un (UOp.co (Srt.i)) (X.var 10), X.un (UOp.co (Srt.b)) (X.var 11)] [FX.pre])))))) (VC.ex 12 (Srt.s) (VC.leq (X.var 2) (X.un (UOp.sl) (X.var 12)) (VC.ex 13 (Srt.s) (VC.leq (X.var 1) (X.un (UOp.sl) (X.var 13)) (VC.need (X.bin (BOp.le) (X.un (UOp.cast) (X.bin (BOp.nadd) (X.un (UOp.size) (X.var 13)) (X.un (UOp.size) (X.var 12)))) (X.int 9223372036854775807)) (VC.ret [X.un (UOp.co (Srt.s)) (X.bin (BOp.sapp) (X.var 13) (X.var 12)), X.un (UOp.co (Srt.i)) (X.un (UOp.cast) (X.var 4)), X.un (UOp.co (Srt.l)) (X.var 1), X.un (UOp.co (Srt.l)) (X.var 2), X.un (UOp.co (Srt.p)) (X.var 3), X.un (UOp.co (Srt.n)) (X.var 4), X.un (UOp.co (Srt.n)) (X.var 5), X.un (UOp.co (Srt.p)) (X.var 6), X.un (UOp.co (Srt.n)) (X.var 7), X.un (UOp.co (Srt.n)) (X.var 8), X.un (UOp.co (Srt.i)) (X.var 9), X.un (UOp.co (Srt.i)) (X.var 10), X.un (UOp.co (Srt.b)) (X.var 11)] [FX.pre])))))))) (VC.and (VC.and (VC.ex 12 (Srt.s) (VC.leq (X.var 1) (X.un (UOp.sl) (X.var 12)) (VC.ex 13 (Srt.s) (VC.leq (X.var 2) (X.un (UOp.sl) (X.var 13)) (VC.need (X.bin (BOp.le) (X.un (UOp.cast) (X.bin (BOp.nadd) (X.un (UOp.size) (X.var 12)) (X.un (UOp.size) (X.var 13)))) (X.int 9223372036854775807)) (VC.ret [X.un (UOp.co (Srt.s)) (X.bin (BOp.sapp) (X.var 12) (X.var 13)), X.un (UOp.co (Srt.i)) (X.un (UOp.cast) (X.var 4)), X.un (UOp.co (Srt.l)) (X.var 1), X.un (UOp.co (Srt.l)) (X.var 2), X.un (UOp.co (Srt.p)) (X.var 3), X.un (UOp.co (Srt.n)) (X.var 4), X.un (UOp.co (Srt.n)) (X.var 5), X.un (UOp.co (Srt.p)) (X.var 6), X.un (UOp.co (Srt.n)) (X.var 7), X.un (UOp.co (Srt.n)) (X.var 8), X.un (UOp.co (Srt.i)) (X.var 9), X.un (UOp.co (Srt.i)) (X.var 10), X.un (UOp.co (Srt.b)) (X.var 11)] [FX.pre])))))) (VC.ex 12 (Srt.s) (VC.leq (X.var 2) (X.un (UOp.sl) (X.var 12)) (VC.ex 13 (Srt.s) (VC.leq (X.var 1) (X.un (UOp.sl) (X.var 13)) (VC.need (X.bin (BOp.le) (X.un (UOp.cast) (X.bin (BOp.nadd) (X.un (UOp.size) (X.var 13)) (X.un (UOp.size) (X.var 12)))) (X.int 9223372036854775807)) (VC.ret [X.un (UOp.co (Srt.s)) (X.bin (BOp.sapp) (X.var 13) (X.var 12)), X.un (UOp.co (Srt.i)) (X.un (UOp.cast) (X.var 4)), X.un (UOp.co (Srt.l)) (X.var 1), X.un (UOp.co (Srt.l)) (X.var 2), X.un (UOp.co (Srt.p)) (X.var 3), X.un (UOp.co (Srt.n)) (X.var 4), X.un (UOp.co (Srt.n)) (X.var 5), X.un (UOp.co (Srt.p)) (X.var 6), X.un (UOp.co (Srt.n)) (X.var 7), X.un (UOp.co (Srt.n)) (X.var 8), X.un (UOp.co (Srt.i)) (X.var 9), X.un (UOp.co (Srt.i)) (X.var 10), X.un (UOp.co (Srt.b)) (X.var 11)] [FX.pre]))))))) (VC.ex 12 (Srt.s) (VC.leq (X.var 2) (X.un (UOp.sl) (X.var 12)) (VC.ex 13 (Srt.s) (VC.leq (X.var 1) (X.un (UOp.sl) (X.var 13)) (VC.need (X.bin (BOp.le) (X.un (UOp.cast) (X.bin (BOp.nadd) (X.un (UOp.size) (X.var 13)) (X.un (UOp.size) (X.var 12)))) (X.int 9223372036854775807)) (VC.ret [X.un (UOp.co (Srt.s)) (X.bin (BOp.sapp) (X.var 13) (X.var 12)), X.un (UOp.co (Srt.i)) (X.un (UOp.cast) (X.var 4)), X.un (UOp.co (Srt.l)) (X.var 1), X.un (UOp.co (Srt.l)) (X.var 2), X.un (UOp.co (Srt.p)) (X.var 3), X.un (UOp.co (Srt.n)) (X.var 4), X.un (UOp.co (Srt.n)) (X.var 5), X.un (UOp.co (Srt.p)) (X.var 6), X.un (UOp.co (Srt.n)) (X.var 7), X.un (UOp.co (Srt.n)) (X.var 8), X.un (UOp.co (Srt.i)) (X.var 9), X.un (UOp.co (Srt.i)) (X.var 10), X.un (UOp.co (Srt.b)) (X.var 11)] [FX.pre]))))))), by kernel_rfl⟩
theorem vce_bytes : vcOf Tryz.prog cfg_bytes 22 = vcd_bytes.1 := vcd_bytes.2
theorem bytes_keeps : KeepsR Tryz.prog 22 BytesC [(0, 112)] [(0, 0, 5), (0, 1, 5)] := by
 refine keepsR_v Tryz.func22 cfg_bytes vce_bytes [.p, .l, .l, .p, .n, .n, .p, .n, .n, .i, .i, .b] BytesC [] trivial (by kernel_rfl) (fun _ _ _ h => h) ?_; intro x0 x1 x2 x3 x4 x5 x6 x7 x8 x9 x10 x11 w hp; refine ⟨[], vc_use ?Q ?h ?g⟩
 case h => intro O C s I b; conv => lhs; reduce
 dsimp only [std]
 try simp only [List.lookup, Nat.reduceBEq, Option.getD_some, Int.reduceOfNat, Int.reduceNegSucc]
 obtain ⟨a, ⟨⟩, L, p, q, c, d, he, ⟨hok, hs⟩, hx⟩ := hp; have he := he.symm; simp only [List.reverse_cons, List.reverse_nil, logU, List.cons_append, List.nil_append, List.cons.injEq, U.p.injEq, U.i.injEq, U.l.injEq, U.n.injEq, U.b.injEq, and_true] at he; obtain ⟨rfl, rfl, rfl, rfl, rfl, rfl, rfl, rfl, rfl, rfl, rfl, rfl⟩ := he; unfold LogS.size big at hs; have e1 : bV L.safe = bytesV (bs L.safe) := rfl; have e2 : bV L.loose = bytesV (bs L.loose) := rfl; have hb : (((bs L.safe).size + (bs L.loose).size : Nat) : Int) ≤ 9223372036854775807 := by rw [bs_size, bs_size]; omega
 have hP : BytesC.post (.p a :: [] ++ logU L p q c d) [.s (bs L.safe ++ bs L.loose), .i ((L.safe.length : Nat) : Int), .l (bV L.safe), .l (bV L.loose), .p p, .n L.safe.length, .n c, .p q, .n L.loose.length, .n d, .i L.left, .i L.keep, .b L.down] :=
  LogC.post_of (us := fun _ : Unit => []) (x := ()) u_inj L p q c d [.s (bs L.safe ++ bs L.loose), .i L.safe.length] rfl ⟨rfl, rfl⟩
 repeat' (first | exact ⟨_, e1, _, e2, hb, hP, fun _ _ => trivial⟩ | exact ⟨_, e2, _, e1, hb, hP, fun _ _ => trivial⟩ | apply And.intro)
end Go.Proofs.YtjhaafbbdgjagaaGreat
namespace Go.Proofs.YtjhaafbbdgjagaaGreat
open Go.RowKit Vc
abbrev Got (α : Type) := Except Int (α × ByteArray)
def pTake (n : Int) (s : ByteArray) : Got ByteArray := if (s.size : Int) < n then .error 1 else .ok (s.extract 0 n.toNat, s.extract n.toNat s.size)
def numOf (l : List UInt8) : Nat := l.foldl (fun n c => n * 256 + c.toNat) 0
def byteAt (s : ByteArray) (k : Nat) : Nat := (s.data.toList.getD k 0).toNat
def pUpTo (most : Int) (s : ByteArray) : Got Int :=
 match pTake 1 s with
 | .error e => .error e
 | .ok (k, s1) =>
  if 5 < byteAt k 0 then .error 2 else
  match pTake (byteAt k 0 : Int) s1 with
  | .error e => .error e
  | .ok (b, s2) => if 0 < b.size ∧ byteAt b 0 = 0 then .error 2 else if most < (numOf b.data.toList : Int) then .error 3 else .ok (numOf b.data.toList, s2)
def stopV (e : Int) : Value := .iface 205 (.int .i64 e)
def stopCh (e : Int) : List PanicEntry := [{ v := stopV e, recovered := false }]
def Small (s : ByteArray) : Prop := s.size ≤ 1000000000000
def rdC (pre : List U → Prop) (p : List U → Except Int (List U)) : Ctr where
 pre us _ := pre us
 post us os := p us = .ok os
 fact _ _ _ := True
 pan us ch := ∃ e, p us = .error e ∧ ch = stopCh e
def gI (r : Got Int) : Except Int (List U) := r.map fun r => [.i r.1, .s r.2]
def gB (r : Got Bool) : Except Int (List U) := r.map fun r => [.b r.1, .s r.2]
def gS (r : Got ByteArray) : Except Int (List U) := r.map fun r => [.s r.1, .s r.2]
theorem stepI {A : Prop} {P : Got Int} {R : Except Int (List U)} {K : Int → ByteArray → Prop} (h1 : ∀ e, P = .error e → R = .error e) (h2 : A) (h3 : ∀ x s, P = .ok (x, s) → K x s) :
  (∀ ch, (∃ e, gI P = .error e ∧ ch = stopCh e) → ∃ e, R = .error e ∧ ch = stopCh e) ∧ A ∧ ∀ (x : Int) (s : ByteArray), gI P = .ok [.i x, .s s] → K x s := by
 refine ⟨fun ch ⟨e, h, hc⟩ => ⟨e, h1 e ?_, hc⟩, h2, fun x s h => h3 x s ?_⟩
 ·cases P with
  | error e' => simpa [gI, Except.map] using h
  | ok r => simp [gI, Except.map] at h
 ·cases P with
  | error e' => simp [gI, Except.map] at h
  | ok r => obtain ⟨a, b⟩ := r; simpa [gI, Except.map] using h
theorem stepS {A : Prop} {P : Got ByteArray} {R : Except Int (List U)} {K : ByteArray → ByteArray → Prop} (h1 : ∀ e, P = .error e → R = .error e) (h2 : A) (h3 : ∀ x s, P = .ok (x, s) → K x s) :
  (∀ ch, (∃ e, gS P = .error e ∧ ch = stopCh e) → ∃ e, R = .error e ∧ ch = stopCh e) ∧ A ∧ ∀ (x : ByteArray) (s : ByteArray), gS P = .ok [.s x, .s s] → K x s := by
 refine ⟨fun ch ⟨e, h, hc⟩ => ⟨e, h1 e ?_, hc⟩, h2, fun x s h => h3 x s ?_⟩
 ·cases P with
  | error e' => simpa [gS, Except.map] using h
  | ok r => simp [gS, Except.map] at h
 ·cases P with
  | error e' => simp [gS, Except.map] at h
  | ok r => obtain ⟨a, b⟩ := r; simpa [gS, Except.map] using h
theorem pTake_small {n : Int} {s x r : ByteArray} (h : pTake n s = .ok (x, r)) (hs : Small s) (h0 : 0 ≤ n) : Small x ∧ Small r ∧ (x.size : Int) = n := by
 unfold pTake at h; split at h
 ·cases h
 ·injection h with h; injection h with h1 h2; subst h1; subst h2
  unfold Small at *; simp only [ByteArray.size_extract]; omega
def takeP : List U → Prop
 | [.p _, .i n, .s s] => 0 ≤ n ∧ Small s
 | _ => False
def takeF : List U → Except Int (List U)
 | [.p _, .i n, .s s] => gS (pTake n s)
 | _ => .error 0
def PTakeS : Ctr := rdC takeP takeF
set_option maxRecDepth 100000
def cfg_ptake : Cfg := { mine := [(0, 208)] }
def vcd_ptake : { v : VC // vcOf Tryz.prog cfg_ptake 228 = v } := by refine ⟨?v, ?h⟩; rotate_left; conv => lhs; reduce
theorem vce_ptake : vcOf Tryz.prog cfg_ptake 228 = vcd_ptake.1 := vcd_ptake.2
theorem ptake_ok : KeepsL Tryz.prog 228 PTakeS cfg_ptake.mine := by
 refine keepsL_v Tryz.func228 cfg_ptake vce_ptake [.p, .i, .s] PTakeS [] trivial (by kernel_rfl) (fun _ _ _ h => h) ?_; intro x0 x1 x2 w hp; refine ⟨[], vc_use ?Q ?h ?g⟩
 case h => intro O C s I b; conv => lhs; reduce
 dsimp only [std]; obtain ⟨h0, hs⟩ : 0 ≤ x1 ∧ Small x2 := hp; simp only [PTakeS, rdC, takeF, gS, pTake]; refine ⟨fun h => ?_, fun h => ?_⟩
 ·exact ⟨1, by rw [if_pos h]; rfl, rfl⟩
 ·refine ⟨h0, by omega, by simp, by simp, ?_, fun _ _ => trivial⟩; rw [if_neg h]; rfl
theorem numOf_snoc (l : List UInt8) (c : UInt8) : numOf (l ++ [c]) = numOf l * 256 + c.toNat := by simp [numOf, List.foldl_append]
theorem numOf_take {l : List UInt8} {k : Nat} (h : k < l.length) : numOf (l.take (k + 1)) = numOf (l.take k) * 256 + (l.getD k 0).toNat := by
 rw [List.take_succ_eq_append_getElem h, numOf_snoc]; simp [List.getD_eq_getElem?_getD, h]
theorem numOf_lt : ∀ (k : Nat) (l : List UInt8), l.length = k → numOf l < 256 ^ k := by
 intro k
 induction k with
 | zero => intro l h; have : l = [] := List.eq_nil_of_length_eq_zero h; subst this; simp [numOf]
 | succ k ih =>
  intro l h; have hd : l = l.take k ++ [l.getD k 0] := by
   have := List.take_succ_eq_append_getElem (l := l) (i := k) (by omega); rw [show l.take (k + 1) = l from List.take_of_length_le (by omega)] at this; rw [List.getD_eq_getElem?_getD, List.getElem?_eq_getElem (by omega)]; exact this
  rw [hd, numOf_snoc]; have h1 := ih (l.take k) (by simp; omega); have h2 := (l.getD k 0).toNat_lt; rw [Nat.pow_succ]; omega
theorem or_byte (n c : Nat) (hc : c < 256) : n * 256 ||| c = n * 256 + c := by
 have := Nat.two_pow_add_eq_or_of_lt (i := 8) (b := c) (by omega) n; rw [show (2 : Nat) ^ 8 = 256 from rfl, Nat.mul_comm 256 n] at this; exact this.symm
theorem byte_lt (s : ByteArray) (k : Nat) : byteAt s k < 256 := (s.data.toList.getD k 0).toNat_lt
theorem or_i64 (n c : Nat) (hn : n < 1099511627776) (hc : c < 256) : bitsI .or .i64 (shlI .i64 (n : Int) 8) (IntKind.wrap .i64 (c : Int)) = ((n * 256 + c : Nat) : Int) := by
 have e1 : shlI .i64 (n : Int) 8 = ((n * 256 : Nat) : Int) := by
  unfold shlI; rw [show min (8 : Int).toNat IntKind.i64.bits = 8 from rfl, show ((2 : Int) ^ 8) = 256 from rfl, IntWalk.i64_in _ (by omega)]; omega
 have e2 : IntKind.wrap .i64 (c : Int) = (c : Int) := IntWalk.i64_in _ (by omega); rw [e1, e2]; show IntKind.wrap .i64 (((BitVec.ofInt 64 ((n * 256 : Nat) : Int) ||| BitVec.ofInt 64 (c : Int)).toNat : Nat) : Int) = _; have e3 : (BitVec.ofInt 64 ((n * 256 : Nat) : Int) ||| BitVec.ofInt 64 (c : Int)).toNat = n * 256 + c := by
  rw [BitVec.toNat_or, BitVec.ofInt_natCast, BitVec.ofInt_natCast, BitVec.toNat_ofNat, BitVec.toNat_ofNat, Nat.mod_eq_of_lt (by omega), Nat.mod_eq_of_lt (by omega), or_byte n c hc]
 rw [e3]; exact IntWalk.i64_in _ (by omega)
theorem or_u64 (n c : Nat) (hn : n * 256 < 18446744073709551616) (hc : c < 256) : bitsI .or .u64 (shlI .u64 (n : Int) 8) (IntKind.wrap .u64 (c : Int)) = ((n * 256 + c : Nat) : Int) := by
 have e1 : shlI .u64 (n : Int) 8 = ((n * 256 : Nat) : Int) := by
  unfold shlI; rw [show min (8 : Int).toNat IntKind.u64.bits = 8 from rfl, show ((2 : Int) ^ 8) = 256 from rfl, IntWalk.u64_in _ (by omega)]; omega
 have e2 : IntKind.wrap .u64 (c : Int) = (c : Int) := IntWalk.u64_in _ (by omega); rw [e1, e2]; show IntKind.wrap .u64 (((BitVec.ofInt 64 ((n * 256 : Nat) : Int) ||| BitVec.ofInt 64 (c : Int)).toNat : Nat) : Int) = _; have e3 : (BitVec.ofInt 64 ((n * 256 : Nat) : Int) ||| BitVec.ofInt 64 (c : Int)).toNat = n * 256 + c := by
  rw [BitVec.toNat_or, BitVec.ofInt_natCast, BitVec.ofInt_natCast, BitVec.toNat_ofNat, BitVec.toNat_ofNat, Nat.mod_eq_of_lt (by omega), Nat.mod_eq_of_lt (by omega), or_byte n c hc]
 rw [e3]; exact IntWalk.u64_in _ (by omega)
theorem size_list (s : ByteArray) : s.data.toList.length = s.size := Array.length_toList
def upInv : Inv where
 inv us := match us with
  | [.i n, .i k, .s b] => b.size ≤ 5 ∧ 0 ≤ k ∧ k ≤ b.size ∧ n = numOf (b.data.toList.take k.toNat) ∧ (0 < k → ¬ byteAt b 0 = 0)
  | _ => False
 mea us := match us with
  | [.i _, .i k, .s b] => ((b.size : Int) - k).toNat
  | _ => 0
def upToP : List U → Prop
 | [.p _, .i _, .s s] => Small s
 | _ => False
def upToF : List U → Except Int (List U)
 | [.p _, .i n, .s s] => gI (pUpTo n s)
 | _ => .error 0
def PUpToS : Ctr := rdC upToP upToF
def cfg_pupto : Cfg := { con := [(228, 0)], loops := [(6, { slots := [6, 21], extra := [.var 7] })], lents := [(228, [(0, 208)])], mine := [(0, 208)], pans := [228] }
def vcd_pupto : { v : VC // vcOf Tryz.prog cfg_pupto 138 = v } := by refine ⟨?v, ?h⟩; rotate_left; conv => lhs; reduce
theorem vce_pupto : vcOf Tryz.prog cfg_pupto 138 = vcd_pupto.1 := vcd_pupto.2
theorem pupto_ok : KeepsL Tryz.prog 138 PUpToS cfg_pupto.mine := by
 refine keepsL_v Tryz.func138 cfg_pupto vce_pupto [.p, .i, .s] PUpToS [(228, PTakeS)] ⟨ptake_ok, trivial⟩ (by kernel_rfl) (fun _ _ _ h => h) ?_; intro x0 x1 x2 w hp; refine ⟨[(6, upInv)], vc_use ?Q ?h ?g⟩
 case h => intro O C s I b; conv => lhs; reduce
 dsimp only [std]; simp only [ctrOf, invOf, List.lookup, Nat.reduceBEq, Option.getD_some, Int.reduceOfNat, Int.reduceNegSucc]; have hs : Small x2 := hp; simp only [PTakeS, PUpToS, rdC, takeF, upToF, upInv]; intro x3; refine stepS (fun e h => by simp only [gI, pUpTo, h]; rfl) (fun w hw => ⟨by decide, hs⟩) fun x4 x5 h1 => ?_
 obtain ⟨s1, s2, z1⟩ := pTake_small h1 hs (by decide); have hb := byte_lt x4 0; have hw : IntKind.wrap .i64 ((x4.data.toList.getD 0 0).toNat : Int) = (byteAt x4 0 : Int) := IntWalk.i64_in _ (by unfold byteAt at hb; omega); have hR : pUpTo x1 x2 = (if 5 < byteAt x4 0 then .error 2 else
  match pTake (byteAt x4 0 : Int) x5 with
  | .error e => .error e
  | .ok (b, s2) => if 0 < b.size ∧ byteAt b 0 = 0 then .error 2 else if x1 < (numOf b.data.toList : Int) then .error 3 else .ok (numOf b.data.toList, s2)) := by simp only [pUpTo, h1]
 rw [hR]; refine ⟨by omega, fun h5 => ?_, fun h5 => ?_⟩
 ·rw [hw] at h5; rw [if_pos (by omega)]; exact ⟨2, rfl, rfl⟩
 rw [hw] at h5 ⊢
 have h5' : ¬ 5 < byteAt x4 0 := by omega
 rw [if_neg h5']; intro x6; refine stepS (fun e h => by rw [h]; rfl) (fun w hw => ⟨by omega, s2⟩) fun x7 x8 h2 => ?_
 obtain ⟨s3, s4, z2⟩ := pTake_small h2 s2 (by omega); rw [h2]; dsimp only; intro x9 x10; refine ⟨⟨by omega, by decide, by omega, rfl, fun h => absurd h (by decide)⟩, fun _ _ => trivial, ?_⟩; rintro x11 x12 ⟨v1, v2, v3, v4, v5⟩; have hl := size_list x7; refine ⟨fun hlt => ⟨v2, by omega, ?_⟩, fun hge => ?_⟩
 ·have hbk : (x7.data.toList.getD x12.toNat 0).toNat < 256 := byte_lt x7 x12.toNat; have hnum : x11 = ((numOf (x7.data.toList.take x12.toNat) : Nat) : Int) := v4; have hnl := numOf_lt _ (x7.data.toList.take x12.toNat) rfl; have hk : (x7.data.toList.take x12.toNat).length ≤ 4 := by rw [List.length_take]; omega
  have hnl2 : numOf (x7.data.toList.take x12.toNat) < 1099511627776 := Nat.lt_of_lt_of_le hnl (Nat.le_trans (Nat.pow_le_pow_right (by decide) hk) (by decide)); have hor : bitsI .or .i64 (shlI .i64 x11 8) (IntKind.wrap .i64 ((x7.data.toList.getD x12.toNat 0).toNat : Int)) = (numOf (x7.data.toList.take (x12 + 1).toNat) : Int) := by
   rw [hnum, or_i64 _ _ hnl2 hbk, show (x12 + 1).toNat = x12.toNat + 1 by omega, numOf_take (by omega)]
  rw [hor]; have next : ¬ byteAt x7 0 = 0 → (-9223372036854775808 ≤ x12 + 1 ∧ x12 + 1 ≤ 9223372036854775807) ∧ (x7.size ≤ 5 ∧ 0 ≤ x12 + 1 ∧ x12 + 1 ≤ x7.size ∧ (numOf (x7.data.toList.take (x12 + 1).toNat) : Int) = numOf (x7.data.toList.take (x12 + 1).toNat) ∧ (0 < x12 + 1 → ¬ byteAt x7 0 = 0)) := fun hb => ⟨⟨by omega, by omega⟩, v1, by omega, by omega, rfl, fun _ => hb⟩
  refine ⟨fun h0 => ⟨fun hz => ?_, fun hz => ?_⟩, fun h0 => ?_⟩
  ·have hz' : byteAt x7 0 = 0 := by subst h0; exact_mod_cast hz
   rw [if_pos ⟨by omega, hz'⟩]; exact ⟨2, rfl, rfl⟩
  ·have hz' : ¬ byteAt x7 0 = 0 := by subst h0; exact fun h => hz (by exact_mod_cast h)
   obtain ⟨n1, n2⟩ := next hz'; exact ⟨n1, n2, fun _ _ => trivial, by omega, trivial⟩
  ·obtain ⟨n1, n2⟩ := next (v5 (by omega)); exact ⟨n1, n2, fun _ _ => trivial, by omega, trivial⟩
 ·have hall : x7.data.toList.take x12.toNat = x7.data.toList := List.take_of_length_le (by omega); rw [hall] at v4; have hnz : ¬ (0 < x7.size ∧ byteAt x7 0 = 0) := fun ⟨a, b⟩ => v5 (by omega) b
  rw [if_neg hnz]; refine ⟨fun hm => ?_, fun hm => ?_⟩
  ·rw [if_pos (by omega)]; exact ⟨3, rfl, rfl⟩
  ·rw [if_neg (by omega)]; refine ⟨?_, fun _ _ => trivial⟩; rw [v4]; rfl
def pNum (s : ByteArray) : Got Int := pUpTo 1099511627775 s
def smP : List U → Prop
 | [.p _, .s s] => Small s
 | _ => False
def numF : List U → Except Int (List U)
 | [.p _, .s s] => gI (pNum s)
 | _ => .error 0
def PNumS : Ctr := rdC smP numF
def cfg_pnum : Cfg := { con := [(138, 0)], lents := [(138, [(0, 208)])], mine := [(0, 208)], pans := [138] }
def vcd_pnum : { v : VC // vcOf Tryz.prog cfg_pnum 58 = v } := by refine ⟨?v, ?h⟩; rotate_left; conv => lhs; reduce
theorem vce_pnum : vcOf Tryz.prog cfg_pnum 58 = vcd_pnum.1 := vcd_pnum.2
theorem pnum_ok : KeepsL Tryz.prog 58 PNumS cfg_pnum.mine := by
 refine keepsL_v Tryz.func58 cfg_pnum vce_pnum [.p, .s] PNumS [(138, PUpToS)] ⟨pupto_ok, trivial⟩ (by kernel_rfl) (fun _ _ _ h => h) ?_; intro x0 x1 w hp; refine ⟨[], vc_use ?Q ?h ?g⟩
 case h => intro O C s I b; conv => lhs; reduce
 dsimp only [std]; simp only [ctrOf, invOf, List.lookup, Nat.reduceBEq, Option.getD_some, Int.reduceOfNat, Int.reduceNegSucc]; have hs : Small x1 := hp; simp only [PNumS, PUpToS, rdC, upToF, numF, pNum]; intro x3; refine stepI (fun e h => by rw [h]; rfl) (fun w hw => hs) fun x4 x5 h1 => ?_
 rw [h1]; exact ⟨rfl, fun _ _ => trivial⟩
def pDig (s : ByteArray) : Got Int := (pTake 8 s).map fun r => ((numOf r.1.data.toList : Int), r.2)
def digF : List U → Except Int (List U)
 | [.p _, .s s] => gI (pDig s)
 | _ => .error 0
def PDigS : Ctr := rdC smP digF
def digInv : Inv where
 inv us := match us with
  | [.i n, .i k, .s b] => b.size = 8 ∧ 0 ≤ k ∧ k ≤ b.size ∧ n = numOf (b.data.toList.take k.toNat)
  | _ => False
 mea us := match us with
  | [.i _, .i k, .s b] => ((b.size : Int) - k).toNat
  | _ => 0
def cfg_pdig : Cfg := { con := [(228, 0)], loops := [(3, { slots := [3, 10], extra := [.var 3] })], lents := [(228, [(0, 208)])], mine := [(0, 208)], pans := [228] }
def vcd_pdig : { v : VC // vcOf Tryz.prog cfg_pdig 150 = v } := by refine ⟨?v, ?h⟩; rotate_left; conv => lhs; reduce
theorem vce_pdig : vcOf Tryz.prog cfg_pdig 150 = vcd_pdig.1 := vcd_pdig.2
theorem pdig_ok : KeepsL Tryz.prog 150 PDigS cfg_pdig.mine := by
 refine keepsL_v Tryz.func150 cfg_pdig vce_pdig [.p, .s] PDigS [(228, PTakeS)] ⟨ptake_ok, trivial⟩ (by kernel_rfl) (fun _ _ _ h => h) ?_; intro x0 x1 w hp; refine ⟨[(3, digInv)], vc_use ?Q ?h ?g⟩
 case h => intro O C s I b; conv => lhs; reduce
 dsimp only [std]; simp only [ctrOf, invOf, List.lookup, Nat.reduceBEq, Option.getD_some, Int.reduceOfNat, Int.reduceNegSucc]; have hs : Small x1 := hp; simp only [PDigS, PTakeS, rdC, takeF, digF, digInv]; intro x2; refine stepS (fun e h => by unfold pDig; rw [h]; rfl) (fun w hw => ⟨by decide, hs⟩) fun x3 x4 h1 => ?_
 obtain ⟨s1, s2, z1⟩ := pTake_small h1 hs (by decide); unfold pDig; rw [h1]; intro x5 x6; refine ⟨⟨by omega, by decide, by omega, rfl⟩, fun _ _ => trivial, ?_⟩; rintro x7 x8 ⟨v1, v2, v3, v4⟩; have hl := size_list x3; refine ⟨fun hlt => ⟨v2, by omega, ?_⟩, fun hge => ?_⟩
 ·have hbk : (x3.data.toList.getD x8.toNat 0).toNat < 256 := byte_lt x3 x8.toNat; have hnl := numOf_lt _ (x3.data.toList.take x8.toNat) rfl; have hk : (x3.data.toList.take x8.toNat).length ≤ 7 := by rw [List.length_take]; omega
  have hnl2 : numOf (x3.data.toList.take x8.toNat) < 72057594037927936 := Nat.lt_of_lt_of_le hnl (Nat.le_trans (Nat.pow_le_pow_right (by decide) hk) (by decide)); have hor : bitsI .or .u64 (shlI .u64 x7 8) (IntKind.wrap .u64 ((x3.data.toList.getD x8.toNat 0).toNat : Int)) = (numOf (x3.data.toList.take (x8 + 1).toNat) : Int) := by
   rw [v4, or_u64 _ _ (by omega) hbk, show (x8 + 1).toNat = x8.toNat + 1 by omega, numOf_take (by omega)]
  rw [hor]; exact ⟨⟨by omega, by omega⟩, ⟨v1, by omega, by omega, rfl⟩, fun _ _ => trivial, by omega, trivial⟩
 ·have hall : x3.data.toList.take x8.toNat = x3.data.toList := List.take_of_length_le (by omega); rw [hall] at v4; refine ⟨?_, fun _ _ => trivial⟩; rw [v4]; rfl
def pFlag (s : ByteArray) : Got Bool :=
 match pTake 1 s with
 | .error e => .error e
 | .ok (b, s1) => if byteAt b 0 = 0 then .ok (false, s1) else if byteAt b 0 = 1 then .ok (true, s1) else .error 2
def flagF : List U → Except Int (List U)
 | [.p _, .s s] => gB (pFlag s)
 | _ => .error 0
def PFlagS : Ctr := rdC smP flagF
def cfg_pflag : Cfg := { con := [(228, 0)], lents := [(228, [(0, 208)])], mine := [(0, 208)], pans := [228] }
def vcd_pflag : { v : VC // vcOf Tryz.prog cfg_pflag 149 = v } := by refine ⟨?v, ?h⟩; rotate_left; conv => lhs; reduce
theorem vce_pflag : vcOf Tryz.prog cfg_pflag 149 = vcd_pflag.1 := vcd_pflag.2
theorem pflag_ok : KeepsL Tryz.prog 149 PFlagS cfg_pflag.mine := by
 refine keepsL_v Tryz.func149 cfg_pflag vce_pflag [.p, .s] PFlagS [(228, PTakeS)] ⟨ptake_ok, trivial⟩ (by kernel_rfl) (fun _ _ _ h => h) ?_; intro x0 x1 w hp; refine ⟨[], vc_use ?Q ?h ?g⟩
 case h => intro O C s I b; conv => lhs; reduce
 dsimp only [std]; simp only [ctrOf, invOf, List.lookup, Nat.reduceBEq, Option.getD_some, Int.reduceOfNat, Int.reduceNegSucc]; have hs : Small x1 := hp; simp only [PFlagS, PTakeS, rdC, takeF, flagF]; intro x2; refine stepS (fun e h => by unfold pFlag; rw [h]; rfl) (fun w hw => ⟨by decide, hs⟩) fun x3 x4 h1 => ?_
 obtain ⟨s1, s2, z1⟩ := pTake_small h1 hs (by decide); unfold pFlag; rw [h1]; dsimp only; refine ⟨by omega, fun h => ?_, fun h => ⟨fun h' => ?_, fun h' => ?_⟩⟩
 ·rw [if_pos (show byteAt x3 0 = 0 by exact_mod_cast h)]; exact ⟨rfl, fun _ _ => trivial⟩
 ·rw [if_neg (show ¬ byteAt x3 0 = 0 from fun e => h (by exact_mod_cast e)), if_pos (show byteAt x3 0 = 1 by exact_mod_cast h')]; exact ⟨rfl, fun _ _ => trivial⟩
 ·rw [if_neg (show ¬ byteAt x3 0 = 0 from fun e => h (by exact_mod_cast e)), if_neg (show ¬ byteAt x3 0 = 1 from fun e => h' (by exact_mod_cast e))]; exact ⟨2, rfl, rfl⟩
end Go.Proofs.YtjhaafbbdgjagaaGreat
