/- Of the texts VcO, VcP. -/
import Derived.Test.YtlfonmpgenoooaaG14
set_option linter.unusedSimpArgs false
set_option linter.unusedVariables false
namespace Go.Proofs.Ytlfonmpgenoooaa.Vc
open Go Go.RowKit
structure Alg where
 T : Type
 tt : T
 ff : T
 allI : (Int → T) → T
 allN : (Nat → T) → T
 allB : (Bool → T) → T
 allS : (ByteArray → T) → T
 allP : (Option Addr → T) → T
 allL : (List Value → T) → T
 allV : (Value → T) → T
 exI : (Int → T) → T
 exN : (Nat → T) → T
 exB : (Bool → T) → T
 exS : (ByteArray → T) → T
 exP : (Option Addr → T) → T
 exL : (List Value → T) → T
 exV : (Value → T) → T
 exG : (U → T) → T
 imp : T → T → T
 and : T → T → T
 or : T → T → T
 not : T → T
 isT : Bool → T
 eqI : Int → Int → T
 ltI : Int → Int → T
 leI : Int → Int → T
 allW : (World → T) → T
 pre : Ctr → List U → World → T
 post : Ctr → List U → List U → T
 fact : Ctr → List U → List U → World → T
 inv : Inv → List U → T
 invF : Inv → List U → World → T
 less : Inv → List U → List U → T
 row : World → Nat → Nat → Nat → Value → Nat → List Value → T
 blk : World → Nat → List Value → Nat → T
 loads : World → Option Addr → List Value → T
 cells : List Value → Nat → List Value → T
 ones : List Value → T
 leq : List Value → List Value → T
 reads : World → Nat → Option Addr → Nat → List Value → T
 bytes : World → Option Addr → ByteArray → T
 isfn : Value → Nat → T
 pan : Ctr → List U → Ctr → List U → T
 panv : Ctr → List U → Value → T
 fn : Nat → Value
 int : Int → Int
 nat : Nat → Nat
 str : List UInt8 → ByteArray
 tru : Bool → Bool
 wrap : IntKind → Int → Int
 bnot : Bool → Bool
 cast : Nat → Int
 toNat : Int → Nat
 size : ByteArray → Nat
 isnil : Option Addr → Bool
 len : List Value → Nat
 sl : ByteArray → List Value
 add : Int → Int → Int
 sub : Int → Int → Int
 mul : Int → Int → Int
 quo : Int → Int → Int
 rem : Int → Int → Int
 bits : BinOp → IntKind → Int → Int → Int
 shl : IntKind → Int → Int → Int
 shr : IntKind → Int → Int → Int
 eqB : Int → Int → Bool
 ltB : Int → Int → Bool
 leB : Int → Int → Bool
 beq : Bool → Bool → Bool
 band : Bool → Bool → Bool
 bor : Bool → Bool → Bool
 seq : ByteArray → ByteArray → Bool
 slt : ByteArray → ByteArray → Bool
 sapp : ByteArray → ByteArray → ByteArray
 byte : ByteArray → Nat → Int
 nadd : Nat → Nat → Nat
 nsub : Nat → Nat → Nat
 nmul : Nat → Nat → Nat
 app : List Value → List Value → List Value
 padd : Option Addr → Nat → Option Addr
 take : List Value → Nat → List Value
 iteI : Bool → Int → Int → Int
 iteN : Bool → Nat → Nat → Nat
 iteB : Bool → Bool → Bool → Bool
 iteS : Bool → ByteArray → ByteArray → ByteArray
 iteP : Bool → Option Addr → Option Addr → Option Addr
 ext : ByteArray → Nat → Nat → ByteArray
 set : List Value → Nat → Value → List Value
 nilv : Nat → Value
@[reducible] def std : Alg where
 T := Prop
 tt := True
 ff := False
 allI f := ∀ x, f x
 allN f := ∀ x, f x
 allB f := ∀ x, f x
 allS f := ∀ x, f x
 allP f := ∀ x, f x
 allL f := ∀ x, f x
 allV f := ∀ x, f x
 exI f := ∃ x, f x
 exN f := ∃ x, f x
 exB f := ∃ x, f x
 exS f := ∃ x, f x
 exP f := ∃ x, f x
 exL f := ∃ x, f x
 exV f := ∃ x, f x
 exG f := ∃ (α : Type) (x : α), f (.g x)
 imp a b := a → b
 and a b := a ∧ b
 or a b := a ∨ b
 not a := ¬ a
 isT b := b = true
 eqI x y := x = y
 ltI x y := x < y
 leI x y := x ≤ y
 allW f := ∀ w, f w
 pre c us w := c.pre us w
 post c us os := c.post us os
 fact c us os w := c.fact us os w
 inv c us := c.inv us
 invF c us w := c.fact us w
 less c us vs := c.mea vs < c.mea us
 row w _ e size v n xs := w.ownsRow 0 e size v n xs
 blk w b xs t := w.heap[b]? = some (.cells xs.toArray t (0, 0))
 loads w a cs := LoadsAt w a cs
 cells xs off cs := ∀ j v, cs[j]? = some v → xs[off + j]? = some v
 ones xs := ∀ v ∈ xs, v.oneCell' = true
 leq xs ys := xs = ys
 reads w size a n xs := ∃ B, Rd w B size a n xs
 bytes w a s := ∃ g, a = some ⟨g, 0, none⟩ ∧ ∀ j, j < s.size → w.cell? ⟨g, j, none⟩ = some (.int .u8 (s.data.toList.getD j 0).toNat)
 isfn v f := v = .func (.func f) #[] #[]
 pan c us c0 us0 := ∀ ch, c.pan us ch → c0.pan us0 ch
 panv c us v := c.pan us [{ v := v, recovered := false }]
 fn f := .func (.func f) #[] #[]
 int n := n
 nat n := n
 str l := ⟨l.toArray⟩
 tru t := t
 wrap k x := k.wrap x
 bnot b := !b
 cast n := n
 toNat x := x.toNat
 size s := s.size
 isnil a := a.isNone
 len l := l.length
 sl s := bytesV s
 add x y := x + y
 sub x y := x - y
 mul x y := x * y
 quo x y := x.tdiv y
 rem x y := x.tmod y
 bits o k x y := bitsI o k x y
 shl k x y := shlI k x y
 shr k x y := shrI k x y
 eqB x y := x == y
 ltB x y := decide (x < y)
 leB x y := decide (x ≤ y)
 beq x y := x == y
 band x y := x && y
 bor x y := x || y
 seq x y := x.toList == y.toList
 slt x y := Op.bytesLess x.toList y.toList
 sapp x y := x ++ y
 byte s k := (s.data.toList.getD k 0).toNat
 nadd x y := x + y
 nsub x y := x - y
 nmul x y := x * y
 app x y := x ++ y
 padd a k := a.map (·.add k)
 take l k := l.take k
 iteI b x y := bif b then x else y
 iteN b x y := bif b then x else y
 iteB b x y := bif b then x else y
 iteS b x y := bif b then x else y
 iteP b x y := bif b then x else y
 ext s a b := s.extract a b
 set l k v := l.set k v
 nilv k := nilV k
def UOp.denO (O : Alg) : UOp → U → U
 | .wrap k, x => .i (O.wrap k x.I)
 | .not, x => .b (O.bnot x.B)
 | .cast, x => .i (O.cast x.N)
 | .nat, x => .n (O.toNat x.I)
 | .size, x => .n (O.size x.S)
 | .isnil, x => .b (O.isnil x.P)
 | .one, x => .l [x.V]
 | .viface t, x => .v (.iface t x.V)
 | .vint k, x => .v (.int k x.I)
 | .vbool, x => .v (.bool x.B)
 | .vstr, x => .v (.string x.S)
 | .vptr, x => .v (.pointer x.P)
 | .len, x => .n (O.len x.L)
 | .sl, x => .l (O.sl x.S)
 | .co .i, x => .i x.I | .co .n, x => .n x.N | .co .b, x => .b x.B | .co .s, x => .s x.S | .co .p, x => .p x.P | .co .l, x => .l x.L | .co .v, x => .v x.V | .co .g, x => x
def BOp.denO (O : Alg) : BOp → U → U → U
 | .add, x, y => .i (O.add x.I y.I)
 | .sub, x, y => .i (O.sub x.I y.I)
 | .mul, x, y => .i (O.mul x.I y.I)
 | .quo, x, y => .i (O.quo x.I y.I)
 | .rem, x, y => .i (O.rem x.I y.I)
 | .bits o k, x, y => .i (O.bits o k x.I y.I)
 | .shl k, x, y => .i (O.shl k x.I y.I)
 | .shr k, x, y => .i (O.shr k x.I y.I)
 | .eq, x, y => .b (O.eqB x.I y.I)
 | .lt, x, y => .b (O.ltB x.I y.I)
 | .le, x, y => .b (O.leB x.I y.I)
 | .beq, x, y => .b (O.beq x.B y.B)
 | .and, x, y => .b (O.band x.B y.B)
 | .or, x, y => .b (O.bor x.B y.B)
 | .seq, x, y => .b (O.seq x.S y.S)
 | .slt, x, y => .b (O.slt x.S y.S)
 | .sapp, x, y => .s (O.sapp x.S y.S)
 | .byte, x, y => .i (O.byte x.S y.N)
 | .nadd, x, y => .n (O.nadd x.N y.N)
 | .nsub, x, y => .n (O.nsub x.N y.N)
 | .nmul, x, y => .n (O.nmul x.N y.N)
 | .app, x, y => .l (O.app x.L y.L)
 | .padd, x, y => .p (O.padd x.P y.N)
 | .take, x, y => .l (O.take x.L y.N)
def iteO (O : Alg) (b : Bool) : U → U → U
 | .i x, .i y => .i (O.iteI b x y)
 | .n x, .n y => .n (O.iteN b x y)
 | .b x, .b y => .b (O.iteB b x y)
 | .s x, .s y => .s (O.iteS b x y)
 | .p x, .p y => .p (O.iteP b x y)
 | x, y => bif b then x else y
def TOp.denO (O : Alg) : TOp → U → U → U → U
 | .ite, x, y, z => iteO O x.B y z
 | .vslc, x, y, z => .v (.slice x.P y.N z.N)
 | .ext, x, y, z => .s (O.ext x.S y.N z.N)
 | .set, x, y, z => .l (O.set x.L y.N z.V)
def X.denO (O : Alg) (ρ : Nat → U) : X → U
 | .var k => ρ k
 | .int n => .i (O.int n)
 | .nat n => .n (O.nat n)
 | .bool t => .b (O.tru t)
 | .str l => .s (O.str l)
 | .pnil => .p none
 | .lnil => .l []
 | .vnil k => .v (O.nilv k)
 | .fn f => .v (O.fn f)
 | .un o x => o.denO O (x.denO O ρ)
 | .bin o x y => o.denO O (x.denO O ρ) (y.denO O ρ)
 | .tri o x y z => o.denO O (x.denO O ρ) (y.denO O ρ) (z.denO O ρ)
def X.holdsO (O : Alg) (ρ : Nat → U) : X → O.T
 | .bin .eq x y => O.eqI (x.denO O ρ).I (y.denO O ρ).I
 | .bin .lt x y => O.ltI (x.denO O ρ).I (y.denO O ρ).I
 | .bin .le x y => O.leI (x.denO O ρ).I (y.denO O ρ).I
 | .bin .and x y => O.and (x.holdsO O ρ) (y.holdsO O ρ)
 | .bin .or x y => O.or (x.holdsO O ρ) (y.holdsO O ρ)
 | .un .not x => O.not (x.holdsO O ρ)
 | .bool t => O.isT (O.tru t)
 | x => O.isT (x.denO O ρ).B
theorem iteO_std (b : Bool) (x y : U) : iteO std b x y = bif b then x else y := by cases x <;> cases y <;> first | rfl | (cases b <;> rfl)
theorem X.denO_std (ρ : Nat → U) : ∀ x : X, x.denO std ρ = x.den ρ := by
 intro x
 induction x with
 | un o x ih => simp only [X.denO, X.den, ih]; cases o <;> first | rfl | (rename_i s; cases s <;> rfl)
 | bin o x y ih1 ih2 => simp only [X.denO, X.den, ih1, ih2]; cases o <;> rfl
 | tri o x y z ih1 ih2 ih3 => simp only [X.denO, X.den, ih1, ih2, ih3]; cases o <;> first | rfl | exact iteO_std _ _ _
 | _ => rfl
theorem X.holdsO_std (ρ : Nat → U) : ∀ x : X, x.holdsO std ρ = x.holds ρ := by
 intro x
 induction x with
 | un o x ih => cases o <;> simp only [X.holdsO, X.holds, ih, X.denO_std]
 | bin o x y ih1 ih2 => cases o <;> simp only [X.holdsO, X.holds, ih1, ih2, X.denO_std]
 | bool t => rfl
 | _ => simp only [X.holdsO, X.holds, X.denO_std]
def densO (O : Alg) (ρ : Nat → U) : List X → List U
 | [] => []
 | x :: l => x.denO O ρ :: densO O ρ l
theorem densO_std (ρ : Nat → U) : ∀ l : List X, densO std ρ l = dens ρ l
 | [] => rfl
 | x :: l => by simp only [densO, dens, List.map_cons, X.denO_std, densO_std ρ l]
def valsO (O : Alg) (ρ : Nat → U) : List X → List Value
 | [] => []
 | x :: l => (x.denO O ρ).V :: valsO O ρ l
theorem valsO_std (ρ : Nat → U) : ∀ l : List X, valsO std ρ l = l.map fun x => (x.den ρ).V
 | [] => rfl
 | x :: l => by simp only [valsO, List.map_cons, X.denO_std, valsO_std ρ l]
structure Env where
 C : Nat → Ctr
 s : Ctr
 I : Nat → Inv
 us : List U
 base : Nat
def Env.sm (E : Env) (ln : List (Nat × Nat)) (df : List Deferred := []) : Sm :=
 { base := E.base, lnames := ln, df := df, pre0 := E.s.pre E.us, post0 := E.s.post E.us, fact0 := E.s.fact E.us, pre := fun f => (E.C f).pre, post := fun f => (E.C f).post, fact := fun f => (E.C f).fact, inv := fun j => (E.I j).inv, invF := fun j => (E.I j).fact, mea := fun j => (E.I j).mea, pan0 := E.s.pan E.us, pan := fun f => (E.C f).pan }
def FX.denO (O : Alg) (E : Env) (ρ : Nat → U) (w : World) : FX → O.T
 | .pre => O.pre E.s E.us w
 | .fact f us os => O.fact (E.C f) (densO O ρ us) (densO O ρ os) w
 | .inv j us => O.invF (E.I j) (densO O ρ us) w
 | .row e size a n c xs => O.row w E.base e size (.slice (a.denO O ρ).P (n.denO O ρ).N (c.denO O ρ).N) (n.denO O ρ).N (xs.denO O ρ).L
 | .blk b t xs => O.blk w (b.denO O ρ).N (valsO O ρ xs) t
 | .bytes a s => O.bytes w (a.denO O ρ).P (s.denO O ρ).S
theorem FX.denO_std (E : Env) (ln : List (Nat × Nat)) (df : List Deferred) (ρ : Nat → U) (w : World) (F : FX) : F.denO std E ρ w = F.den (E.sm ln df) ρ w := by
 cases F <;> simp only [FX.denO, FX.den, densO_std, X.denO_std, valsO_std] <;> rfl
def andO (O : Alg) (E : Env) (ρ : Nat → U) (w : World) : List FX → O.T → O.T
 | [], t => t
 | G :: l, t => andO O E ρ w l (O.and t (G.denO O E ρ w))
def givenO (O : Alg) (E : Env) (ρ : Nat → U) (fs : List FX) (c : World → O.T) : O.T :=
 match fs with
 | [] => O.allW fun w => c w
 | F :: l => O.allW fun w => O.imp (andO O E ρ w l (F.denO O E ρ w)) (c w)
theorem andO_std (E : Env) (ln : List (Nat × Nat)) (df : List Deferred) (ρ : Nat → U) (w : World) : ∀ (l : List FX) (t : Prop), andO std E ρ w l t = l.foldl (fun a G => a ∧ G.den (E.sm ln df) ρ w) t
 | [], _ => rfl
 | G :: l, t => by rw [andO, List.foldl_cons, andO_std E ln df ρ w l, FX.denO_std E ln df]
theorem givenO_std (E : Env) (ln : List (Nat × Nat)) (df : List Deferred) (ρ : Nat → U) (fs : List FX) (c : World → Prop) : givenO std E ρ fs c = ∀ w : World, given (E.sm ln df) ρ w fs (c w) := by
 cases fs with
 | nil => rfl
 | cons F l =>
  show (∀ w : World, andO std E ρ w l (F.denO std E ρ w) → c w) = _; simp only [andO_std E ln df, FX.denO_std E ln df]; rfl
def VC.denO (O : Alg) (E : Env) (ρ : Nat → U) : VC → O.T
 | .top => O.tt
 | .no _ => O.ff
 | .all n .i k => O.allI fun x => k.denO O E (upd ρ n (.i x))
 | .all n .n k => O.allN fun x => k.denO O E (upd ρ n (.n x))
 | .all n .b k => O.allB fun x => k.denO O E (upd ρ n (.b x))
 | .all n .s k => O.allS fun x => k.denO O E (upd ρ n (.s x))
 | .all n .p k => O.allP fun x => k.denO O E (upd ρ n (.p x))
 | .all n .l k => O.allL fun x => k.denO O E (upd ρ n (.l x))
 | .all n .v k => O.allV fun x => k.denO O E (upd ρ n (.v x))
 | .all _ .g _ => O.ff
 | .ex n .i k => O.exI fun x => k.denO O E (upd ρ n (.i x))
 | .ex n .n k => O.exN fun x => k.denO O E (upd ρ n (.n x))
 | .ex n .b k => O.exB fun x => k.denO O E (upd ρ n (.b x))
 | .ex n .s k => O.exS fun x => k.denO O E (upd ρ n (.s x))
 | .ex n .p k => O.exP fun x => k.denO O E (upd ρ n (.p x))
 | .ex n .l k => O.exL fun x => k.denO O E (upd ρ n (.l x))
 | .ex n .v k => O.exV fun x => k.denO O E (upd ρ n (.v x))
 | .ex n .g k => O.exG fun x => k.denO O E (upd ρ n x)
 | .imp c k => O.imp (c.holdsO O ρ) (k.denO O E ρ)
 | .need c k => O.and (c.holdsO O ρ) (k.denO O E ρ)
 | .needw c fs k => O.and (givenO O E ρ fs fun _ => c.holdsO O ρ) (k.denO O E ρ)
 | .and a b => O.and (a.denO O E ρ) (b.denO O E ρ)
 | .pre f us fs k => O.and (givenO O E ρ fs fun w => O.pre (E.C f) (densO O ρ us) w) (k.denO O E ρ)
 | .post f us os k => O.imp (O.post (E.C f) (densO O ρ us) (densO O ρ os)) (k.denO O E ρ)
 | .inv j us fs k => O.and (O.inv (E.I j) (densO O ρ us)) (O.and (givenO O E ρ fs fun w => O.invF (E.I j) (densO O ρ us) w) (k.denO O E ρ))
 | .hyp j us k => O.imp (O.inv (E.I j) (densO O ρ us)) (k.denO O E ρ)
 | .less j us vs k => O.and (O.less (E.I j) (densO O ρ us) (densO O ρ vs)) (k.denO O E ρ)
 | .loads fs a cs k => O.and (givenO O E ρ fs fun w => O.loads w (a.denO O ρ).P (valsO O ρ cs)) (k.denO O E ρ)
 | .cells xs off cs k => O.and (O.cells (xs.denO O ρ).L (off.denO O ρ).N (valsO O ρ cs)) (k.denO O E ρ)
 | .ones xs k => O.and (O.ones (xs.denO O ρ).L) (k.denO O E ρ)
 | .leq xs ys k => O.and (O.leq (xs.denO O ρ).L (ys.denO O ρ).L) (k.denO O E ρ)
 | .reads fs size a n xs k => O.and (givenO O E ρ fs fun w => O.reads w size (a.denO O ρ).P (n.denO O ρ).N (xs.denO O ρ).L) (k.denO O E ρ)
 | .ret os fs => O.and (O.post E.s E.us (densO O ρ os)) (givenO O E ρ fs fun w => O.fact E.s E.us (densO O ρ os) w)
 | .isfn x f k => O.and (O.isfn (x.denO O ρ).V f) (k.denO O E ρ)
 | .pan f us k => O.and (O.pan (E.C f) (densO O ρ us) E.s E.us) (k.denO O E ρ)
 | .panv x => O.panv E.s E.us (x.denO O ρ).V
theorem VC.denO_std (E : Env) (ln : List (Nat × Nat)) (df : List Deferred) : ∀ (v : VC) (ρ : Nat → U), v.denO std E ρ = v.den (E.sm ln df) ρ := by
 intro v
 induction v with
 | all n so k ih => intro ρ; cases so <;> simp only [VC.denO, VC.den, ih]
 | ex n so k ih => intro ρ; cases so <;> simp only [VC.denO, VC.den, ih]
 | imp c k ih => intro ρ; simp only [VC.denO, VC.den, ih, X.holdsO_std]
 | need c k ih => intro ρ; simp only [VC.denO, VC.den, ih, X.holdsO_std]
 | needw c fs k ih => intro ρ; simp only [VC.denO, VC.den, ih, X.holdsO_std, givenO_std E ln df]
 | and a b ih1 ih2 => intro ρ; simp only [VC.denO, VC.den, ih1, ih2]
 | pre f us fs k ih => intro ρ; simp only [VC.denO, VC.den, ih, givenO_std E ln df, densO_std]; rfl
 | post f us os k ih => intro ρ; simp only [VC.denO, VC.den, ih, densO_std]; rfl
 | inv j us fs k ih => intro ρ; simp only [VC.denO, VC.den, ih, givenO_std E ln df, densO_std]; rfl
 | hyp j us k ih => intro ρ; simp only [VC.denO, VC.den, ih, densO_std]; rfl
 | less j us vs k ih => intro ρ; simp only [VC.denO, VC.den, ih, densO_std]; rfl
 | loads fs a cs k ih => intro ρ; simp only [VC.denO, VC.den, ih, givenO_std E ln df, X.denO_std, valsO_std]
 | cells xs off cs k ih => intro ρ; simp only [VC.denO, VC.den, ih, X.denO_std, valsO_std]
 | ones xs k ih => intro ρ; simp only [VC.denO, VC.den, ih, X.denO_std]
 | leq xs ys k ih => intro ρ; simp only [VC.denO, VC.den, ih, X.denO_std]
 | reads fs size a n xs k ih => intro ρ; simp only [VC.denO, VC.den, ih, givenO_std E ln df, X.denO_std]
 | ret os fs => intro ρ; simp only [VC.denO, VC.den, givenO_std E ln df, densO_std]; rfl
 | isfn x f k ih => intro ρ; simp only [VC.denO, VC.den, ih, X.denO_std]
 | pan f us k ih => intro ρ; simp only [VC.denO, VC.den, ih, densO_std]; rfl
 | panv x => intro ρ; simp only [VC.denO, VC.den, X.denO_std]; rfl
 | _ => intro ρ; rfl
inductive Plan | done | take (i : Nat) (p : Plan) | act (i : Nat) (p : Plan) | skip (i : Nat) (p : Plan) | split (i : Nat) (p q : Plan)
def takesTo (p : Plan) : Nat → Nat → Plan
 | _, 0 => p
 | i, c + 1 => .take i (takesTo p (i + 1) c)
def planOf : Nat → List Nat → Plan × List Nat
 | 0, l => (.done, l)
 | _ + 1, [] => (.done, [])
 | g + 1, n :: l =>
  if n = 999999 then (.done, l) else
  if 999999 < n then let r := planOf g l; (takesTo r.1 ((n - 1000000) / 1000) ((n - 1000000) % 1000), r.2) else
  match n % 4 with
  | 0 => let r := planOf g l; (.take (n / 4) r.1, r.2)
  | 1 => let r := planOf g l; (.act (n / 4) r.1, r.2)
  | 2 => let r := planOf g l; (.skip (n / 4) r.1, r.2)
  | _ => let r := planOf g l; let q := planOf g r.2; (.split (n / 4) r.1 q.1, q.2)
def runPlan (P : Program) (Γ : Cfg) (ops : Array Oper) (fs : List FX) : Plan → St → (St → VC) → VC
 | .done, S, k => k S
 | .take i p, S, k =>
  match ops[i]? with
  | some o => quiet P Γ fs (fun _ => true) o S fun v S' => runPlan P Γ ops fs p (S'.put o.dst v) k
  | none => .no 200
 | .act i p, S, k =>
  match ops[i]? with
  | some o => stepG P Γ ops o S fun S' => runPlan P Γ ops fs p S' k
  | none => .no 200
 | .skip i p, S, k =>
  match ops[i]? with
  | some o => runPlan P Γ ops fs p (S.kill o.dst) k
  | none => .no 200
 | .split i p q, S, k =>
  match pend ops S i with
  | some (d, c) => .and (.imp c (runPlan P Γ ops fs p ((S.know c).put (some d) (.s (.one (.bool (.bool true))))) k)) (.imp (X.not c) (runPlan P Γ ops fs q ((S.know (X.not c)).put (some d) (.s (.one (.bool (.bool false))))) k))
  | none => .no 201
def execP (P : Program) (Γ : Cfg) (pl : List (Nat × Plan)) : Code → St → (Ex → St → VC) → VC
 | .skip, S, k => k .normal S
 | .label _, S, k => k .normal S
 | .region r ops draw, S, k =>
  if draw then
   match pl.lookup r with
   | some p => runPlan P { Γ with np := true } ops S.facts p S (k .normal)
   | none => .no 202
  else runOps P Γ ops (List.range ops.size) S (k .normal)
 | .seq a b, S, k =>
  match (joinKey a).bind fun r => (Γ.joins.lookup r).map fun A => (r + 1000, A) with
  | none => execP P Γ pl a S fun e S' => match e with | .normal => execP P Γ pl b S' k | e => k e S'
  | some (r, A) =>
   match headOf A a S with
   | none => .no 90
   | some H =>
    let hv := vars S.nv H.srts.length ++ A.extra
    .and (execP P Γ pl a S fun e T => match e with
       | .normal => match fits H T with
        | some vs => .inv r (vs ++ A.extra) T.facts .top
        | none => .no 91
       | e => k e T)
      (alls H.srts S fun S1 => .hyp r hv (execP P Γ pl b (H.at_ S1.nv r hv) k))
 | .cond c x y, S, k =>
  match S.opd c with
  | some (.s (.one (.bool (.bool true)))) => execP P Γ pl x S k
  | some (.s (.one (.bool (.bool false)))) => execP P Γ pl y S k
  | some (.s (.one (.bool q))) =>
   if S.known.contains q = true then execP P Γ pl x S k
   else if S.known.contains (X.not q) = true then execP P Γ pl y S k
   else .and (.imp q (execP P Γ pl x (S.know q) k)) (.imp (X.not q) (execP P Γ pl y (S.know (X.not q)) k))
  | _ => .no 61
 | .block id c, S, k => execP P Γ pl c S fun e S' => match e with | .exit j => if j = id then k .normal S' else k e S' | e => k e S'
 | .exit id, S, k => k (.exit id) S
 | .ret, S, k => k .ret S
 | .loop c, S, k =>
  match (Code.first c).bind fun r => Γ.unroll.lookup r with
  | some n => rounds (execP P Γ pl c) n S k
  | none =>
  match (Code.first c).bind fun r => (Γ.loops.lookup r).map fun A => (r, A) with
  | none => .no 62
  | some (r, A) =>
   match headOf A c S with
   | none => .no 63
   | some H =>
    match fits H S with
    | none => .no 64
    | some us =>
      let hv := vars S.nv H.srts.length ++ A.extra
      .inv r (us ++ A.extra) S.facts
       (alls H.srts S fun S1 =>
        .hyp r hv (execP P Γ pl c (H.at_ S1.nv r hv) (fun e T => match e with
         | .normal => match fits H T with
          | some vs => .inv r (vs ++ A.extra) T.facts (.less r hv (vs ++ A.extra) .top)
          | none => .no 65
         | e => k e T)))
 | _, _, _ => .no 69
def vcOfP (P : Program) (Γ : Cfg) (pl : List (Nat × List Nat)) (f : Nat) : VC :=
 match P.funcs[f]? with
 | none => .no 80
 | some fn =>
  match shsOf P fn.params, shsOf P fn.resultTypes, lentsLfs P Γ.mine, fn.body with
  | some pin, some pout, some lls, some body => match claims P (mclaims Γ.mrows) (vars (lfsAr (shsLfs pin)) Γ.mrows.length) (start fn pin Γ.own Γ.mine Γ.mrows.length lls) with | none => .no 84 | some S0 => execP P Γ (pl.map fun p => (p.1, (planOf 1000 p.2).1)) body S0 fun e S => match e with | .normal | .ret => final P Γ.lnm fn pout Γ.mine Γ.mrows lls S | _ => .no 81
  | _, _, _, _ => .no 82
def chk (P : Program) (Γ : Cfg) (fn : Func) (specs : List (Nat × Ctr)) (gh : Nat) (srts : List Srt) : Bool :=
 P.follows .mixedOrders && decide (Γ.con = conOf specs) && Γ.keepB.isEmpty && Γ.mine.isEmpty && Γ.mrows.isEmpty &&
 match shsOf P fn.params, shsOf P fn.resultTypes with
 | some pin, some _ => decide (srts = lfsSrts (shsLfs pin) ++ List.replicate gh .g)
 | _, _ => false
def AllU (k : List U → Prop) : List Srt → List U → Prop
 | [], acc => k acc.reverse
 | .i :: l, acc => ∀ x : Int, AllU k l (.i x :: acc)
 | .n :: l, acc => ∀ x : Nat, AllU k l (.n x :: acc)
 | .b :: l, acc => ∀ x : Bool, AllU k l (.b x :: acc)
 | .s :: l, acc => ∀ x : ByteArray, AllU k l (.s x :: acc)
 | .p :: l, acc => ∀ x : Option Addr, AllU k l (.p x :: acc)
 | .l :: l, acc => ∀ x : List Value, AllU k l (.l x :: acc)
 | .v :: l, acc => ∀ x : Value, AllU k l (.v x :: acc)
 | .g :: l, acc => ∀ (α : Type) (x : α), AllU k l (.g x :: acc)
theorem AllU.get {k : List U → Prop} : ∀ {l : List Srt} {acc us : List U}, AllU k l acc → us.map U.srt = l → k (acc.reverse ++ us)
 | [], acc, us, h, hu => by
  have : us = [] := by simpa using hu
  subst this; rw [List.append_nil]; exact h
 | so :: l, acc, us, h, hu => by
  cases us with
  | nil => cases hu
  | cons u us =>
   rw [List.map_cons] at hu; injection hu with h1 h2
   have hh : AllU k l (u :: acc) := by
    subst h1; cases u <;> first | exact h _ | exact h _ _
   have := AllU.get hh h2; rw [List.reverse_cons, List.append_assoc] at this; exact this
theorem keeps_v {P : Program} {f : Nat} {fn : Func} {v : VC} (hfn : P.funcs[f]? = some fn) (Γ : Cfg) (hv : vcOf P Γ f = v) (srts : List Srt) (s : Ctr) (specs : List (Nat × Ctr)) (hs : KeepAll P Γ.lents Γ.lrows Γ.pans specs)
  (hok : chk P Γ fn specs s.gh srts = true) (mono : ∀ us w w', s.pre us w → Below w.heap.size w w' → s.pre us w')
  (vc : AllU (fun us => ∀ w, s.pre us w → ∃ invs, v.denO std ⟨ctrOf specs, s, invOf invs, us, w.heap.size⟩ (rhoOf us srts)) srts []) (hpan : ∀ us ch, ¬ s.pan us ch := by exact fun _ _ h => h) (hnew : NewsOk P Γ.news := by exact newsOk_nil) : Keeps P f s := by
 unfold chk at hok; simp only [Bool.and_eq_true, decide_eq_true_eq] at hok; obtain ⟨⟨⟨⟨⟨hm, hΓ⟩, hkb⟩, hmine⟩, hmr⟩, hok⟩ := hok; split at hok
 ·next pin pout h1 h2 =>
  rw [decide_eq_true_eq] at hok; subst hok; refine keeps_of hm hfn h1 h2 s specs Γ hs hΓ mono ?_ (by simpa using hmine) (by simpa using hmr) hpan (by simpa using hkb) hnew; intro us w ht hp; obtain ⟨invs, h⟩ := AllU.get vc ht w hp; refine ⟨invs, ?_⟩; rw [hv]; rw [VC.denO_std _ [] []] at h; exact h
 ·cases hok
theorem vc_use {v : VC} {us : List U} {ρ : Nat → U} {specs : List (Nat × Ctr)} {invs : List (Nat × Inv)} {s0 : Ctr} {b0 : Nat} (Q : (O : Alg) → (Nat → Ctr) → Ctr → (Nat → Inv) → Nat → O.T)
  (h : ∀ O C s I b, v.denO O ⟨C, s, I, us, b⟩ ρ = Q O C s I b) (g : Q std (ctrOf specs) s0 (invOf invs) b0) : v.denO std ⟨ctrOf specs, s0, invOf invs, us, b0⟩ ρ := by
 rw [h]; exact g
end Go.Proofs.Ytlfonmpgenoooaa.Vc
