/- Of the texts Rd0. -/
import Derived.Test.YtjhaafbbdgjagaaGreatProg
import Derived.Test.YtjhaafbbdgjagaaGreatG15
import Derived.Test.YtjhaafbbdgjagaaGreatG14
import Derived.Test.YtjhaafbbdgjagaaGreatG23
set_option linter.unusedSimpArgs false
set_option linter.unusedVariables false
namespace Go.Proofs.YtjhaafbbdgjagaaGreat
open Go.RowKit Vc
set_option maxRecDepth 100000
def restOf (P : Program) (f : Nat) : Code := match (P.funcs[f]?).bind (·.body) with | some (.seq _ (.seq _ c)) => c | _ => .skip
def fnOf (P : Program) (f : Nat) : Func := (P.funcs[f]?).getD default
def fnV (f : Nat) : Value := .func (.func f) #[] #[]
theorem keeps_bridge' {P : Program} {f : Nat} {fn : Func} {pin pout : List Sh} (hfn : P.funcs[f]? = some fn) (hpin : shsOf P fn.params = some pin) (hpout : shsOf P fn.resultTypes = some pout) (s : Ctr) (srts : List Srt) (hs : srts = lfsSrts (shsLfs pin) ++ List.replicate s.gh .g)
  (h : AllU (fun us => ∀ w, s.pre us w → Calls P f (shsV us 0 pin).toArray w fun e w' => ∃ os : List U, os.map U.srt = lfsSrts (shsLfs pout) ∧ e = .returned (resV os pout) ∧ s.post us os ∧
   (∀ u : World, (∀ b, w.heap.size ≤ b → b < w'.heap.size → u.heap[b]? = w'.heap[b]?) → s.pre us u → s.fact us os u) ∧ Below w.heap.size w w') srts []) : Keeps P f s := by
 intro fn' pin' pout' h1 h2 h3 us w ht hp; rw [hfn] at h1; injection h1 with h1; subst h1
 rw [hpin] at h2; injection h2 with h2; subst h2
 rw [hpout] at h3; injection h3 with h3; subst h3
 rw [← hs] at ht; exact AllU.get h ht w hp
def pWhole {α : Type} (p : ByteArray → Got α) (put : α → Int) (s : ByteArray) : Except Int α :=
 match p s with
 | .error e => .error e
 | .ok (x, r) => if 0 < r.size then .error 4 else if put x = 0 then .ok x else .error (put x)
def wnumP : List U → Prop
 | [.i _, .v f] => f = fnV 56
 | _ => False
def wnumF : List U → List U
 | [.i x, .v _] => [.s (bs (Out.empty.num x).rs), .i (Out.empty.num x).re]
 | _ => []
def WNumS : Ctr := { pre := fun us _ => wnumP us, post := fun us os => os = wnumF us, fact := fun _ _ _ => True }
theorem wnum_ok : Keeps Tryz.prog 55 WNumS := by
 refine keeps_bridge' Tryz.func55 (pin := [.one (.int .i64), .one .val]) (pout := [.one .str, .one (.int .i64)]) (by kernel_rfl) (by kernel_rfl) WNumS [.i, .v] rfl ?_; intro x v w hp; have hp : v = fnV 56 := hp; subst hp; refine (write_num x w).mono ?_; rintro e w' ⟨rfl, hb⟩; exact ⟨[.s (bs (Out.empty.num x).rs), .i (Out.empty.num x).re], rfl, rfl, rfl, fun _ _ _ => trivial, hb⟩
def cfg_rdint : Cfg := { con := [(58, 0), (55, 0)], lents := [(58, [(0, 208)])], mine := [(6, 3), (7, 22)], pans := [58], fns := [(17, 58)], keepB := [(6, 3, 1), (7, 22, 1)] }
def vcd_rdint : { v : VC // exec Tryz.prog cfg_rdint (restOf Tryz.prog 57) (readS (fnOf Tryz.prog 57) [.one .str, .one .val, .one .val] 3 22 [.int .i64 (.int 0)]) (readK Tryz.prog (fnOf Tryz.prog 57) [.one (.int .i64), .one (.int .i64)]) = v } := by refine ⟨?v, ?h⟩; rotate_left; conv => lhs; reduce
def gotU {α : Type} (r : Except Int α) (f : α → List U) (z : List U) : List U := match r with | .ok x => f x ++ [.i 0] | .error e => z ++ [.i e]
def rdnumP : List U → Prop
 | [.s s, .v g, .v p] => Small s ∧ g = fnV 58 ∧ p = fnV 56
 | _ => False
def rdnumF : List U → List U
 | [.s s, .v _, .v _] => gotU (pWhole pNum (fun x => (Out.empty.num x).re) s) (fun x => [.i x]) [.i 0]
 | _ => []
def RdNumS : Ctr := { pre := fun us _ => rdnumP us, post := fun us os => os = rdnumF us, fact := fun _ _ _ => True }
theorem rdnum_ok : Keeps Tryz.prog 57 RdNumS := by
 refine keeps_read (zv := [.int .i64 0]) (zx := [.un (.co .i) (.int 0), .un (.co .i) (.var 0)]) (zs := [.int .i64 (.int 0)]) (n := 1) (pin := [.one .str, .one .val, .one .val]) (pout := [.one (.int .i64), .one (.int .i64)]) (T := 3) (tE := 22) (tS := 205) Tryz.func57 rfl Tryz.func137 rfl rfl rfl (by kernel_rfl) (by kernel_rfl) ⟨_, rfl, rfl⟩ (by kernel_rfl) (by kernel_rfl) (fun _ _ => rfl) rfl (by kernel_rfl) (by kernel_rfl) rfl (by decide) (by decide) (by kernel_rfl) (by kernel_rfl) (by kernel_rfl) (fun _ => by kernel_rfl) cfg_rdint rfl rfl (v := vcd_rdint.1) (by kernel_rfl) RdNumS rfl [(58, PNumS), (55, WNumS)] ⟨pnum_ok, wnum_ok, trivial⟩ rfl (fun _ _ _ h _ => h) ?_
 intro x0 x1 x2 w hp; refine ⟨[], fun base => vc_use ?Q ?h ?g⟩
 case h => intro O C s I b; conv => lhs; reduce
 dsimp only [std]; simp only [ctrOf, invOf, List.lookup, Nat.reduceBEq, Option.getD_some, Int.reduceOfNat, Int.reduceNegSucc]; obtain ⟨hs, rfl, rfl⟩ : Small x0 ∧ x1 = fnV _ ∧ x2 = fnV _ := hp; simp only [PNumS, WNumS, rdC, numF, wnumF]; have bad : ∀ c : Int, pWhole pNum (fun x => (Out.empty.num x).re) x0 = .error c → (readC RdNumS 205 [.un (.co .i) (.int 0), .un (.co .i) (.var 0)]).pan [.s x0, .v (fnV 58), .v (fnV 56)] (stopCh c) := fun c hc => ⟨c, rfl, by show _ = gotU _ _ _; rw [hc]; rfl, fun _ _ => trivial⟩
 refine ⟨rfl, fun x => ⟨fun ch ⟨e, h1, h2⟩ => ?_, fun _ _ => hs, fun n r h1 => ?_⟩⟩
 ·have h1 : pNum x0 = .error e := by cases h : pNum x0 <;> simp [h, gI, Except.map] at h1 ⊢; exact h1
  subst h2; exact bad e (by unfold pWhole; rw [h1])
 ·have h1 : pNum x0 = .ok (n, r) := by
   cases h : pNum x0 with
   | error e => simp [h, gI, Except.map] at h1
   | ok q => obtain ⟨a, b⟩ := q; simpa [h, gI, Except.map] using h1
  refine ⟨fun hr => bad 4 (by unfold pWhole; rw [h1]; dsimp only; rw [if_pos (by omega)]), fun hr => ⟨fun _ _ => rfl, fun s4 e4 he => ?_⟩⟩; simp only [List.cons.injEq, U.s.injEq, U.i.injEq, and_true] at he; obtain ⟨rfl, rfl⟩ := he; refine ⟨fun h => bad _ (by unfold pWhole; rw [h1]; dsimp only; rw [if_neg (by omega), if_neg h]), fun h => ⟨?_, fun _ _ => trivial⟩⟩; show _ = gotU _ _ _; unfold pWhole; rw [h1]; dsimp only; rw [if_neg (by omega), if_pos h]; rfl
end Go.Proofs.YtjhaafbbdgjagaaGreat
