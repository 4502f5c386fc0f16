/- The steps of the law on trees: opened; are they small; a way out of a number; two proofs that are one. -/
import Derived.Test.YtjjkdmngmopjbaaProg
import Derived.Test.YtjjkdmngmopjbaaTe5
import Derived.Test.YtjjkdmngmopjbaaG34
import Derived.Test.YtjjkdmngmopjbaaG19
import Derived.Test.YtjjkdmngmopjbaaG25
import Derived.Deep.QuietTactic
import Derived.BigQuiet
set_option linter.unusedSimpArgs false
set_option linter.unusedVariables false
namespace Go.Proofs.Ytjjkdmngmopjbaa
open Go.ChangeShapes Go.WideShapes Go.ChangeAt Go.RowKit Go.Deep
structure StepD where
  kind : Int
  a : Int
  b : Int
  c : Int
  n : Int
  key : Key
  value : Key
def stepCells (x : StepD) : List Value := [.int .i64 x.kind, .int .i64 x.a, .int .i64 x.b, .int .i64 x.c, .int .i64 x.n, .string (bs x.key), .string (bs x.value)]
def inI (n : Int) : Prop := -9223372036854775808 ≤ n ∧ n ≤ 9223372036854775807
def StepD.ok (x : StepD) : Prop := inI x.kind ∧ inI x.a ∧ inI x.n
def stepM (x : StepD) : Nat := x.key.length + x.value.length + 2
abbrev StepsL (w : World) (B : Nat) (A : Option Addr) (l : List StepD) : Prop := Lay 7 stepCells w B A l
theorem StepsL.at_ {w : World} {B : Nat} {A : Option Addr} {l : List StepD} (h : StepsL w B A l) {k : Nat} (hk : k < l.length) :
    ∃ b off, A = some ⟨b, off, none⟩ ∧ b < B ∧ ∀ j u, (stepCells l[k])[j]? = some u → w.cell? ⟨b, off + k * 7 + j, none⟩ = some u := Lay.at_ (n := 7) (fun _ => rfl) (by omega) h hk
section
variable {H : Type} {enc : TypeId × Value → H} {W : World}
theorem cellsB_step : Try.prog.cellsOf 59 = 7 := by kernel_rfl
def IsStepDB (W : World) (cs : List Value) (x : StepD) : Prop := cs = stepCells x ∧ (x.ok)
set_option maxRecDepth 100000 in
theorem step_trodB : ∀ fuel cs x, DataW.trod enc Try.prog W 0 (fun _ => true) true fuel 59 cs = some x → ∃ d, IsStepDB W cs d ∧ stepM d ≤ Rows.uptoBulk x.1 := by
  intro fuel cs x h
  obtain ⟨hl, n, xs, hx, hxl, hg⟩ := open_structB Try.underlying59 h
  rw [cellsB_step] at hl
  match cs, hl, xs, hxl with
  | [c0, c1, c2, c3, c4, c5, c6], _, [y0, y1, y2, y3, y4, y5, y6], _ =>
    have h0 : DataW.trod enc Try.prog W 0 (fun _ => true) true n 3 (([c0, c1, c2, c3, c4, c5, c6].drop 0).take (Try.prog.cellsOf 3)) = some y0 := hg 0 _ rfl
    rw [show Try.prog.cellsOf 3 = 1 by kernel_rfl] at h0
    have h1 : DataW.trod enc Try.prog W 0 (fun _ => true) true n 3 (([c0, c1, c2, c3, c4, c5, c6].drop 1).take (Try.prog.cellsOf 3)) = some y1 := hg 1 _ rfl
    rw [show Try.prog.cellsOf 3 = 1 by kernel_rfl] at h1
    have h2 : DataW.trod enc Try.prog W 0 (fun _ => true) true n 3 (([c0, c1, c2, c3, c4, c5, c6].drop 2).take (Try.prog.cellsOf 3)) = some y2 := hg 2 _ rfl
    rw [show Try.prog.cellsOf 3 = 1 by kernel_rfl] at h2
    have h3 : DataW.trod enc Try.prog W 0 (fun _ => true) true n 3 (([c0, c1, c2, c3, c4, c5, c6].drop 3).take (Try.prog.cellsOf 3)) = some y3 := hg 3 _ rfl
    rw [show Try.prog.cellsOf 3 = 1 by kernel_rfl] at h3
    have h4 : DataW.trod enc Try.prog W 0 (fun _ => true) true n 3 (([c0, c1, c2, c3, c4, c5, c6].drop 4).take (Try.prog.cellsOf 3)) = some y4 := hg 4 _ rfl
    rw [show Try.prog.cellsOf 3 = 1 by kernel_rfl] at h4
    have h5 : DataW.trod enc Try.prog W 0 (fun _ => true) true n 9 (([c0, c1, c2, c3, c4, c5, c6].drop 5).take (Try.prog.cellsOf 9)) = some y5 := hg 5 _ rfl
    rw [show Try.prog.cellsOf 9 = 1 by kernel_rfl] at h5
    have h6 : DataW.trod enc Try.prog W 0 (fun _ => true) true n 9 (([c0, c1, c2, c3, c4, c5, c6].drop 6).take (Try.prog.cellsOf 9)) = some y6 := hg 6 _ rfl
    rw [show Try.prog.cellsOf 9 = 1 by kernel_rfl] at h6
    obtain ⟨a0, ⟨e0, g0⟩, m0⟩ := int_trodB _ _ _ h0
    obtain ⟨a1, ⟨e1, g1⟩, m1⟩ := int_trodB _ _ _ h1
    obtain ⟨a2, ⟨e2, g2⟩, m2⟩ := int_trodB _ _ _ h2
    obtain ⟨a3, ⟨e3, g3⟩, m3⟩ := int_trodB _ _ _ h3
    obtain ⟨a4, ⟨e4, g4⟩, m4⟩ := int_trodB _ _ _ h4
    obtain ⟨a5, ⟨e5, g5⟩, m5⟩ := str_trodB _ _ _ h5
    obtain ⟨a6, ⟨e6, g6⟩, m6⟩ := str_trodB _ _ _ h6
    simp at e0 e1 e2 e3 e4 e5 e6
    subst e0
    subst e1
    subst e2
    subst e3
    subst e4
    subst e5
    subst e6
    exact ⟨⟨a0, a1, a2, a3, a4, a5, a6⟩, ⟨rfl, ⟨g0, g1, g4⟩⟩, by rw [hx]; simp only [List.map_cons, List.map_nil, Rows.uptoBulk, Rows.uptoBulkAll, stepM]; omega⟩
set_option maxRecDepth 100000 in
theorem openB_step {v : Value} {d : DataW H} {p : List MemPlace} (hv : Value.okWide Try.prog W .any 0 59 v) (h : DataW.Trod enc Try.prog W 0 (fun _ => true) true 59 v d p) : ∃ x, v = .agg (stepCells x).toArray ∧ IsStepDB W (stepCells x) x ∧ stepM x ≤ Rows.uptoBulk d := by
  obtain ⟨fuel, hf⟩ := h
  obtain ⟨cs, rfl, hsz⟩ := okWide_struct Try.underlying59 hv
  obtain ⟨x, hx, hm⟩ := step_trodB _ _ _ hf
  have e : cs.toList = stepCells x := by have := hx.1; simpa [Value.cells] using this
  exact ⟨x, by rw [← e], ⟨rfl, hx.2⟩, hm⟩
set_option maxRecDepth 100000 in
theorem steps_trodB : ∀ fuel cs x, DataW.trod enc Try.prog W 0 (fun _ => true) true fuel 48 cs = some x → ∃ A c l, cs = [.slice A l.length c] ∧ (l.length ≤ c ∧ c ≤ maxLen ∧ Lay 7 stepCells W W.heap.size A l ∧ ∀ y ∈ l, IsStepDB W (stepCells y) y) ∧ sumL stepM l + 1 ≤ Rows.uptoBulk x.1 := by
  intro fuel cs x h
  obtain ⟨l, hl, hm⟩ := slOf_of_trodB stepM (size := 7) (R := IsStepDB W) Try.underlying48 cellsB_step (by omega) step_trodB _ _ _ h
  obtain ⟨A, c, e, h1, h2, h3, h4⟩ := hl.flat stepCells (fun _ _ hx => hx.1)
  exact ⟨A, c, l, e, ⟨h1, h2, h3, fun y hy => by obtain ⟨cs, hc⟩ := h4 y hy; exact ⟨rfl, hc.2⟩⟩, hm⟩
set_option maxRecDepth 100000 in
theorem openB_steps {v : Value} {d : DataW H} {p : List MemPlace} (hv : Value.okWide Try.prog W .any 0 48 v) (h : DataW.Trod enc Try.prog W 0 (fun _ => true) true 48 v d p) : ∃ A c l, v = .slice A l.length c ∧ (l.length ≤ c ∧ c ≤ maxLen ∧ Lay 7 stepCells W W.heap.size A l ∧ ∀ y ∈ l, IsStepDB W (stepCells y) y) ∧ sumL stepM l + 1 ≤ Rows.uptoBulk d := by
  obtain ⟨fuel, hf⟩ := h
  obtain ⟨a, len, cap, rfl⟩ := okWide_slice Try.underlying48 hv
  obtain ⟨A, c, l, e, h1, hm⟩ := steps_trodB _ _ _ hf
  simp [Value.cells] at e
  obtain ⟨rfl, rfl, rfl⟩ := e
  exact ⟨_, _, l, rfl, h1, hm⟩
end
def SmallR (w : World) (e : Ending) (w' : World) : Prop := ∃ b : Bool, e = .returned (.bool b) ∧ Below w.heap.size w w'
set_option maxRecDepth 100000 in
theorem small_any (l : List StepD) (A : Option Addr) (c B : Nat) (w : World) (h : StepsL w B A l) (hlen : l.length ≤ 9223372036854775807) :
    Calls Try.prog 12 #[.slice A l.length c] w (SmallR w) := by
  go_enter Try.func12, Try.ntmps12
  go_wp2_with fail
  go_loopw [3, 4] (fun n z wr => ∃ (i d : Nat) (m : Int), n = .int .i64 m ∧ z = .int .i64 (i : Int) ∧ i ≤ l.length ∧ wr = w.drewN d) (fun _ z _ => l.length - (intOf z).toNat)
  case atStart => exact ⟨0, 0, _, rfl, rfl, by omega, rfl⟩
  case round =>
    obtain ⟨i, d, m, rfl, rfl, hi, rfl⟩ := hrel
    by_cases hlt : i < l.length
    · have hii : (i : Int) < (l.length : Int) := by omega
      by_cases hm : m ≤ 65536
      · have hm0 : decide (m ≤ 65536) = true := decide_eq_true hm
        obtain ⟨b, o, rfl, _, hx⟩ := h.at_ hlt
        have x5 := hx 5 (.string (bs l[i].key)) rfl
        have x6 := hx 6 (.string (bs l[i].value)) rfl
        clear hx
        generalize l[i] = x at *
        obtain ⟨xk, xa, xb, xc, xn, xy, xv⟩ := x
        simp only at x5 x6
        obtain ⟨Y, hY⟩ : ∃ Y, IntKind.i64.wrap (m + (xy.length : Int)) = Y := ⟨_, rfl⟩
        obtain ⟨Z, hZ⟩ : ∃ Z, IntKind.i64.wrap (Y + (xv.length : Int)) = Z := ⟨_, rfl⟩
        have hY' : wrap64 (m + (xy.length : Int)) = Y := by rw [← IntWalk.i64_left]; exact hY
        have hZ' : wrap64 (Y + (xv.length : Int)) = Z := by rw [← IntWalk.i64_left]; exact hZ
        go_wp2_with fail
        go_quiet (fail)
        go_wp2_with fail
        go_roundw
        case rel => exact ⟨i + 1, _, _, rfl, by go_num, by omega, rfl⟩
        case measure => simp [intOf]; omega
      · have hm0 : decide (m ≤ 65536) = false := decide_eq_false hm
        go_wp2_with fail
        go_ret
        exact ⟨false, rfl, (Below.refl _ _).drewN _⟩
    · have hii : ¬ (i : Int) < (l.length : Int) := by omega
      by_cases hm : m ≤ 65536
      · have hm0 : decide (m ≤ 65536) = true := decide_eq_true hm
        by_cases hl : l.length ≤ 4096
        · have hl0 : decide ((l.length : Int) ≤ 4096) = true := decide_eq_true (by omega)
          go_wp2_with fail
          go_ret
          exact ⟨true, rfl, (Below.refl _ _).drewN _⟩
        · have hl0 : decide ((l.length : Int) ≤ 4096) = false := decide_eq_false (by omega)
          go_wp2_with fail
          go_ret
          exact ⟨false, rfl, (Below.refl _ _).drewN _⟩
      · have hm0 : decide (m ≤ 65536) = false := decide_eq_false hm
        go_wp2_with fail
        go_ret
        exact ⟨false, rfl, (Below.refl _ _).drewN _⟩
/-- a way, out of a number -/
def wayF : Nat → Nat → Key
  | 0, _ => []
  | f + 1, n => if 1 < n then (48 + UInt8.ofNat (n % 2)) :: wayF f (n / 2) else []
theorem wayF_len : ∀ f n, (wayF f n).length ≤ f
  | 0, _ => by simp [wayF]
  | f + 1, n => by
    unfold wayF
    split
    · have := wayF_len f (n / 2)
      simp
      omega
    · simp
def wayK (a : Int) : Key := wayF 12 (pickS a 4096).toNat
theorem wayK_len (a : Int) : (wayK a).length ≤ 12 := wayF_len _ _
set_option maxRecDepth 100000 in
set_option maxHeartbeats 1000000 in
theorem way_any (a : Int) (w : World) (ha : -9223372036854775808 ≤ a) :
    Calls Try.prog 29 #[.int .i64 a] w fun e w' => e = .returned (.string (bs (wayK a))) ∧ Below w.heap.size w w' := by
  have hp := fun W => pick_any a 4096 W ha (by omega)
  have h0 := pickS_lo a 4096 (by omega)
  have h1 := pickS_hi a 4096 (by omega)
  unfold wayK
  generalize pickS a 4096 = P at *
  have hc := fun (x0 : Int) (W : World) => conv1 (P := Try.prog) 144 9 5 Try.underlying144 Try.underlying5 Try.underlying9 x0 W
  go_enter Try.func29, Try.ntmps29
  go_wp2_with fail
  refine (hp _).mono ?_
  rintro e w1 ⟨rfl, rfl⟩
  go_wp2_with fail
  go_loopw [0, 3] (fun n s wr => ∃ (m f : Nat) (pre : Key), n = .int .i64 (m : Int) ∧ s = .string (bs pre) ∧ m < 2 ^ f ∧ f ≤ 12 ∧ Hid (pre ++ wayF f m = wayF 12 P.toNat) ∧ pre.length + f = 12 ∧ Below w.heap.size w wr) (fun n _ _ => (intOf n).toNat)
  case atStart => exact ⟨P.toNat, 12, [], by rw [Int.toNat_of_nonneg h0], rfl, by omega, by omega, rfl, rfl, Below.refl _ _⟩
  case round =>
    obtain ⟨m, f, pre, rfl, rfl, hm, hf, hE, hpl, hb⟩ := hrel
    clear hp h0 h1
    by_cases hlt : 1 < m
    · have hf0 : f ≠ 0 := by
        intro h
        subst h
        simp at hm
        omega
      obtain ⟨f', rfl⟩ : ∃ f', f = f' + 1 := ⟨f - 1, by omega⟩
      have hE2 : Hid ((pre ++ [48 + UInt8.ofNat (m % 2)]) ++ wayF f' (m / 2) = wayF 12 P.toNat) := by
        show _ = _
        rw [← hE.out, wayF, if_pos hlt]
        simp
      have hm2 : m / 2 < 2 ^ f' := by rw [Nat.pow_succ] at hm; omega
      have hmb : m < 8192 := Nat.lt_of_lt_of_le hm (Nat.le_trans (Nat.pow_le_pow_right (by omega) hf) (by decide))
      have hlt2 : decide ((m : Int) > 1) = true := decide_eq_true (by omega)
      have hlt3 : decide ((1 : Int) < (m : Int)) = true := decide_eq_true (by omega)
      have ht : (m : Int).tmod 2 = ((m % 2 : Nat) : Int) := by rw [Int.tmod_eq_emod_of_nonneg (by omega)]; omega
      have hq : (m : Int).tdiv 2 = ((m / 2 : Nat) : Int) := by rw [Int.tdiv_eq_ediv_of_nonneg (by omega)]; omega
      have hr2 : m % 2 < 2 := Nat.mod_lt _ (by omega)
      have hd2 : m / 2 < m := by omega
      generalize m % 2 = r at *
      generalize m / 2 = d at *
      clear hE hm
      go_wp2_with fail
      go_roundw
      case rel => exact ⟨d, f', _, rfl, rfl, hm2, by omega, hE2, by simp; omega, hb.alloc hb.size _⟩
      case measure => simp [intOf]; omega
    · have hlt2 : decide ((m : Int) > 1) = false := decide_eq_false (by omega)
      have hlt3 : decide ((1 : Int) < (m : Int)) = false := decide_eq_false (by omega)
      have hfin : Hid (pre = wayF 12 P.toNat) := by
        show _ = _
        rw [← hE.out]
        cases f with
        | zero => simp [wayF]
        | succ f => rw [wayF, if_neg hlt]; simp
      clear hE
      go_wp2_with fail
      go_ret
      exact ⟨by rw [hfin.out]; rfl, hb⟩
set_option maxRecDepth 100000 in
set_option maxHeartbeats 1000000 in
theorem sameProof_any (x y : ProofD) (B B' : Nat) (w : World) (h1 : x.turns = y.turns) (h2 : x.leaf = y.leaf) (h3 : x.key = y.key) (h4 : x.value = y.value) (hx : x.held w B) (hy : y.held w B') (hB : B ≤ w.heap.size) (hB' : B' ≤ w.heap.size) :
    Calls Try.prog 26 #[x.val, y.val] w fun e w' => e = .returned (.bool true) ∧ Below w.heap.size w w' := by
  obtain ⟨ts, A, c, lf, k, v⟩ := x
  obtain ⟨ts', A', c', lf', k', v'⟩ := y
  simp only at h1 h2 h3 h4
  subst h1
  subst h2
  subst h3
  subst h4
  have hr : TurnsL w B A ts := hx.read
  have hr' : TurnsL w B' A' ts := hy.read
  have hlen : ts.length ≤ maxLen := hx.short
  unfold maxLen at hlen
  unfold ProofD.val
  have hX : Blk ((w.alloc (.cells #[.slice A ts.length c, .bool lf, .string (bs k), .string (bs v)] 70)).alloc (.cells #[.slice A' ts.length c', .bool lf, .string (bs k), .string (bs v)] 70)) w.heap.size 70 #[.slice A ts.length c, .bool lf, .string (bs k), .string (bs v)] := (Blk.new w 70 #[.slice A ts.length c, .bool lf, .string (bs k), .string (bs v)]).alloc _
  have hY : Blk ((w.alloc (.cells #[.slice A ts.length c, .bool lf, .string (bs k), .string (bs v)] 70)).alloc (.cells #[.slice A' ts.length c', .bool lf, .string (bs k), .string (bs v)] 70)) (w.heap.size + 1) 70 #[.slice A' ts.length c', .bool lf, .string (bs k), .string (bs v)] := by
    have := Blk.new (w.alloc (.cells #[.slice A ts.length c, .bool lf, .string (bs k), .string (bs v)] 70)) 70 #[.slice A' ts.length c', .bool lf, .string (bs k), .string (bs v)]
    simpa using this
  have hb : Below w.heap.size w ((w.alloc (.cells #[.slice A ts.length c, .bool lf, .string (bs k), .string (bs v)] 70)).alloc (.cells #[.slice A' ts.length c', .bool lf, .string (bs k), .string (bs v)] 70)) := ((Below.refl _ _).alloc (Nat.le_refl _) _).alloc (by simp) _
  have hr0 : TurnsL _ B A ts := Rd.below hr (hb.mono hB)
  have hr1 : TurnsL _ B' A' ts := Rd.below hr' (hb.mono hB')
  clear hr hr' hx hy hB hB'
  go_enter Try.func26, Try.ntmps26
  go_upto_region 1 with fail
  generalize ((w.alloc (.cells #[.slice A ts.length c, .bool lf, .string (bs k), .string (bs v)] 70)).alloc (.cells #[.slice A' ts.length c', .bool lf, .string (bs k), .string (bs v)] 70)) = w0 at *
  have x0 := (hX.cell 0).trans (show _ = some (Value.slice A ts.length c) from rfl)
  have x1 := (hX.cell 1).trans (show _ = some (Value.bool lf) from rfl)
  have x2 := (hX.cell 2).trans (show _ = some (Value.string (bs k)) from rfl)
  have x3 := (hX.cell 3).trans (show _ = some (Value.string (bs v)) from rfl)
  have y0 := (hY.cell 0).trans (show _ = some (Value.slice A' ts.length c') from rfl)
  have y1 := (hY.cell 1).trans (show _ = some (Value.bool lf) from rfl)
  have y2 := (hY.cell 2).trans (show _ = some (Value.string (bs k)) from rfl)
  have y3 := (hY.cell 3).trans (show _ = some (Value.string (bs v)) from rfl)
  go_wp2_with fail
  go_loopw [5] (fun z wr => ∃ (i d : Nat), z = .int .i64 (i : Int) ∧ i ≤ ts.length ∧ wr = w0.drewN d) (fun z _ => ts.length - (intOf z).toNat)
  case atStart => exact ⟨0, 0, rfl, by omega, rfl⟩
  case round =>
    obtain ⟨i, d, rfl, hi, rfl⟩ := hrel
    by_cases hlt : i < ts.length
    · have hii : (i : Int) < (ts.length : Int) := by omega
      obtain ⟨b1, o1, rfl, _, z⟩ := hr0.at_ hlt
      obtain ⟨b2, o2, rfl, _, z'⟩ := hr1.at_ hlt
      have z0 : w0.cell? ⟨b1, o1 + i * 2, none⟩ = some (.int .i64 ts[i].p) := z 0 (.int .i64 ts[i].p) rfl
      have z1 := z 1 (.int .u64 ts[i].d) rfl
      have z2 : w0.cell? ⟨b2, o2 + i * 2, none⟩ = some (.int .i64 ts[i].p) := z' 0 (.int .i64 ts[i].p) rfl
      have z3 := z' 1 (.int .u64 ts[i].d) rfl
      clear z z'
      generalize ts[i].p = p at *
      generalize ts[i].d = q at *
      go_wp2_with fail
      go_quiet (fail)
      go_wp2_with fail
      go_roundw
      case rel => exact ⟨i + 1, _, by go_num, by omega, rfl⟩
      case measure => simp [intOf]; omega
    · have hii : ¬ (i : Int) < (ts.length : Int) := by omega
      go_wp2_with fail
      go_ret
      exact ⟨rfl, hb.drewN _⟩
end Go.Proofs.Ytjjkdmngmopjbaa

