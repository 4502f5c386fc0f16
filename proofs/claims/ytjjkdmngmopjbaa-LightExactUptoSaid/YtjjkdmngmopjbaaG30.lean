/- Of the texts Li2. -/
import Derived.Test.YtjjkdmngmopjbaaProg
import Derived.Test.YtjjkdmngmopjbaaG29
import Derived.Deep.RegionHeld3
import Derived.Deep.Cut
import Derived.Deep.CutRange
set_option linter.unusedSimpArgs false
set_option linter.unusedVariables false
namespace Go.Proofs.Ytjjkdmngmopjbaa
open Go.RowKit
theorem far_seat (S : Out) (x : Seat) (h : (S.seat x).far = false) : S.far = false := by
  unfold Out.seat Out.nums at h
  simp only [List.foldl_cons, List.foldl_nil, Out.num, Bool.or_eq_false_iff] at h
  exact h.1.1
theorem far_seats : ∀ (l : List Seat) (S : Out), (l.foldl Out.seat S).far = false → S.far = false
  | [], _, h => h
  | x :: l, S, h => far_seat S x (far_seats l (S.seat x) h)
theorem far_bench (S : Out) (l : List Seat) (h : (S.bench l).far = false) : S.far = false := by
  unfold Out.bench Out.need Out.list at h
  have := far_seats l _ h
  unfold Out.num Out.lim at this
  simp at this
  exact this.1.1
theorem re_zero {S : Out} (h : S.re = 0) : S.far = false ∧ S.odd = false := by
  unfold Out.re at h
  split at h
  · omega
  · next hf =>
    split at h
    · omega
    · next ho => exact ⟨by simpa using hf, by simpa using ho⟩
theorem farN_no {n : Int} (h : farN n = false) : 0 ≤ n ∧ n ≤ 1099511627775 := by
  unfold farN at h
  simp at h
  omega
theorem view_zero {v : ViewD} (h : evS v = 0) : (0 ≤ v.h ∧ v.h ≤ 1099511627775) ∧ 1 ≤ v.e ∧ v.e ≤ 1099511627775 := by
  obtain ⟨h1, h2⟩ := re_zero h
  unfold Out.view Out.need at h1 h2
  simp only at h1 h2
  have h3 := far_bench _ _ h1
  unfold Out.dig Out.nums at h3
  simp only [List.foldl_cons, List.foldl_nil, Out.num, Out.empty, Bool.or_eq_false_iff] at h3
  have h4 : viewOk v = true := by
    rw [Bool.or_eq_false_iff] at h2
    simpa using h2.2
  unfold viewOk at h4
  simp at h4
  have h5 := farN_no h3.2
  have h6 := farN_no h3.1.2
  exact ⟨h5, h4.2, h6.2⟩
theorem header_zero {x : HeaderD} (h : ehS x = 0) : 0 ≤ x.h ∧ x.h ≤ 1099511627775 := by
  obtain ⟨h1, _⟩ := re_zero h
  unfold Out.header at h1
  simp only [Out.num, Bool.or_eq_false_iff] at h1
  have h2 := h1.1
  unfold Out.digs Out.nums at h2
  simp only [List.foldl_cons, List.foldl_nil, Out.dig, Out.num, Out.empty, Bool.or_eq_false_iff] at h2
  exact farN_no h2.2
theorem may_zero {ev eh ec eb : Int} {f1 f2 : Bool} (h : mayS ev eh ec eb f1 f2 = 0) : ev = 0 ∧ eh = 0 ∧ f1 = true ∧ f2 = true := by
  unfold mayS at h
  split at h
  · omega
  · next h1 =>
    split at h
    · omega
    · next h2 =>
      split at h
      · omega
      · split at h
        · omega
        · split at h
          · omega
          · next h3 =>
            simp at h1 h2 h3
            exact ⟨h1.1, h2, h1.2, h3⟩
theorem fits_short {l : List Seat} (h : fits l = true) : 1 ≤ l.length ∧ l.length ≤ 7 := by
  unfold fits at h
  simp at h
  omega
theorem seats_one (l : List Seat) : ∀ u ∈ l.flatMap seatCells, u.oneCell' = true := by
  intro u hu
  simp only [List.mem_flatMap, seatCells] at hu
  obtain ⟨x, _, hx⟩ := hu
  simp at hx
  rcases hx with rfl | rfl <;> rfl
theorem set_grown (w : World) (p : Addr) (u : Value) : w.grownBy (w.setCell p u) (some p.block) :=
  ⟨rfl, rfl, rfl, by simp [World.setCell], fun k _ hk => Below.heap_setCell w p u k (fun e => hk (by rw [e]))⟩
theorem own_farV {W : World} {base size n g : Nat} {e t : TypeId} {v : Value} {xs : List Value} {cs : Array Value} (h : W.ownsRow base e size v n xs) (hg : Blk W g t cs) (hne : t ≠ e) {p : Addr} (hp : p.block = g) (u : Value) : (W.setCell p u).ownsRow base e size v n xs :=
  h.kept (set_grown W p u) (.inr fun hh => by
    rcases h.2 with ⟨rfl, _⟩ | ⟨g', cap, cur, rfl, _, hgb, _⟩
    · simp [Value.ownBlock] at hh
    · have e' : g' = p.block := by simpa [Value.ownBlock] using hh
      unfold Blk at hg
      rw [← hp, ← e', hgb] at hg
      injection hg with hg
      injection hg with _ ht
      exact hne ht.symm)
theorem below_six2 {B : Nat} {w W : World} {g : Nat} (h : Below B w W) (hg : B ≤ g) (v0 v1 v2 v3 v4 v5 : Value) : Below B w ((((((W.setCell ⟨g, 0, none⟩ v0).setCell ⟨g, 1, none⟩ v1).setCell ⟨g, 2, none⟩ v2).setCell ⟨g, 3, none⟩ v3).setCell ⟨g, 4, none⟩ v4).setCell ⟨g, 5, none⟩ v5) :=
  (((((h.setCell (p := ⟨g, 0, none⟩) hg v0).setCell (p := ⟨g, 1, none⟩) hg v1).setCell (p := ⟨g, 2, none⟩) hg v2).setCell (p := ⟨g, 3, none⟩) hg v3).setCell (p := ⟨g, 4, none⟩) hg v4).setCell (p := ⟨g, 5, none⟩) hg v5
theorem own_six {W : World} {base size n g : Nat} {e t : TypeId} {v : Value} {xs : List Value} {c0 c1 c2 c3 c4 c5 : Value} (h : W.ownsRow base e size v n xs) (hg : Blk W g t #[c0, c1, c2, c3, c4, c5]) (hne : t ≠ e) (v0 v1 v2 v3 v4 v5 : Value) : (((((((W.setCell ⟨g, 0, none⟩ v0).setCell ⟨g, 1, none⟩ v1).setCell ⟨g, 2, none⟩ v2).setCell ⟨g, 3, none⟩ v3).setCell ⟨g, 4, none⟩ v4).setCell ⟨g, 5, none⟩ v5)).ownsRow base e size v n xs := by
  have g1 := hg.set_ 0 v0
  have g2 := g1.set_ 1 v1
  have g3 := g2.set_ 2 v2
  have g4 := g3.set_ 3 v3
  have g5 := g4.set_ 4 v4
  exact own_farV (own_farV (own_farV (own_farV (own_farV (own_farV h hg hne (p := ⟨g, 0, none⟩) rfl v0) g1 hne (p := ⟨g, 1, none⟩) rfl v1) g2 hne (p := ⟨g, 2, none⟩) rfl v2) g3 hne (p := ⟨g, 3, none⟩) rfl v3) g4 hne (p := ⟨g, 4, none⟩) rfl v4) g5 hne (p := ⟨g, 5, none⟩) rfl v5
theorem own_from {w : World} {base B size n c : Nat} {e : TypeId} {A : Option Addr} {xs : List Value} (h : w.ownsRow base e size (.slice A n c) n xs) (hB : B ≤ base) : From B A := by
  rcases h.2 with ⟨e, _⟩ | ⟨g, cap, cur, e, hg, _⟩
  · injection e with e
    subst e
    exact from_none _
  · injection e with e
    subst e
    exact from_some (by omega)
/-- the answer, of what it hangs on -/
def accB (m : Int) (b1 b2 b3 b4 : Bool) (k : Int) (b5 : Bool) : Int := if m ≠ 0 then m else if b1 then 24 else if b2 then 19 else if b3 then 20 else if b4 then 5 else if k ≠ 0 then k else if b5 then 5 else 0
def accE (v : ViewD) (h : HeaderD) (c : CertD) (sl : List Seat) : Int :=
  accB (mayS (evS v) (ehS h) (ecS c) (ebS sl) (fits v.seats) (fits sl)) (h.c != v.c) (decide (h.h ≤ v.h)) ((h.h - 1) / v.e != v.h / v.e) (c.h != h.h || c.s != 2 || !c.has || c.b != nameS v.w h) (checkS v.seats c) (benchS v.w sl != h.b)
/-- what is handed back: what is believed, or nothing -/
def AccP (E vc vw ve hh hs : Int) (sl : List Seat) (w : World) (e : Ending) (w' : World) : Prop := ∃ (A : Option Addr) (c : Nat), e = .returned (.tuple #[.agg #[.int .i64 (if E = 0 then vc else 0), .int .i64 (if E = 0 then vw else 0), .int .i64 (if E = 0 then ve else 0), .int .i64 (if E = 0 then hh else 0), .int .u64 (if E = 0 then hs else 0), .slice A (if E = 0 then sl else []).length c], .int .i64 E]) ∧ SeatsL w' w'.heap.size A (if E = 0 then sl else []) ∧ From w.heap.size A ∧ Below w.heap.size w w'
theorem accP_no {E vc vw ve hh hs : Int} {sl : List Seat} {w w' : World} (hE : E ≠ 0) (hb : Below w.heap.size w w') : AccP E vc vw ve hh hs sl w (.returned (.tuple #[.agg #[.int .i64 0, .int .i64 0, .int .i64 0, .int .i64 0, .int .u64 0, .slice none 0 0], .int .i64 E])) w' := by
  refine ⟨none, 0, ?_, ?_, from_none _, hb⟩
  · simp [hE]
  · rw [if_neg hE]
    exact Rd.nil _ _ _ _
theorem accP_yes {vc vw ve hh hs : Int} {sl : List Seat} {A : Option Addr} {c : Nat} {w w' : World} (hr : SeatsL w' w'.heap.size A sl) (hf : From w.heap.size A) (hb : Below w.heap.size w w') : AccP 0 vc vw ve hh hs sl w (.returned (.tuple #[.agg #[.int .i64 vc, .int .i64 vw, .int .i64 ve, .int .i64 hh, .int .u64 hs, .slice A sl.length c], .int .i64 0])) w' :=
  ⟨A, c, by simp, by simpa using hr, hf, hb⟩
set_option maxRecDepth 100000 in
set_option maxHeartbeats 4000000 in
theorem accept_any (vc vw ve vh vs : Int) (vl : List Seat) (vA : Option Addr) (vk : Nat) (hc hh hp ht hg hs hr hb ho : Int) (ch cr cs : Int) (chas : Bool) (cb : Int) (fl : List Int) (fA : Option Addr) (fk : Nat) (sl : List Seat) (sA : Option Addr) (sk : Nat) (B : Nat) (w : World)
    (hv : ViewD.ok ⟨vc, vw, ve, vh, vs, vl, vA, vk⟩) (hvl : SeatsL w B vA vl) (hh0 : HeaderD.ok ⟨hc, hh, hp, ht, hg, hs, hr, hb, ho⟩) (hc0 : CertD.held w B ⟨ch, cr, cs, chas, cb, fl, fA, fk⟩) (hsl : SeatsL w B sA sl) (hB : B ≤ w.heap.size) (hvn : vl.length ≤ 65536) (hsn : sl.length ≤ 65536) (hcm : certM ⟨ch, cr, cs, chas, cb, fl, fA, fk⟩ ≤ 10000000) :
    Calls Try.prog 37 #[.agg #[.int .i64 vc, .int .i64 vw, .int .i64 ve, .int .i64 vh, .int .u64 vs, .slice vA vl.length vk], .agg #[.int .i64 hc, .int .i64 hh, .int .u64 hp, .int .u64 ht, .int .u64 hg, .int .u64 hs, .int .u64 hr, .int .u64 hb, .int .i64 ho, .int .i64 ch, .int .i64 cr, .int .i64 cs, .bool chas, .int .u64 cb, .slice fA fl.length fk, .slice sA sl.length sk]] w (AccP (accE ⟨vc, vw, ve, vh, vs, vl, vA, vk⟩ ⟨hc, hh, hp, ht, hg, hs, hr, hb, ho⟩ ⟨ch, cr, cs, chas, cb, fl, fA, fk⟩ sl) vc vw ve hh hs sl w) := by
  have hP1 := fun W h1 h2 h3 h4 => may_any vc vw ve vh vs vl vA vk hc hh hp ht hg hs hr hb ho ch cr cs chas cb fl fA fk sl sA sk B W hv h1 hh0 h2 h3 h4 hvn hsn hcm
  have hP2 : ∀ W, Calls _ _ #[_, .agg #[.int .i64 hc, .int .i64 hh, .int .u64 hp, .int .u64 ht, .int .u64 hg, .int .u64 hs, .int .u64 hr, .int .u64 hb, .int .i64 ho]] W _ := fun W => lname_any vw ⟨hc, hh, hp, ht, hg, hs, hr, hb, ho⟩ hh0 W
  have hP3 : ∀ W, Seats W B vA vl → CertD.held W B ⟨ch, cr, cs, chas, cb, fl, fA, fk⟩ → B ≤ W.heap.size → Calls _ _ #[_, .agg #[.int .i64 ch, .int .i64 cr, .int .i64 cs, .bool chas, .int .u64 cb, .slice fA fl.length fk]] W _ := fun W h h' hb => check_any vl vA vk B ⟨ch, cr, cs, chas, cb, fl, fA, fk⟩ W h h' hb (by unfold maxLen; omega) hcm
  have hP4 := fun W h hb => bdigest_any vw sl sA sk B W h hb hsn
  obtain ⟨E, hE⟩ : ∃ E, E = accE ⟨vc, vw, ve, vh, vs, vl, vA, vk⟩ ⟨hc, hh, hp, ht, hg, hs, hr, hb, ho⟩ ⟨ch, cr, cs, chas, cb, fl, fA, fk⟩ sl := ⟨_, rfl⟩
  rw [← hE]
  have HE := Lib.hid hE
  clear hE
  unfold accE at HE
  simp only at HE
  have hbd := Lib.hid (fun h : (mayS (evS ⟨vc, vw, ve, vh, vs, vl, vA, vk⟩) (ehS ⟨hc, hh, hp, ht, hg, hs, hr, hb, ho⟩) (ecS ⟨ch, cr, cs, chas, cb, fl, fA, fk⟩) (ebS sl) (fits vl) (fits sl)) = 0 => may_zero h)
  have hbd1 := Lib.hid (fun h : evS ⟨vc, vw, ve, vh, vs, vl, vA, vk⟩ = 0 => view_zero h)
  have hbd2 := Lib.hid (fun h : ehS ⟨hc, hh, hp, ht, hg, hs, hr, hb, ho⟩ = 0 => header_zero h)
  have hbd3 := Lib.hid (fun h : fits sl = true => fits_short h)
  generalize (mayS (evS ⟨vc, vw, ve, vh, vs, vl, vA, vk⟩) (ehS ⟨hc, hh, hp, ht, hg, hs, hr, hb, ho⟩) (ecS ⟨ch, cr, cs, chas, cb, fl, fA, fk⟩) (ebS sl) (fits vl) (fits sl)) = M at *
  generalize evS ⟨vc, vw, ve, vh, vs, vl, vA, vk⟩ = ev at *
  generalize ehS ⟨hc, hh, hp, ht, hg, hs, hr, hb, ho⟩ = eh at *
  generalize fits vl = f1 at *
  generalize fits sl = f2 at *
  generalize nameS vw ⟨hc, hh, hp, ht, hg, hs, hr, hb, ho⟩ = N at *
  generalize checkS vl ⟨ch, cr, cs, chas, cb, fl, fA, fk⟩ = K at *
  generalize benchS vw sl = Dg at *
  have hX : Blk (((w.alloc (.cells #[.int .i64 vc, .int .i64 vw, .int .i64 ve, .int .i64 vh, .int .u64 vs, .slice vA vl.length vk] 82)).alloc (.cells #[.int .i64 hc, .int .i64 hh, .int .u64 hp, .int .u64 ht, .int .u64 hg, .int .u64 hs, .int .u64 hr, .int .u64 hb, .int .i64 ho, .int .i64 ch, .int .i64 cr, .int .i64 cs, .bool chas, .int .u64 cb, .slice fA fl.length fk, .slice sA sl.length sk] 85)).alloc (.cells #[.int .i64 0, .int .i64 0, .int .i64 0, .int .i64 0, .int .u64 0, .slice none 0 0] 82)) w.heap.size 82 #[.int .i64 vc, .int .i64 vw, .int .i64 ve, .int .i64 vh, .int .u64 vs, .slice vA vl.length vk] := ((Blk.new w 82 #[.int .i64 vc, .int .i64 vw, .int .i64 ve, .int .i64 vh, .int .u64 vs, .slice vA vl.length vk]).alloc _).alloc _
  have hY : Blk (((w.alloc (.cells #[.int .i64 vc, .int .i64 vw, .int .i64 ve, .int .i64 vh, .int .u64 vs, .slice vA vl.length vk] 82)).alloc (.cells #[.int .i64 hc, .int .i64 hh, .int .u64 hp, .int .u64 ht, .int .u64 hg, .int .u64 hs, .int .u64 hr, .int .u64 hb, .int .i64 ho, .int .i64 ch, .int .i64 cr, .int .i64 cs, .bool chas, .int .u64 cb, .slice fA fl.length fk, .slice sA sl.length sk] 85)).alloc (.cells #[.int .i64 0, .int .i64 0, .int .i64 0, .int .i64 0, .int .u64 0, .slice none 0 0] 82)) (w.heap.size + 1) 85 #[.int .i64 hc, .int .i64 hh, .int .u64 hp, .int .u64 ht, .int .u64 hg, .int .u64 hs, .int .u64 hr, .int .u64 hb, .int .i64 ho, .int .i64 ch, .int .i64 cr, .int .i64 cs, .bool chas, .int .u64 cb, .slice fA fl.length fk, .slice sA sl.length sk] := by
    have := (Blk.new (w.alloc (.cells #[.int .i64 vc, .int .i64 vw, .int .i64 ve, .int .i64 vh, .int .u64 vs, .slice vA vl.length vk] 82)) 85 #[.int .i64 hc, .int .i64 hh, .int .u64 hp, .int .u64 ht, .int .u64 hg, .int .u64 hs, .int .u64 hr, .int .u64 hb, .int .i64 ho, .int .i64 ch, .int .i64 cr, .int .i64 cs, .bool chas, .int .u64 cb, .slice fA fl.length fk, .slice sA sl.length sk]).alloc (.cells #[.int .i64 0, .int .i64 0, .int .i64 0, .int .i64 0, .int .u64 0, .slice none 0 0] 82)
    simpa using this
  have hR : Blk (((w.alloc (.cells #[.int .i64 vc, .int .i64 vw, .int .i64 ve, .int .i64 vh, .int .u64 vs, .slice vA vl.length vk] 82)).alloc (.cells #[.int .i64 hc, .int .i64 hh, .int .u64 hp, .int .u64 ht, .int .u64 hg, .int .u64 hs, .int .u64 hr, .int .u64 hb, .int .i64 ho, .int .i64 ch, .int .i64 cr, .int .i64 cs, .bool chas, .int .u64 cb, .slice fA fl.length fk, .slice sA sl.length sk] 85)).alloc (.cells #[.int .i64 0, .int .i64 0, .int .i64 0, .int .i64 0, .int .u64 0, .slice none 0 0] 82)) (w.heap.size + 2) 82 #[.int .i64 0, .int .i64 0, .int .i64 0, .int .i64 0, .int .u64 0, .slice none 0 0] := by
    have := Blk.new ((w.alloc (.cells #[.int .i64 vc, .int .i64 vw, .int .i64 ve, .int .i64 vh, .int .u64 vs, .slice vA vl.length vk] 82)).alloc (.cells #[.int .i64 hc, .int .i64 hh, .int .u64 hp, .int .u64 ht, .int .u64 hg, .int .u64 hs, .int .u64 hr, .int .u64 hb, .int .i64 ho, .int .i64 ch, .int .i64 cr, .int .i64 cs, .bool chas, .int .u64 cb, .slice fA fl.length fk, .slice sA sl.length sk] 85)) 82 #[.int .i64 0, .int .i64 0, .int .i64 0, .int .i64 0, .int .u64 0, .slice none 0 0]
    simpa using this
  have hB0 : Below w.heap.size w (((w.alloc (.cells #[.int .i64 vc, .int .i64 vw, .int .i64 ve, .int .i64 vh, .int .u64 vs, .slice vA vl.length vk] 82)).alloc (.cells #[.int .i64 hc, .int .i64 hh, .int .u64 hp, .int .u64 ht, .int .u64 hg, .int .u64 hs, .int .u64 hr, .int .u64 hb, .int .i64 ho, .int .i64 ch, .int .i64 cr, .int .i64 cs, .bool chas, .int .u64 cb, .slice fA fl.length fk, .slice sA sl.length sk] 85)).alloc (.cells #[.int .i64 0, .int .i64 0, .int .i64 0, .int .i64 0, .int .u64 0, .slice none 0 0] 82)) := (((Below.refl _ _).alloc (Nat.le_refl _) _).alloc (by simp) _).alloc (by simp; omega) _
  go_enter Try.func37, Try.ntmps37
  go_upto_region 1 with fail
  generalize (((w.alloc (.cells #[.int .i64 vc, .int .i64 vw, .int .i64 ve, .int .i64 vh, .int .u64 vs, .slice vA vl.length vk] 82)).alloc (.cells #[.int .i64 hc, .int .i64 hh, .int .u64 hp, .int .u64 ht, .int .u64 hg, .int .u64 hs, .int .u64 hr, .int .u64 hb, .int .i64 ho, .int .i64 ch, .int .i64 cr, .int .i64 cs, .bool chas, .int .u64 cb, .slice fA fl.length fk, .slice sA sl.length sk] 85)).alloc (.cells #[.int .i64 0, .int .i64 0, .int .i64 0, .int .i64 0, .int .u64 0, .slice none 0 0] 82)) = w0 at *
  have x0 := (hX.cell 0).trans (show _ = some (Value.int .i64 vc) from rfl)
  have x1 := (hX.cell 1).trans (show _ = some (Value.int .i64 vw) from rfl)
  have x2 := (hX.cell 2).trans (show _ = some (Value.int .i64 ve) from rfl)
  have x3 := (hX.cell 3).trans (show _ = some (Value.int .i64 vh) from rfl)
  have x4 := (hX.cell 4).trans (show _ = some (Value.int .u64 vs) from rfl)
  have x5 := (hX.cell 5).trans (show _ = some (Value.slice vA vl.length vk) from rfl)
  have y0 := (hY.cell 0).trans (show _ = some (Value.int .i64 hc) from rfl)
  have y1 := (hY.cell 1).trans (show _ = some (Value.int .i64 hh) from rfl)
  have y2 := (hY.cell 2).trans (show _ = some (Value.int .u64 hp) from rfl)
  have y3 := (hY.cell 3).trans (show _ = some (Value.int .u64 ht) from rfl)
  have y4 := (hY.cell 4).trans (show _ = some (Value.int .u64 hg) from rfl)
  have y5 := (hY.cell 5).trans (show _ = some (Value.int .u64 hs) from rfl)
  have y6 := (hY.cell 6).trans (show _ = some (Value.int .u64 hr) from rfl)
  have y7 := (hY.cell 7).trans (show _ = some (Value.int .u64 hb) from rfl)
  have y8 := (hY.cell 8).trans (show _ = some (Value.int .i64 ho) from rfl)
  have y9 := (hY.cell 9).trans (show _ = some (Value.int .i64 ch) from rfl)
  have y10 := (hY.cell 10).trans (show _ = some (Value.int .i64 cr) from rfl)
  have y11 := (hY.cell 11).trans (show _ = some (Value.int .i64 cs) from rfl)
  have y12 := (hY.cell 12).trans (show _ = some (Value.bool chas) from rfl)
  have y13 := (hY.cell 13).trans (show _ = some (Value.int .u64 cb) from rfl)
  have y14 := (hY.cell 14).trans (show _ = some (Value.slice fA fl.length fk) from rfl)
  have y15 := (hY.cell 15).trans (show _ = some (Value.slice sA sl.length sk) from rfl)
  go_wp2_with fail
  refine (hP1 _ (Rd.below hvl (hB0.mono hB)) (hc0.below (hB0.mono hB)) (Rd.below hsl (hB0.mono hB)) (by have := hB0.size; omega)).mono ?_
  rintro e wq ⟨rfl, hq⟩
  clear hP1 x0 x1 x2 x3 x4 x5 y0 y1 y2 y3 y4 y5 y6 y7 y8 y9 y10 y11 y12 y13 y14 y15
  replace hX := hX.below hq hX.lt
  replace hY := hY.below hq hY.lt
  replace hR := hR.below hq hR.lt
  replace hB0 := hB0.trans (hq.mono hB0.size)
  clear hq
  by_cases hm : M = 0
  · have b0 := bne_no hm
    obtain ⟨m1, m2, m3, m4⟩ := hbd.out hm
    obtain ⟨⟨v1, v2⟩, v3, v4⟩ := hbd1.out m1
    obtain ⟨h1, h2⟩ := hbd2.out m2
    obtain ⟨n1, n2⟩ := hbd3.out m4
    clear hbd hbd1 hbd2 hbd3 m1 m2 m3 m4
    have y0 := (hY.cell 0).trans (show _ = some (Value.int .i64 hc) from rfl)
    have y1 := (hY.cell 1).trans (show _ = some (Value.int .i64 hh) from rfl)
    have y2 := (hY.cell 2).trans (show _ = some (Value.int .u64 hp) from rfl)
    have y3 := (hY.cell 3).trans (show _ = some (Value.int .u64 ht) from rfl)
    have y4 := (hY.cell 4).trans (show _ = some (Value.int .u64 hg) from rfl)
    have y5 := (hY.cell 5).trans (show _ = some (Value.int .u64 hs) from rfl)
    have y6 := (hY.cell 6).trans (show _ = some (Value.int .u64 hr) from rfl)
    have y7 := (hY.cell 7).trans (show _ = some (Value.int .u64 hb) from rfl)
    have y8 := (hY.cell 8).trans (show _ = some (Value.int .i64 ho) from rfl)
    go_upto_region 5 with fail
    have hH : Blk (wq.alloc (.cells #[.int .i64 hc, .int .i64 hh, .int .u64 hp, .int .u64 ht, .int .u64 hg, .int .u64 hs, .int .u64 hr, .int .u64 hb, .int .i64 ho] 27)) wq.heap.size 27 #[.int .i64 hc, .int .i64 hh, .int .u64 hp, .int .u64 ht, .int .u64 hg, .int .u64 hs, .int .u64 hr, .int .u64 hb, .int .i64 ho] := Blk.new _ _ _
    have hq := (Below.refl wq.heap.size wq).alloc (Nat.le_refl _) (.cells #[.int .i64 hc, .int .i64 hh, .int .u64 hp, .int .u64 ht, .int .u64 hg, .int .u64 hs, .int .u64 hr, .int .u64 hb, .int .i64 ho] 27)
    have hG : w.heap.size + 2 < wq.heap.size := hR.lt
    clear y0 y1 y2 y3 y4 y5 y6 y7 y8
    replace hX := hX.below hq hX.lt
    replace hY := hY.below hq hY.lt
    replace hR := hR.below hq hR.lt
    replace hB0 := hB0.trans (hq.mono hB0.size)
    clear hq
    generalize wq.alloc (.cells #[.int .i64 hc, .int .i64 hh, .int .u64 hp, .int .u64 ht, .int .u64 hg, .int .u64 hs, .int .u64 hr, .int .u64 hb, .int .i64 ho] 27) = w1 at *
    generalize wq.heap.size = G at *
    clear wq
    have x0 := (hX.cell 0).trans (show _ = some (Value.int .i64 vc) from rfl)
    have x1 := (hX.cell 1).trans (show _ = some (Value.int .i64 vw) from rfl)
    have x2 := (hX.cell 2).trans (show _ = some (Value.int .i64 ve) from rfl)
    have x3 := (hX.cell 3).trans (show _ = some (Value.int .i64 vh) from rfl)
    have g0 := (hH.cell 0).trans (show _ = some (Value.int .i64 hc) from rfl)
    have g1 := (hH.cell 1).trans (show _ = some (Value.int .i64 hh) from rfl)
    have g2 := (hH.cell 2).trans (show _ = some (Value.int .u64 hp) from rfl)
    have g3 := (hH.cell 3).trans (show _ = some (Value.int .u64 ht) from rfl)
    have g4 := (hH.cell 4).trans (show _ = some (Value.int .u64 hg) from rfl)
    have g5 := (hH.cell 5).trans (show _ = some (Value.int .u64 hs) from rfl)
    have g6 := (hH.cell 6).trans (show _ = some (Value.int .u64 hr) from rfl)
    have g7 := (hH.cell 7).trans (show _ = some (Value.int .u64 hb) from rfl)
    have g8 := (hH.cell 8).trans (show _ = some (Value.int .i64 ho) from rfl)
    by_cases hc1 : hc = vc
    · have b1 := bne_no hc1
      clear hc1
      by_cases hc2 : hh ≤ vh
      · have b2 : decide (hh ≤ vh) = true := decide_eq_true hc2
        obtain rfl : E = 19 := by rw [HE.out]; (try rw [b2]); simp [accB, hm, b1, hc2]
        have HR := Lib.hid ((((((hR.set_ 0 (.int .i64 0)).set_ 1 (.int .i64 0)).set_ 2 (.int .i64 0)).set_ 3 (.int .i64 0)).set_ 4 (.int .u64 0)).set_ 5 (.slice none 0 0))
        have f := hR.frozen
        have a0 := (hR.cell 0).trans (show _ = some (Value.int .i64 0) from rfl)
        have a1 := (hR.cell 1).trans (show _ = some (Value.int .i64 0) from rfl)
        have a2 := (hR.cell 2).trans (show _ = some (Value.int .i64 0) from rfl)
        have a3 := (hR.cell 3).trans (show _ = some (Value.int .i64 0) from rfl)
        have a4 := (hR.cell 4).trans (show _ = some (Value.int .u64 0) from rfl)
        have a5 := (hR.cell 5).trans (show _ = some (Value.slice none 0 0) from rfl)
        go_wp2_with fail
        have hRR := HR.out
        have z0 := (hRR.cell 0).trans (show _ = some (Value.int .i64 0) from rfl)
        have z1 := (hRR.cell 1).trans (show _ = some (Value.int .i64 0) from rfl)
        have z2 := (hRR.cell 2).trans (show _ = some (Value.int .i64 0) from rfl)
        have z3 := (hRR.cell 3).trans (show _ = some (Value.int .i64 0) from rfl)
        have z4 := (hRR.cell 4).trans (show _ = some (Value.int .u64 0) from rfl)
        have z5 := (hRR.cell 5).trans (show _ = some (Value.slice none 0 0) from rfl)
        refine bodyPost_ret (v := .tuple #[.agg #[.int .i64 0, .int .i64 0, .int .i64 0, .int .i64 0, .int .u64 0, .slice none 0 0], .int .i64 19]) (by simp [results, Try.results37, go_sem, z0, z1, z2, z3, z4, z5]) rfl (accP_no (by first | decide | assumption) ?_)
        repeat (first | with_reducible refine Below.setCell ?_ (by dsimp only; omega) _ | with_reducible refine Below.drew ?_)
        exact hB0
      · have b2 : decide (hh ≤ vh) = false := decide_eq_false hc2
        have hw1 : IntKind.i64.wrap (vh + 1) = vh + 1 := IntWalk.i64_in _ (by omega)
        have hE1 := fun W => lepoch_any hh ve W (by omega) (by omega) v3 (by omega)
        have hE2 := fun W => lepoch_any (vh + 1) ve W (by omega) (by omega) v3 (by omega)
        rw [show vh + 1 - 1 = vh by omega] at hE2
        obtain ⟨q1, hq1⟩ : ∃ q, q = (hh - 1) / ve := ⟨_, rfl⟩
        obtain ⟨q2, hq2⟩ : ∃ q, q = vh / ve := ⟨_, rfl⟩
        rw [← hq1, ← hq2] at HE
        rw [← hq1] at hE1
        rw [← hq2] at hE2
        clear hq1 hq2
        by_cases hc3 : q1 = q2
        · have b3 := bne_no hc3
          clear hc3
          go_upto_region 9 with fail
          go_quiet (first
            | (go_at_call 39; refine Calls.quiet_of_same ((hE1 _).mono fun e w' h => ⟨h.1, h.2.symm⟩))
            | (go_at_call 39; refine Calls.quiet_of_same ((hE2 _).mono fun e w' h => ⟨h.1, h.2.symm⟩)))
          clear hE1 hE2 x0 x1 x2 x3 g0 g1 g2 g3 g4 g5 g6 g7 g8
          replace hX := Blk.drewN hX nq
          replace hY := Blk.drewN hY nq
          replace hR := Blk.drewN hR nq
          replace hH := Blk.drewN hH nq
          replace hB0 := hB0.drewN nq
          generalize World.drewN w1 nq = w2 at *
          clear nq
          go_upto_region 11 with fail
          have y9 := (hY.cell 9).trans (show _ = some (Value.int .i64 ch) from rfl)
          have y11 := (hY.cell 11).trans (show _ = some (Value.int .i64 cs) from rfl)
          have y12 := (hY.cell 12).trans (show _ = some (Value.bool chas) from rfl)
          have y13 := (hY.cell 13).trans (show _ = some (Value.int .u64 cb) from rfl)
          have x1 := (hX.cell 1).trans (show _ = some (Value.int .i64 vw) from rfl)
          have g0 := (hH.cell 0).trans (show _ = some (Value.int .i64 hc) from rfl)
          have g1 := (hH.cell 1).trans (show _ = some (Value.int .i64 hh) from rfl)
          have g2 := (hH.cell 2).trans (show _ = some (Value.int .u64 hp) from rfl)
          have g3 := (hH.cell 3).trans (show _ = some (Value.int .u64 ht) from rfl)
          have g4 := (hH.cell 4).trans (show _ = some (Value.int .u64 hg) from rfl)
          have g5 := (hH.cell 5).trans (show _ = some (Value.int .u64 hs) from rfl)
          have g6 := (hH.cell 6).trans (show _ = some (Value.int .u64 hr) from rfl)
          have g7 := (hH.cell 7).trans (show _ = some (Value.int .u64 hb) from rfl)
          have g8 := (hH.cell 8).trans (show _ = some (Value.int .i64 ho) from rfl)
          by_cases hc4 : ch = hh
          · have b4 := bne_no hc4
            clear hc4
            by_cases hc5 : cs = 2
            · have b5 := bne_no hc5
              clear hc5
              cases chas with
              | true =>
                have KS := Lib.hid (fun (W : World) (h : Below w2.heap.size w2 W) => (show (W.cell? ⟨w.heap.size + 1, 9, none⟩ = some (.int .i64 ch) ∧ W.cell? ⟨w.heap.size + 1, 11, none⟩ = some (.int .i64 cs) ∧ W.cell? ⟨w.heap.size + 1, 12, none⟩ = some (.bool true) ∧ W.cell? ⟨w.heap.size + 1, 13, none⟩ = some (.int .u64 cb) ∧ W.cell? ⟨w.heap.size, 1, none⟩ = some (.int .i64 vw) ∧ W.cell? ⟨G, 0, none⟩ = some (.int .i64 hc) ∧ W.cell? ⟨G, 1, none⟩ = some (.int .i64 hh) ∧ W.cell? ⟨G, 2, none⟩ = some (.int .u64 hp) ∧ W.cell? ⟨G, 3, none⟩ = some (.int .u64 ht) ∧ W.cell? ⟨G, 4, none⟩ = some (.int .u64 hg) ∧ W.cell? ⟨G, 5, none⟩ = some (.int .u64 hs) ∧ W.cell? ⟨G, 6, none⟩ = some (.int .u64 hr) ∧ W.cell? ⟨G, 7, none⟩ = some (.int .u64 hb) ∧ W.cell? ⟨G, 8, none⟩ = some (.int .i64 ho)) ∧ Below w2.heap.size w2 W from ⟨⟨(h.cell (p := ⟨w.heap.size + 1, 9, none⟩) hY.lt).trans y9, (h.cell (p := ⟨w.heap.size + 1, 11, none⟩) hY.lt).trans y11, (h.cell (p := ⟨w.heap.size + 1, 12, none⟩) hY.lt).trans y12, (h.cell (p := ⟨w.heap.size + 1, 13, none⟩) hY.lt).trans y13, (h.cell (p := ⟨w.heap.size, 1, none⟩) hX.lt).trans x1, (h.cell (p := ⟨G, 0, none⟩) hH.lt).trans g0, (h.cell (p := ⟨G, 1, none⟩) hH.lt).trans g1, (h.cell (p := ⟨G, 2, none⟩) hH.lt).trans g2, (h.cell (p := ⟨G, 3, none⟩) hH.lt).trans g3, (h.cell (p := ⟨G, 4, none⟩) hH.lt).trans g4, (h.cell (p := ⟨G, 5, none⟩) hH.lt).trans g5, (h.cell (p := ⟨G, 6, none⟩) hH.lt).trans g6, (h.cell (p := ⟨G, 7, none⟩) hH.lt).trans g7, (h.cell (p := ⟨G, 8, none⟩) hH.lt).trans g8⟩, h⟩))
                obtain ⟨b6, hb6⟩ : ∃ b, b = (cb != N) := ⟨_, rfl⟩
                have HB6 := Lib.hid hb6
                clear hb6
                go_cut [46] from 47 to 74 (fun z wx => z = .bool b6 ∧ Below w2.heap.size w2 wx)
                case first =>
                  go_region_held3 (fun W => (W.cell? ⟨w.heap.size + 1, 9, none⟩ = some (.int .i64 ch) ∧ W.cell? ⟨w.heap.size + 1, 11, none⟩ = some (.int .i64 cs) ∧ W.cell? ⟨w.heap.size + 1, 12, none⟩ = some (.bool true) ∧ W.cell? ⟨w.heap.size + 1, 13, none⟩ = some (.int .u64 cb) ∧ W.cell? ⟨w.heap.size, 1, none⟩ = some (.int .i64 vw) ∧ W.cell? ⟨G, 0, none⟩ = some (.int .i64 hc) ∧ W.cell? ⟨G, 1, none⟩ = some (.int .i64 hh) ∧ W.cell? ⟨G, 2, none⟩ = some (.int .u64 hp) ∧ W.cell? ⟨G, 3, none⟩ = some (.int .u64 ht) ∧ W.cell? ⟨G, 4, none⟩ = some (.int .u64 hg) ∧ W.cell? ⟨G, 5, none⟩ = some (.int .u64 hs) ∧ W.cell? ⟨G, 6, none⟩ = some (.int .u64 hr) ∧ W.cell? ⟨G, 7, none⟩ = some (.int .u64 hb) ∧ W.cell? ⟨G, 8, none⟩ = some (.int .i64 ho)) ∧ Below w2.heap.size w2 W) (refine KS.out _ ?_ <;> with_reducible first | exact Below.refl _ _ | exact Below.drew (Below.refl _ _) | exact hk4.out | exact And.right (by assumption) | exact Below.drew (And.right (by assumption))) (first
                    | (go_at_call 35
                       with_reducible refine (hP2 _).mono ?_
                       rintro e w4 ⟨rfl, hb4⟩
                       have hk4 : Hid (Below w2.heap.size w2 w4) := (Below.drew (Below.refl w2.heap.size w2)).trans (hb4.mono (Nat.le_refl _))))
                  all_goals
                    go_wp2_with fail
                    go_meet
                    case rel => exact ⟨by rw [HB6.out], hk4.out⟩
                case rest =>
                  obtain ⟨rfl, hq⟩ := hcut
                  clear KS hP2 y9 y11 y12 y13 x1 g0 g1 g2 g3 g4 g5 g6 g7 g8
                  replace hX := hX.below hq hX.lt
                  replace hY := hY.below hq hY.lt
                  replace hR := hR.below hq hR.lt
                  replace hH := hH.below hq hH.lt
                  replace hB0 := hB0.trans (hq.mono hB0.size)
                  clear hq
                  generalize hWc : wc = w3 at *
                  clear hWc
                  rw [← HB6.out] at HE
                  clear HB6
                  cases b6 with
                  | false =>
                    have x5 := (hX.cell 5).trans (show _ = some (Value.slice vA vl.length vk) from rfl)
                    have y9 := (hY.cell 9).trans (show _ = some (Value.int .i64 ch) from rfl)
                    have y10 := (hY.cell 10).trans (show _ = some (Value.int .i64 cr) from rfl)
                    have y11 := (hY.cell 11).trans (show _ = some (Value.int .i64 cs) from rfl)
                    have y12 := (hY.cell 12).trans (show _ = some (Value.bool true) from rfl)
                    have y13 := (hY.cell 13).trans (show _ = some (Value.int .u64 cb) from rfl)
                    have y14 := (hY.cell 14).trans (show _ = some (Value.slice fA fl.length fk) from rfl)
                    go_wp2_with fail
                    refine (hP3 _ (Rd.below hvl (hB0.mono hB)) (hc0.below (hB0.mono hB)) (by have := hB0.size; omega)).mono ?_
                    rintro e wq ⟨rfl, hq⟩
                    clear x5 y9 y10 y11 y12 y13 y14 hP3
                    replace hX := hX.below hq hX.lt
                    replace hY := hY.below hq hY.lt
                    replace hR := hR.below hq hR.lt
                    replace hH := hH.below hq hH.lt
                    replace hB0 := hB0.trans (hq.mono hB0.size)
                    clear hq
                    by_cases hK : K = 0
                    · have bK := bne_no hK
                      have x1 := (hX.cell 1).trans (show _ = some (Value.int .i64 vw) from rfl)
                      have y15 := (hY.cell 15).trans (show _ = some (Value.slice sA sl.length sk) from rfl)
                      have g7 := (hH.cell 7).trans (show _ = some (Value.int .u64 hb) from rfl)
                      go_upto_region 16 with fail
                      have KS := Lib.hid (fun (W : World) (h : Below wq.heap.size wq W) => (show (W.cell? ⟨w.heap.size, 1, none⟩ = some (.int .i64 vw) ∧ W.cell? ⟨w.heap.size + 1, 15, none⟩ = some (.slice sA sl.length sk) ∧ W.cell? ⟨G, 7, none⟩ = some (.int .u64 hb)) ∧ Below wq.heap.size wq W from ⟨⟨(h.cell (p := ⟨w.heap.size, 1, none⟩) hX.lt).trans x1, (h.cell (p := ⟨w.heap.size + 1, 15, none⟩) hY.lt).trans y15, (h.cell (p := ⟨G, 7, none⟩) hH.lt).trans g7⟩, h⟩))
                      have HP := Lib.hid (fun (W : World) (h : Below wq.heap.size wq W) => hP4 W (Rd.below hsl ((hB0.trans (h.mono hB0.size)).mono hB)) (by have := hB0.size; have := h.size; omega))
                      obtain ⟨b7, hb7⟩ : ∃ b, b = (Dg != hb) := ⟨_, rfl⟩
                      have HB7 := Lib.hid hb7
                      clear hb7
                      go_cut [92] from 85 to 91 (fun z wx => z = .bool b7 ∧ Below wq.heap.size wq wx)
                      case first =>
                        go_region_held3 (fun W => (W.cell? ⟨w.heap.size, 1, none⟩ = some (.int .i64 vw) ∧ W.cell? ⟨w.heap.size + 1, 15, none⟩ = some (.slice sA sl.length sk) ∧ W.cell? ⟨G, 7, none⟩ = some (.int .u64 hb)) ∧ Below wq.heap.size wq W) (refine KS.out _ ?_ <;> with_reducible first | exact Below.refl _ _ | exact Below.drew (Below.refl _ _) | exact hk4.out | exact And.right (by assumption) | exact Below.drew (And.right (by assumption))) (first
                          | (go_at_call 79
                             with_reducible refine (HP.out _ (by first | exact Below.drew (Below.refl _ _) | exact And.right (by assumption))).mono ?_
                             rintro e w4 ⟨rfl, hb4⟩
                             have hk4 : Hid (Below wq.heap.size wq w4) := (Below.drew (Below.refl wq.heap.size wq)).trans (hb4.mono (Nat.le_refl _))))
                        all_goals
                          go_wp2_with fail
                          go_meet
                          case rel => exact ⟨by rw [HB7.out], hk4.out⟩
                      case rest =>
                        obtain ⟨rfl, hq⟩ := hcut
                        clear KS HP x1 y15 g7 hP4
                        replace hX := hX.below hq hX.lt
                        replace hY := hY.below hq hY.lt
                        replace hR := hR.below hq hR.lt
                        replace hH := hH.below hq hH.lt
                        replace hB0 := hB0.trans (hq.mono hB0.size)
                        clear hq
                        generalize hWc : wc = w5 at *
                        clear hWc
                        rw [← HB7.out] at HE
                        clear HB7
                        cases b7 with
                        | false =>
                          obtain rfl : E = 0 := by rw [HE.out]; (try rw [b2]); simp [accB, hm, b1, hc2, b3, b4, b5, hK]
                          have g1 := (hH.cell 1).trans (show _ = some (Value.int .i64 hh) from rfl)
                          have g5 := (hH.cell 5).trans (show _ = some (Value.int .u64 hs) from rfl)
                          have y15 := (hY.cell 15).trans (show _ = some (Value.slice sA sl.length sk) from rfl)
                          have hn : ¬ G = w.heap.size := by omega
                          have hn2 : ¬ w.heap.size = G := by omega
                          have hw5 : w.heap.size + 2 < w5.heap.size := hR.lt
                          have hsq : SeatsL w5.drew B sA sl := Rd.below hsl ((hB0.drew).mono hB)
                          go_upto_region 18 with fail
                          go_cut [] from 94 to 103 (fun wx => ∃ (rA : Option Addr) (rc : Nat), Blk wx w.heap.size 82 #[.int .i64 vc, .int .i64 vw, .int .i64 ve, .int .i64 hh, .int .u64 hs, .slice rA sl.length rc] ∧ wx.ownsRow w5.heap.size 147 2 (.slice rA sl.length rc) sl.length (sl.flatMap seatCells) ∧ Blk wx (w.heap.size + 2) 82 #[.int .i64 0, .int .i64 0, .int .i64 0, .int .i64 0, .int .u64 0, .slice none 0 0] ∧ Below w.heap.size w wx)
                          case first =>
                            obtain ⟨i0, hi0, hz0, hz1, hz2⟩ := info_parts seatInfo
                            go_region_held3 (fun W => W.cell? ⟨G, 1, none⟩ = some (.int .i64 hh) ∧ W.cell? ⟨G, 5, none⟩ = some (.int .u64 hs) ∧ W.cell? ⟨w.heap.size + 1, 15, none⟩ = some (.slice sA sl.length sk)) (go_keep) (first
                              | (refine step_append_any _ (by rfl) (.const (.slice none 0 0)) (.tmp 99) 80 (by rfl) w5.heap.size 147 i0 _ 2 16 Try.underlying80 hi0 hz0 hz1 hz2 rfl (by omega) (.slice none 0 0) 0 [] (by rfl) (World.ownsRow_nil _ _ _ _) B sA sl.length sk (sl.flatMap seatCells) (by rfl) (by exact hsq) (seats_one sl) (by unfold maxLen; omega) (by omega) (Nat.le_refl _) ?_
                                 intro v9 w9 hown9 hg9 hat9
                                 rw [Nat.zero_add, List.nil_append] at hown9
                                 obtain ⟨rA, rc, rfl⟩ := own_shape hown9
                                 have hX9 := (Blk.drew hX).grown hg9 (fun h => by cases h)
                                 have hR9 := (Blk.drew hR).grown hg9 (fun h => by cases h)
                                 have hH9 := (Blk.drew hH).grown hg9 (fun h => by cases h)
                                 have hY9 := (Blk.drew hY).grown hg9 (fun h => by cases h)
                                 have hb9 : Below w.heap.size w w9 := (hB0.drew).grown hg9 hB0.size (fun k h => by cases h)
                                 have k1 := (hH9.cell 1).trans (show _ = some (Value.int .i64 hh) from rfl)
                                 have k5 := (hH9.cell 5).trans (show _ = some (Value.int .u64 hs) from rfl)
                                 have k15 := (hY9.cell 15).trans (show _ = some (Value.slice sA sl.length sk) from rfl)
                                 have e3 := (hX9.cell 3).trans (show _ = some (Value.int .i64 vh) from rfl)
                                 have e4 := (hX9.cell 4).trans (show _ = some (Value.int .u64 vs) from rfl)
                                 have e5 := (hX9.cell 5).trans (show _ = some (Value.slice vA vl.length vk) from rfl)
                                 have ef := hX9.frozen))
                            all_goals
                              go_wp2_with fail
                              go_meet
                              case rel =>
                                have q3 := hX9.set_ 3 (.int .i64 hh)
                                have q4 := q3.set_ 4 (.int .u64 hs)
                                have o9 := own_farV (own_farV (own_farV hown9 hX9 (by decide) (p := ⟨w.heap.size, 3, none⟩) rfl (.int .i64 hh)) q3 (by decide) (p := ⟨w.heap.size, 4, none⟩) rfl (.int .u64 hs)) q4 (by decide) (p := ⟨w.heap.size, 5, none⟩) rfl (.slice rA sl.length rc)
                                exact ⟨rA, rc, q4.set_ 5 _, o9, (((hR9.far (p := ⟨w.heap.size, 3, none⟩) (by simp) _).far (p := ⟨w.heap.size, 4, none⟩) (by simp) _).far (p := ⟨w.heap.size, 5, none⟩) (by simp) _), (((hb9.setCell (p := ⟨w.heap.size, 3, none⟩) (Nat.le_refl _) _).setCell (p := ⟨w.heap.size, 4, none⟩) (Nat.le_refl _) _).setCell (p := ⟨w.heap.size, 5, none⟩) (Nat.le_refl _) _)⟩
                          case rest =>
                            obtain ⟨rA, rc, hX, hsr, hR, hB0⟩ := hcut
                            have x0 := (hX.cell 0).trans (show _ = some (Value.int .i64 vc) from rfl)
                            have x1 := (hX.cell 1).trans (show _ = some (Value.int .i64 vw) from rfl)
                            have x2 := (hX.cell 2).trans (show _ = some (Value.int .i64 ve) from rfl)
                            have x3 := (hX.cell 3).trans (show _ = some (Value.int .i64 hh) from rfl)
                            have x4 := (hX.cell 4).trans (show _ = some (Value.int .u64 hs) from rfl)
                            have x5 := (hX.cell 5).trans (show _ = some (Value.slice rA sl.length rc) from rfl)
                            have f := hR.frozen
                            have a0 := (hR.cell 0).trans (show _ = some (Value.int .i64 0) from rfl)
                            have a1 := (hR.cell 1).trans (show _ = some (Value.int .i64 0) from rfl)
                            have a2 := (hR.cell 2).trans (show _ = some (Value.int .i64 0) from rfl)
                            have a3 := (hR.cell 3).trans (show _ = some (Value.int .i64 0) from rfl)
                            have a4 := (hR.cell 4).trans (show _ = some (Value.int .u64 0) from rfl)
                            have a5 := (hR.cell 5).trans (show _ = some (Value.slice none 0 0) from rfl)
                            have HR := Lib.hid ((((((hR.set_ 0 (.int .i64 vc)).set_ 1 (.int .i64 vw)).set_ 2 (.int .i64 ve)).set_ 3 (.int .i64 hh)).set_ 4 (.int .u64 hs)).set_ 5 (.slice rA sl.length rc))
                            have HS := Lib.hid (own_six hsr hR (by decide) (.int .i64 vc) (.int .i64 vw) (.int .i64 ve) (.int .i64 hh) (.int .u64 hs) (.slice rA sl.length rc))
                            have HB := Lib.hid (below_six2 hB0 (show w.heap.size ≤ w.heap.size + 2 by omega) (.int .i64 vc) (.int .i64 vw) (.int .i64 ve) (.int .i64 hh) (.int .u64 hs) (.slice rA sl.length rc))
                            clear hsr hX hR
                            go_wp2_with fail
                            have hRR := HR.out
                            have z0 := (hRR.cell 0).trans (show _ = some (Value.int .i64 vc) from rfl)
                            have z1 := (hRR.cell 1).trans (show _ = some (Value.int .i64 vw) from rfl)
                            have z2 := (hRR.cell 2).trans (show _ = some (Value.int .i64 ve) from rfl)
                            have z3 := (hRR.cell 3).trans (show _ = some (Value.int .i64 hh) from rfl)
                            have z4 := (hRR.cell 4).trans (show _ = some (Value.int .u64 hs) from rfl)
                            have z5 := (hRR.cell 5).trans (show _ = some (Value.slice rA sl.length rc) from rfl)
                            exact bodyPost_ret (v := .tuple #[.agg #[.int .i64 vc, .int .i64 vw, .int .i64 ve, .int .i64 hh, .int .u64 hs, .slice rA sl.length rc], .int .i64 0]) (by simp [results, Try.results37, go_sem, z0, z1, z2, z3, z4, z5]) rfl (accP_yes (Rd.of_own HS.out) (own_from HS.out (by omega)) HB.out)
                        | true =>
                          obtain rfl : E = 5 := by rw [HE.out]; (try rw [b2]); simp [accB, hm, b1, hc2, b3, b4, b5, hK]
                          have HR := Lib.hid ((((((hR.set_ 0 (.int .i64 0)).set_ 1 (.int .i64 0)).set_ 2 (.int .i64 0)).set_ 3 (.int .i64 0)).set_ 4 (.int .u64 0)).set_ 5 (.slice none 0 0))
                          have f := hR.frozen
                          have a0 := (hR.cell 0).trans (show _ = some (Value.int .i64 0) from rfl)
                          have a1 := (hR.cell 1).trans (show _ = some (Value.int .i64 0) from rfl)
                          have a2 := (hR.cell 2).trans (show _ = some (Value.int .i64 0) from rfl)
                          have a3 := (hR.cell 3).trans (show _ = some (Value.int .i64 0) from rfl)
                          have a4 := (hR.cell 4).trans (show _ = some (Value.int .u64 0) from rfl)
                          have a5 := (hR.cell 5).trans (show _ = some (Value.slice none 0 0) from rfl)
                          go_wp2_with fail
                          have hRR := HR.out
                          have z0 := (hRR.cell 0).trans (show _ = some (Value.int .i64 0) from rfl)
                          have z1 := (hRR.cell 1).trans (show _ = some (Value.int .i64 0) from rfl)
                          have z2 := (hRR.cell 2).trans (show _ = some (Value.int .i64 0) from rfl)
                          have z3 := (hRR.cell 3).trans (show _ = some (Value.int .i64 0) from rfl)
                          have z4 := (hRR.cell 4).trans (show _ = some (Value.int .u64 0) from rfl)
                          have z5 := (hRR.cell 5).trans (show _ = some (Value.slice none 0 0) from rfl)
                          refine bodyPost_ret (v := .tuple #[.agg #[.int .i64 0, .int .i64 0, .int .i64 0, .int .i64 0, .int .u64 0, .slice none 0 0], .int .i64 5]) (by simp [results, Try.results37, go_sem, z0, z1, z2, z3, z4, z5]) rfl (accP_no (by first | decide | assumption) ?_)
                          repeat (first | with_reducible refine Below.setCell ?_ (by dsimp only; omega) _ | with_reducible refine Below.drew ?_)
                          exact hB0
                    · have bK := bne_yes hK
                      obtain rfl : E = K := by rw [HE.out]; (try rw [b2]); simp [accB, hm, b1, hc2, b3, b4, b5, hK]
                      have HR := Lib.hid ((((((hR.set_ 0 (.int .i64 0)).set_ 1 (.int .i64 0)).set_ 2 (.int .i64 0)).set_ 3 (.int .i64 0)).set_ 4 (.int .u64 0)).set_ 5 (.slice none 0 0))
                      have f := hR.frozen
                      have a0 := (hR.cell 0).trans (show _ = some (Value.int .i64 0) from rfl)
                      have a1 := (hR.cell 1).trans (show _ = some (Value.int .i64 0) from rfl)
                      have a2 := (hR.cell 2).trans (show _ = some (Value.int .i64 0) from rfl)
                      have a3 := (hR.cell 3).trans (show _ = some (Value.int .i64 0) from rfl)
                      have a4 := (hR.cell 4).trans (show _ = some (Value.int .u64 0) from rfl)
                      have a5 := (hR.cell 5).trans (show _ = some (Value.slice none 0 0) from rfl)
                      go_wp2_with fail
                      have hRR := HR.out
                      have z0 := (hRR.cell 0).trans (show _ = some (Value.int .i64 0) from rfl)
                      have z1 := (hRR.cell 1).trans (show _ = some (Value.int .i64 0) from rfl)
                      have z2 := (hRR.cell 2).trans (show _ = some (Value.int .i64 0) from rfl)
                      have z3 := (hRR.cell 3).trans (show _ = some (Value.int .i64 0) from rfl)
                      have z4 := (hRR.cell 4).trans (show _ = some (Value.int .u64 0) from rfl)
                      have z5 := (hRR.cell 5).trans (show _ = some (Value.slice none 0 0) from rfl)
                      refine bodyPost_ret (v := .tuple #[.agg #[.int .i64 0, .int .i64 0, .int .i64 0, .int .i64 0, .int .u64 0, .slice none 0 0], .int .i64 E]) (by simp [results, Try.results37, go_sem, z0, z1, z2, z3, z4, z5]) rfl (accP_no (by first | decide | assumption) ?_)
                      repeat (first | with_reducible refine Below.setCell ?_ (by dsimp only; omega) _ | with_reducible refine Below.drew ?_)
                      exact hB0
                  | true =>
                    obtain rfl : E = 5 := by rw [HE.out]; (try rw [b2]); simp [accB, hm, b1, hc2, b3, b4, b5]
                    have HR := Lib.hid ((((((hR.set_ 0 (.int .i64 0)).set_ 1 (.int .i64 0)).set_ 2 (.int .i64 0)).set_ 3 (.int .i64 0)).set_ 4 (.int .u64 0)).set_ 5 (.slice none 0 0))
                    have f := hR.frozen
                    have a0 := (hR.cell 0).trans (show _ = some (Value.int .i64 0) from rfl)
                    have a1 := (hR.cell 1).trans (show _ = some (Value.int .i64 0) from rfl)
                    have a2 := (hR.cell 2).trans (show _ = some (Value.int .i64 0) from rfl)
                    have a3 := (hR.cell 3).trans (show _ = some (Value.int .i64 0) from rfl)
                    have a4 := (hR.cell 4).trans (show _ = some (Value.int .u64 0) from rfl)
                    have a5 := (hR.cell 5).trans (show _ = some (Value.slice none 0 0) from rfl)
                    go_wp2_with fail
                    have hRR := HR.out
                    have z0 := (hRR.cell 0).trans (show _ = some (Value.int .i64 0) from rfl)
                    have z1 := (hRR.cell 1).trans (show _ = some (Value.int .i64 0) from rfl)
                    have z2 := (hRR.cell 2).trans (show _ = some (Value.int .i64 0) from rfl)
                    have z3 := (hRR.cell 3).trans (show _ = some (Value.int .i64 0) from rfl)
                    have z4 := (hRR.cell 4).trans (show _ = some (Value.int .u64 0) from rfl)
                    have z5 := (hRR.cell 5).trans (show _ = some (Value.slice none 0 0) from rfl)
                    refine bodyPost_ret (v := .tuple #[.agg #[.int .i64 0, .int .i64 0, .int .i64 0, .int .i64 0, .int .u64 0, .slice none 0 0], .int .i64 5]) (by simp [results, Try.results37, go_sem, z0, z1, z2, z3, z4, z5]) rfl (accP_no (by first | decide | assumption) ?_)
                    repeat (first | with_reducible refine Below.setCell ?_ (by dsimp only; omega) _ | with_reducible refine Below.drew ?_)
                    exact hB0
              | false =>
                go_quiet (fail)
                clear y9 y11 y12 y13 x1 g0 g1 g2 g3 g4 g5 g6 g7 g8
                replace hX := Blk.drewN hX nq
                replace hY := Blk.drewN hY nq
                replace hR := Blk.drewN hR nq
                replace hH := Blk.drewN hH nq
                replace hB0 := hB0.drewN nq
                generalize World.drewN w2 nq = w3 at *
                clear nq
                obtain rfl : E = 5 := by rw [HE.out]; (try rw [b2]); simp [accB, hm, b1, hc2, b3, b4, b5]
                have HR := Lib.hid ((((((hR.set_ 0 (.int .i64 0)).set_ 1 (.int .i64 0)).set_ 2 (.int .i64 0)).set_ 3 (.int .i64 0)).set_ 4 (.int .u64 0)).set_ 5 (.slice none 0 0))
                have f := hR.frozen
                have a0 := (hR.cell 0).trans (show _ = some (Value.int .i64 0) from rfl)
                have a1 := (hR.cell 1).trans (show _ = some (Value.int .i64 0) from rfl)
                have a2 := (hR.cell 2).trans (show _ = some (Value.int .i64 0) from rfl)
                have a3 := (hR.cell 3).trans (show _ = some (Value.int .i64 0) from rfl)
                have a4 := (hR.cell 4).trans (show _ = some (Value.int .u64 0) from rfl)
                have a5 := (hR.cell 5).trans (show _ = some (Value.slice none 0 0) from rfl)
                go_wp2_with fail
                have hRR := HR.out
                have z0 := (hRR.cell 0).trans (show _ = some (Value.int .i64 0) from rfl)
                have z1 := (hRR.cell 1).trans (show _ = some (Value.int .i64 0) from rfl)
                have z2 := (hRR.cell 2).trans (show _ = some (Value.int .i64 0) from rfl)
                have z3 := (hRR.cell 3).trans (show _ = some (Value.int .i64 0) from rfl)
                have z4 := (hRR.cell 4).trans (show _ = some (Value.int .u64 0) from rfl)
                have z5 := (hRR.cell 5).trans (show _ = some (Value.slice none 0 0) from rfl)
                refine bodyPost_ret (v := .tuple #[.agg #[.int .i64 0, .int .i64 0, .int .i64 0, .int .i64 0, .int .u64 0, .slice none 0 0], .int .i64 5]) (by simp [results, Try.results37, go_sem, z0, z1, z2, z3, z4, z5]) rfl (accP_no (by first | decide | assumption) ?_)
                repeat (first | with_reducible refine Below.setCell ?_ (by dsimp only; omega) _ | with_reducible refine Below.drew ?_)
                exact hB0
            · have b5 := bne_yes hc5
              go_quiet (fail)
              clear y9 y11 y12 y13 x1 g0 g1 g2 g3 g4 g5 g6 g7 g8
              replace hX := Blk.drewN hX nq
              replace hY := Blk.drewN hY nq
              replace hR := Blk.drewN hR nq
              replace hH := Blk.drewN hH nq
              replace hB0 := hB0.drewN nq
              generalize World.drewN w2 nq = w3 at *
              clear nq
              obtain rfl : E = 5 := by rw [HE.out]; (try rw [b2]); simp [accB, hm, b1, hc2, b3, b4, b5]
              have HR := Lib.hid ((((((hR.set_ 0 (.int .i64 0)).set_ 1 (.int .i64 0)).set_ 2 (.int .i64 0)).set_ 3 (.int .i64 0)).set_ 4 (.int .u64 0)).set_ 5 (.slice none 0 0))
              have f := hR.frozen
              have a0 := (hR.cell 0).trans (show _ = some (Value.int .i64 0) from rfl)
              have a1 := (hR.cell 1).trans (show _ = some (Value.int .i64 0) from rfl)
              have a2 := (hR.cell 2).trans (show _ = some (Value.int .i64 0) from rfl)
              have a3 := (hR.cell 3).trans (show _ = some (Value.int .i64 0) from rfl)
              have a4 := (hR.cell 4).trans (show _ = some (Value.int .u64 0) from rfl)
              have a5 := (hR.cell 5).trans (show _ = some (Value.slice none 0 0) from rfl)
              go_wp2_with fail
              have hRR := HR.out
              have z0 := (hRR.cell 0).trans (show _ = some (Value.int .i64 0) from rfl)
              have z1 := (hRR.cell 1).trans (show _ = some (Value.int .i64 0) from rfl)
              have z2 := (hRR.cell 2).trans (show _ = some (Value.int .i64 0) from rfl)
              have z3 := (hRR.cell 3).trans (show _ = some (Value.int .i64 0) from rfl)
              have z4 := (hRR.cell 4).trans (show _ = some (Value.int .u64 0) from rfl)
              have z5 := (hRR.cell 5).trans (show _ = some (Value.slice none 0 0) from rfl)
              refine bodyPost_ret (v := .tuple #[.agg #[.int .i64 0, .int .i64 0, .int .i64 0, .int .i64 0, .int .u64 0, .slice none 0 0], .int .i64 5]) (by simp [results, Try.results37, go_sem, z0, z1, z2, z3, z4, z5]) rfl (accP_no (by first | decide | assumption) ?_)
              repeat (first | with_reducible refine Below.setCell ?_ (by dsimp only; omega) _ | with_reducible refine Below.drew ?_)
              exact hB0
          · have b4 := bne_yes hc4
            go_quiet (fail)
            clear y9 y11 y12 y13 x1 g0 g1 g2 g3 g4 g5 g6 g7 g8
            replace hX := Blk.drewN hX nq
            replace hY := Blk.drewN hY nq
            replace hR := Blk.drewN hR nq
            replace hH := Blk.drewN hH nq
            replace hB0 := hB0.drewN nq
            generalize World.drewN w2 nq = w3 at *
            clear nq
            obtain rfl : E = 5 := by rw [HE.out]; (try rw [b2]); simp [accB, hm, b1, hc2, b3, b4]
            have HR := Lib.hid ((((((hR.set_ 0 (.int .i64 0)).set_ 1 (.int .i64 0)).set_ 2 (.int .i64 0)).set_ 3 (.int .i64 0)).set_ 4 (.int .u64 0)).set_ 5 (.slice none 0 0))
            have f := hR.frozen
            have a0 := (hR.cell 0).trans (show _ = some (Value.int .i64 0) from rfl)
            have a1 := (hR.cell 1).trans (show _ = some (Value.int .i64 0) from rfl)
            have a2 := (hR.cell 2).trans (show _ = some (Value.int .i64 0) from rfl)
            have a3 := (hR.cell 3).trans (show _ = some (Value.int .i64 0) from rfl)
            have a4 := (hR.cell 4).trans (show _ = some (Value.int .u64 0) from rfl)
            have a5 := (hR.cell 5).trans (show _ = some (Value.slice none 0 0) from rfl)
            go_wp2_with fail
            have hRR := HR.out
            have z0 := (hRR.cell 0).trans (show _ = some (Value.int .i64 0) from rfl)
            have z1 := (hRR.cell 1).trans (show _ = some (Value.int .i64 0) from rfl)
            have z2 := (hRR.cell 2).trans (show _ = some (Value.int .i64 0) from rfl)
            have z3 := (hRR.cell 3).trans (show _ = some (Value.int .i64 0) from rfl)
            have z4 := (hRR.cell 4).trans (show _ = some (Value.int .u64 0) from rfl)
            have z5 := (hRR.cell 5).trans (show _ = some (Value.slice none 0 0) from rfl)
            refine bodyPost_ret (v := .tuple #[.agg #[.int .i64 0, .int .i64 0, .int .i64 0, .int .i64 0, .int .u64 0, .slice none 0 0], .int .i64 5]) (by simp [results, Try.results37, go_sem, z0, z1, z2, z3, z4, z5]) rfl (accP_no (by first | decide | assumption) ?_)
            repeat (first | with_reducible refine Below.setCell ?_ (by dsimp only; omega) _ | with_reducible refine Below.drew ?_)
            exact hB0
        · have b3 := bne_yes hc3
          go_upto_region 9 with fail
          go_quiet (first
            | (go_at_call 39; refine Calls.quiet_of_same ((hE1 _).mono fun e w' h => ⟨h.1, h.2.symm⟩))
            | (go_at_call 39; refine Calls.quiet_of_same ((hE2 _).mono fun e w' h => ⟨h.1, h.2.symm⟩)))
          clear hE1 hE2 x0 x1 x2 x3 g0 g1 g2 g3 g4 g5 g6 g7 g8
          replace hX := Blk.drewN hX nq
          replace hY := Blk.drewN hY nq
          replace hR := Blk.drewN hR nq
          replace hH := Blk.drewN hH nq
          replace hB0 := hB0.drewN nq
          generalize World.drewN w1 nq = w2 at *
          clear nq
          obtain rfl : E = 20 := by rw [HE.out]; (try rw [b2]); simp [accB, hm, b1, hc2, b3]
          have HR := Lib.hid ((((((hR.set_ 0 (.int .i64 0)).set_ 1 (.int .i64 0)).set_ 2 (.int .i64 0)).set_ 3 (.int .i64 0)).set_ 4 (.int .u64 0)).set_ 5 (.slice none 0 0))
          have f := hR.frozen
          have a0 := (hR.cell 0).trans (show _ = some (Value.int .i64 0) from rfl)
          have a1 := (hR.cell 1).trans (show _ = some (Value.int .i64 0) from rfl)
          have a2 := (hR.cell 2).trans (show _ = some (Value.int .i64 0) from rfl)
          have a3 := (hR.cell 3).trans (show _ = some (Value.int .i64 0) from rfl)
          have a4 := (hR.cell 4).trans (show _ = some (Value.int .u64 0) from rfl)
          have a5 := (hR.cell 5).trans (show _ = some (Value.slice none 0 0) from rfl)
          go_wp2_with fail
          have hRR := HR.out
          have z0 := (hRR.cell 0).trans (show _ = some (Value.int .i64 0) from rfl)
          have z1 := (hRR.cell 1).trans (show _ = some (Value.int .i64 0) from rfl)
          have z2 := (hRR.cell 2).trans (show _ = some (Value.int .i64 0) from rfl)
          have z3 := (hRR.cell 3).trans (show _ = some (Value.int .i64 0) from rfl)
          have z4 := (hRR.cell 4).trans (show _ = some (Value.int .u64 0) from rfl)
          have z5 := (hRR.cell 5).trans (show _ = some (Value.slice none 0 0) from rfl)
          refine bodyPost_ret (v := .tuple #[.agg #[.int .i64 0, .int .i64 0, .int .i64 0, .int .i64 0, .int .u64 0, .slice none 0 0], .int .i64 20]) (by simp [results, Try.results37, go_sem, z0, z1, z2, z3, z4, z5]) rfl (accP_no (by first | decide | assumption) ?_)
          repeat (first | with_reducible refine Below.setCell ?_ (by dsimp only; omega) _ | with_reducible refine Below.drew ?_)
          exact hB0
    · have b1 := bne_yes hc1
      obtain rfl : E = 24 := by rw [HE.out]; (try rw [b2]); simp [accB, hm, b1]
      have HR := Lib.hid ((((((hR.set_ 0 (.int .i64 0)).set_ 1 (.int .i64 0)).set_ 2 (.int .i64 0)).set_ 3 (.int .i64 0)).set_ 4 (.int .u64 0)).set_ 5 (.slice none 0 0))
      have f := hR.frozen
      have a0 := (hR.cell 0).trans (show _ = some (Value.int .i64 0) from rfl)
      have a1 := (hR.cell 1).trans (show _ = some (Value.int .i64 0) from rfl)
      have a2 := (hR.cell 2).trans (show _ = some (Value.int .i64 0) from rfl)
      have a3 := (hR.cell 3).trans (show _ = some (Value.int .i64 0) from rfl)
      have a4 := (hR.cell 4).trans (show _ = some (Value.int .u64 0) from rfl)
      have a5 := (hR.cell 5).trans (show _ = some (Value.slice none 0 0) from rfl)
      go_wp2_with fail
      have hRR := HR.out
      have z0 := (hRR.cell 0).trans (show _ = some (Value.int .i64 0) from rfl)
      have z1 := (hRR.cell 1).trans (show _ = some (Value.int .i64 0) from rfl)
      have z2 := (hRR.cell 2).trans (show _ = some (Value.int .i64 0) from rfl)
      have z3 := (hRR.cell 3).trans (show _ = some (Value.int .i64 0) from rfl)
      have z4 := (hRR.cell 4).trans (show _ = some (Value.int .u64 0) from rfl)
      have z5 := (hRR.cell 5).trans (show _ = some (Value.slice none 0 0) from rfl)
      refine bodyPost_ret (v := .tuple #[.agg #[.int .i64 0, .int .i64 0, .int .i64 0, .int .i64 0, .int .u64 0, .slice none 0 0], .int .i64 24]) (by simp [results, Try.results37, go_sem, z0, z1, z2, z3, z4, z5]) rfl (accP_no (by first | decide | assumption) ?_)
      repeat (first | with_reducible refine Below.setCell ?_ (by dsimp only; omega) _ | with_reducible refine Below.drew ?_)
      exact hB0
  · have b0 := bne_yes hm
    obtain rfl : E = M := by rw [HE.out]; (try rw [b2]); simp [accB, hm]
    have HR := Lib.hid ((((((hR.set_ 0 (.int .i64 0)).set_ 1 (.int .i64 0)).set_ 2 (.int .i64 0)).set_ 3 (.int .i64 0)).set_ 4 (.int .u64 0)).set_ 5 (.slice none 0 0))
    have f := hR.frozen
    have a0 := (hR.cell 0).trans (show _ = some (Value.int .i64 0) from rfl)
    have a1 := (hR.cell 1).trans (show _ = some (Value.int .i64 0) from rfl)
    have a2 := (hR.cell 2).trans (show _ = some (Value.int .i64 0) from rfl)
    have a3 := (hR.cell 3).trans (show _ = some (Value.int .i64 0) from rfl)
    have a4 := (hR.cell 4).trans (show _ = some (Value.int .u64 0) from rfl)
    have a5 := (hR.cell 5).trans (show _ = some (Value.slice none 0 0) from rfl)
    go_wp2_with fail
    have hRR := HR.out
    have z0 := (hRR.cell 0).trans (show _ = some (Value.int .i64 0) from rfl)
    have z1 := (hRR.cell 1).trans (show _ = some (Value.int .i64 0) from rfl)
    have z2 := (hRR.cell 2).trans (show _ = some (Value.int .i64 0) from rfl)
    have z3 := (hRR.cell 3).trans (show _ = some (Value.int .i64 0) from rfl)
    have z4 := (hRR.cell 4).trans (show _ = some (Value.int .u64 0) from rfl)
    have z5 := (hRR.cell 5).trans (show _ = some (Value.slice none 0 0) from rfl)
    refine bodyPost_ret (v := .tuple #[.agg #[.int .i64 0, .int .i64 0, .int .i64 0, .int .i64 0, .int .u64 0, .slice none 0 0], .int .i64 E]) (by simp [results, Try.results37, go_sem, z0, z1, z2, z3, z4, z5]) rfl (accP_no (by first | decide | assumption) ?_)
    repeat (first | with_reducible refine Below.setCell ?_ (by dsimp only; omega) _ | with_reducible refine Below.drew ?_)
    exact hB0
end Go.Proofs.Ytjjkdmngmopjbaa

