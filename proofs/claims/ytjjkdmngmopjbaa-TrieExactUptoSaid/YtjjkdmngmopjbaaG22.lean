/- Of the texts Tri16, Tri17. -/
import Derived.Test.YtjjkdmngmopjbaaProg
import Derived.Test.YtjjkdmngmopjbaaG21
import Derived.Deep.RegionHeld3
import Derived.Deep.Cut
import Derived.Deep.CutRange
import Derived.Deep.QuietTactic
import Derived.BigQuiet
namespace Go.Proofs.Ytjjkdmngmopjbaa
open Go.RowKit
theorem grown_set (W : World) (p : Addr) (v : Value) : W.grownBy (W.setCell p v) (some p.block) := ⟨rfl, rfl, rfl, by simp [World.setCell], fun k _ hk => Below.heap_setCell W p v k (fun e => hk (by rw [e]))⟩
/-- a row in the second field of a struct, appended to -/
theorem field_app {W w9 : World} {g base size k m : Nat} {t e : TypeId} {u v v' : Value} {xs ys : List Value} {tmp : Obj} (hb : Blk W g t #[u, v]) (hgb : g < base) (hrow : W.ownsRow base e size v k xs) (hbase : base ≤ W.heap.size) (hown' : w9.ownsRow base e size v' m ys) (hgrow : (W.alloc tmp).grownBy w9 v.ownBlock) :
    Blk w9 g t #[u, v] ∧ Blk (w9.setCell ⟨g, 1, none⟩ v') g t #[u, v'] ∧ (w9.setCell ⟨g, 1, none⟩ v').ownsRow base e size v' m ys ∧ Below g W (w9.setCell ⟨g, 1, none⟩ v') := by
  have h9 : Blk w9 g t #[u, v] := (hb.alloc tmp).grown hgrow (fun h => by
    have := own_ge hrow g h.symm
    omega)
  refine ⟨h9, h9.set_ 1 v', hown'.kept (grown_set w9 ⟨g, 1, none⟩ v') (.inr fun h => ?_), ?_⟩
  · have := own_ge hown' g h
    omega
  · refine ((((Below.refl g W).alloc (by omega) tmp).grown hgrow (by simp; omega) fun j ej => ?_)).setCell (p := ⟨g, 1, none⟩) (Nat.le_refl _) v'
    have := own_ge hrow j ej
    omega
def rtreeV (wd : Int) (v : Value) : Value := .agg #[.int .i64 wd, v]
/-- items that are read -/
def ItR (w : World) (B : Nat) (A : Option Addr) (l : List Ent) : Prop := Rd w B 2 A l.length (itemCells l)
theorem itemCells_at (l : List Ent) (k j : Nat) (hj : j < 2) : (itemCells l)[k * 2 + j]? = (l[k]?).bind fun x => [Value.string (bs x.1), Value.string (bs x.2)][j]? :=
  flatMap_two _ (fun _ => rfl) l k j hj
theorem ItR.at_ {w : World} {B : Nat} {A : Option Addr} {l : List Ent} (h : ItR w B A l) {k : Nat} (hk : k < l.length) : ∃ b off, A = some ⟨b, off, none⟩ ∧ b < B ∧ w.cell? ⟨b, off + k * 2, none⟩ = some (.string (bs l[k].1)) ∧ w.cell? ⟨b, off + k * 2 + 1, none⟩ = some (.string (bs l[k].2)) := by
  obtain ⟨b, off, e, hb, hc⟩ := h.2 (by omega)
  refine ⟨b, off, e, hb, hc (k * 2 + 0) _ ?_, ?_⟩
  · rw [itemCells_at l k 0 (by omega), List.getElem?_eq_getElem hk]; rfl
  · have := hc (k * 2 + 1) (.string (bs l[k].2)) (by rw [itemCells_at l k 1 (by omega), List.getElem?_eq_getElem hk]; rfl)
    rwa [← Nat.add_assoc] at this
theorem putF_miss {k v xk xv : Key} {b : Bool} {ll : List Ent} (h : false = (!b && (Op.bytesLess k xk || k == xk))) : putF k v b ((xk, xv) :: ll) = if xk = k then putF k v b ll else (xk, xv) :: putF k v b ll := by
  cases b
  · have h2 : (Op.bytesLess k xk || k == xk) = false := by simpa using h.symm
    rw [putF]
    simp only [h2, Bool.false_eq_true, if_false]
  · rw [putF]
theorem putF_hit {k v xk xv : Key} {b : Bool} {ll : List Ent} (h : true = (!b && (Op.bytesLess k xk || k == xk))) : putF k v b ((xk, xv) :: ll) = (k, v) :: (if xk = k then putF k v true ll else (xk, xv) :: putF k v true ll) := by
  cases b
  · have h2 : (Op.bytesLess k xk || k == xk) = true := by simpa using h.symm
    rw [putF]
    simp only [h2, if_true]
  · cases h
theorem own_set {W : World} {base size n : Nat} {e : TypeId} {v : Value} {xs : List Value} (h : W.ownsRow base e size v n xs) {p : Addr} (hp : p.block < base) (u : Value) : (W.setCell p u).ownsRow base e size v n xs :=
  h.kept (grown_set W p u) (.inr fun hh => by have := own_ge h _ hh; omega)
def RPutR (wd : Int) (w : World) (l : List Ent) (e : Ending) (w' : World) : Prop :=
  ∃ v, e = .returned (.tuple #[.agg #[.int .i64 wd, v], .int .i64 0]) ∧ w'.ownsRow w.heap.size 132 2 v l.length (itemCells l) ∧ Below w.heap.size w w'
set_option maxRecDepth 100000 in
set_option maxHeartbeats 4000000 in
theorem rputLong_any (wd : Int) (k v : Key) (A : Option Addr) (n c : Nat) (w : World) (h : 32 < k.length ∨ 4096 < v.length) :
    Calls Try.prog 16 #[rtreeV wd (.slice A n c), .string (bs k), .string (bs v)] w fun e w' => e = .returned (.tuple #[rtreeV 0 (.slice none 0 0), .int .i64 3]) ∧ Below w.heap.size w w' := by
  have hcase : (decide ((32 : Int) < (k.length : Int)) = true) ∨ (decide ((32 : Int) < (k.length : Int)) = false ∧ decide ((4096 : Int) < (v.length : Int)) = true) := by
    by_cases hn : 32 < k.length
    · exact .inl (decide_eq_true (by omega))
    · exact .inr ⟨decide_eq_false (by omega), decide_eq_true (by omega)⟩
  clear h
  have hY : Blk ((w.alloc (.cells #[.int .i64 wd, .slice A n c] 57)).alloc (.cells #[.int .i64 0, .slice none 0 0] 57)) (w.heap.size + 1) 57 #[.int .i64 0, .slice none 0 0] := by
    have := Blk.new (w.alloc (.cells #[.int .i64 wd, .slice A n c] 57)) 57 #[.int .i64 0, .slice none 0 0]
    simpa using this
  have hB0 : Below w.heap.size w ((w.alloc (.cells #[.int .i64 wd, .slice A n c] 57)).alloc (.cells #[.int .i64 0, .slice none 0 0] 57)) := ((Below.refl _ _).alloc (Nat.le_refl _) _).alloc (by simp) _
  have y0 := (hY.cell 0).trans (show _ = some (Value.int .i64 0) from rfl)
  have y1 := (hY.cell 1).trans (show _ = some (Value.slice none 0 0) from rfl)
  have f0 := hY.frozen 0
  have f1 := hY.frozen 1
  unfold rtreeV
  rcases hcase with d1 | ⟨d1, d2⟩
  all_goals
    go_enter Try.func16, Try.ntmps16
    go_wp2_with fail
    generalize ((w.alloc (.cells #[.int .i64 wd, .slice A n c] 57)).alloc (.cells #[.int .i64 0, .slice none 0 0] 57)) = w0 at *
    refine bodyPost_ret (v := .tuple #[.agg #[.int .i64 0, .slice none 0 0], .int .i64 3]) (by simp [results, Try.results16, go_sem, y0, y1]) rfl ⟨rfl, hB0⟩
set_option maxRecDepth 100000 in
set_option maxHeartbeats 8000000 in
theorem rput_any (wd : Int) (k v : Key) (A : Option Addr) (l : List Ent) (c : Nat) (w : World) (hk : k.length ≤ 32) (hv : v.length ≤ 4096) (hl : ItR w w.heap.size A l) (hlen : l.length ≤ 100000000) :
    Calls Try.prog 16 #[rtreeV wd (.slice A l.length c), .string (bs k), .string (bs v)] w (RPutR wd w (putL k v l)) := by
  have hX : Blk ((w.alloc (.cells #[.int .i64 wd, .slice A l.length c] 57)).alloc (.cells #[.int .i64 0, .slice none 0 0] 57)) w.heap.size 57 #[.int .i64 wd, .slice A l.length c] := (Blk.new w 57 #[.int .i64 wd, .slice A l.length c]).alloc _
  have hY : Blk ((w.alloc (.cells #[.int .i64 wd, .slice A l.length c] 57)).alloc (.cells #[.int .i64 0, .slice none 0 0] 57)) (w.heap.size + 1) 57 #[.int .i64 0, .slice none 0 0] := by
    have := Blk.new (w.alloc (.cells #[.int .i64 wd, .slice A l.length c] 57)) 57 #[.int .i64 0, .slice none 0 0]
    simpa using this
  have hB0 : Below w.heap.size w ((w.alloc (.cells #[.int .i64 wd, .slice A l.length c] 57)).alloc (.cells #[.int .i64 0, .slice none 0 0] 57)) := ((Below.refl _ _).alloc (Nat.le_refl _) _).alloc (by simp) _
  have hz0 : ((w.alloc (.cells #[.int .i64 wd, .slice A l.length c] 57)).alloc (.cells #[.int .i64 0, .slice none 0 0] 57)).heap.size = w.heap.size + 2 := by simp
  have d1 : decide ((32 : Int) < (k.length : Int)) = false := decide_eq_false (by omega)
  have d2 : decide ((4096 : Int) < (v.length : Int)) = false := decide_eq_false (by omega)
  have c0 := (hX.cell 0).trans (show _ = some (Value.int .i64 wd) from rfl)
  have c1 := (hX.cell 1).trans (show _ = some (Value.slice A l.length c) from rfl)
  have hputlen := putL_len (k := k) (v := v) l
  obtain ⟨b0, hb0⟩ : ∃ b0, b0 = v.isEmpty := ⟨_, rfl⟩
  have hve : (v == []) = b0 := by rw [hb0]; cases v <;> rfl
  obtain ⟨R, hR⟩ : ∃ R, R = putL k v l := ⟨_, rfl⟩
  have HR : Hid (putF k v b0 l = R) := by show _ = _; rw [hR, hb0]; rfl
  rw [← hR] at hputlen ⊢
  clear hR hb0
  unfold rtreeV
  generalize hw0 : ((w.alloc (.cells #[.int .i64 wd, .slice A l.length c] 57)).alloc (.cells #[.int .i64 0, .slice none 0 0] 57)) = w0 at *
  go_enter Try.func16, Try.ntmps16
  go_wp2_with fail
  go_loopw [9, 10] (fun d z wr => ∃ (i : Nat) (b : Bool) (out : List Ent) (rv : Value), d = .bool b ∧ z = .int .i64 (i : Int) ∧ i ≤ l.length ∧ Hid (out ++ putF k v b (l.drop i) = R) ∧ Blk wr (w.heap.size + 2) 57 #[.int .i64 wd, rv] ∧ wr.ownsRow (w.heap.size + 3) 132 2 rv out.length (itemCells out) ∧ Below (w.heap.size + 2) w0 wr ∧ out.length ≤ i + b.toNat) (fun _ z _ => l.length - (intOf z).toNat)
  case atStart =>
    refine ⟨0, b0, [], .slice none 0 0, rfl, rfl, by omega, ?_, ?_, World.ownsRow_nil _ _ _ _, (Below.refl _ _).alloc (by omega) _, by simp⟩
    · show _ = _
      rw [List.drop_zero, List.nil_append]
      exact HR.out
    · have := Blk.new w0 57 #[.int .i64 wd, .slice none 0 0]
      rwa [hz0] at this
  case round =>
    obtain ⟨i, b, out, rv, rfl, rfl, hi, he, hO, hrow, hb, hol⟩ := hrel
    have hX2 := hX.below hb (by omega)
    have hY2 := hY.below hb (by omega)
    have hz := hb.size
    have c0 := (hX2.cell 0).trans (show _ = some (Value.int .i64 wd) from rfl)
    have c1 := (hX2.cell 1).trans (show _ = some (Value.slice A l.length c) from rfl)
    by_cases hlt : i < l.length
    · have hii : (i : Int) < (l.length : Int) := by omega
      have hl2 : ItR wr w.heap.size A l := (hl.below hB0).below (hb.mono (by omega))
      obtain ⟨xb, xo, rfl, hxb, x0, x1⟩ := hl2.at_ hlt
      have hdrop : l.drop i = l[i] :: l.drop (i + 1) := List.drop_eq_getElem_cons hlt
      rw [hdrop] at he
      clear hdrop
      generalize hld : l.drop (i + 1) = ldrop at *
      generalize l[i] = x at *
      obtain ⟨xk, xv⟩ := x
      simp only at x0 x1
      have x00 := (hb.cell (p := ⟨xb, xo + i * 2, none⟩) (by show xb < _; omega)).symm.trans x0
      have x01 := (hb.cell (p := ⟨xb, xo + i * 2 + 1, none⟩) (by show xb < _; omega)).symm.trans x1
      obtain ⟨T, hT⟩ : ∃ T, T = (!b && (Op.bytesLess k xk || k == xk)) := ⟨_, rfl⟩
      go_upto_region 8 with fail
      go_cut [43] from 25 to 69 (fun t wx => t = .bool T ∧ wx = wr)
      case first =>
        cases b
        · have hT2 : (Op.bytesLess k xk || k == xk) = T := by rw [hT]; simp
          clear hT
          go_wp2_with fail
          go_meet
          case rel => exact ⟨rfl, rfl⟩
        · have hT2 : T = false := by rw [hT]; rfl
          clear hT
          subst hT2
          go_wp2_with fail
          go_meet
          case rel => exact ⟨rfl, rfl⟩
      case rest =>
        obtain ⟨rfl, rfl⟩ := hcut
        have HT := Lib.hid hT
        clear hT
        obtain ⟨i0, hi0, hz0, hz1, hz2⟩ := info_parts itemInfo
        have o0 := (hO.cell 0).trans (show _ = some (Value.int .i64 wd) from rfl)
        have o1 := (hO.cell 1).trans (show _ = some rv from rfl)
        have of0 := hO.frozen 0
        have of1 := hO.frozen 1
        obtain ⟨rA, rc, rfl⟩ := own_shape hrow
        have hb3 : w.heap.size + 3 ≤ wc.heap.size := hO.lt
        go_upto_if 43 with fail
        go_cut [9] from 25 to 69 (fun d wx => ∃ (b' : Bool) (out' : List Ent) (rv' : Value), d = .bool b' ∧ Hid (∀ ll, out' ++ (if xk = k then putF k v b' ll else (xk, xv) :: putF k v b' ll) = out ++ putF k v b ((xk, xv) :: ll)) ∧ Blk wx (w.heap.size + 2) 57 #[.int .i64 wd, rv'] ∧ wx.ownsRow (w.heap.size + 3) 132 2 rv' out'.length (itemCells out') ∧ Below (w.heap.size + 2) w0 wx ∧ out'.length ≤ i + b'.toNat ∧ w.heap.size + 3 ≤ wx.heap.size)
        case first =>
          cases T
          · have hE : Hid (∀ ll, out ++ (if xk = k then putF k v b ll else (xk, xv) :: putF k v b ll) = out ++ putF k v b ((xk, xv) :: ll)) := by
              show ∀ ll, _
              exact fun ll => by rw [putF_miss HT.out]
            go_wp2_with fail
            go_meet
            case rel => exact ⟨b, out, _, rfl, hE, hO, hrow, hb, hol, hb3⟩
          · have hbf : b = false := by
              have h := HT.out
              cases b
              · rfl
              · cases h
            have hol2 : out.length ≤ i := by rw [hbf] at hol; simpa using hol
            have hE : Hid (∀ ll, (out ++ [(k, v)]) ++ (if xk = k then putF k v true ll else (xk, xv) :: putF k v true ll) = out ++ putF k v b ((xk, xv) :: ll)) := by
              show ∀ ll, _
              exact fun ll => by rw [putF_hit HT.out, List.append_assoc]; rfl
            clear HT hbf
            go_wp2_with (at_builtin; refine wpList_append_any _ rfl (.tmp 45) (.tmp 49) 55 rfl (w.heap.size + 3) 132 i0 _ 2 32 Try.underlying55 hi0 hz0 hz1 hz2 rfl (by omega) _ out.length _ (by rfl) (hrow.alloc _) (wc.heap.size + 1) _ 1 1 [.string (bs k), .string (bs v)] (by rfl) (Rd.laid wc #[.string (bs k), .string (bs v)] 132 2 1 rfl) (fun u hu => by simp at hu; rcases hu with rfl | rfl <;> rfl) (by simp [maxLen]; omega) (by omega) (by simp; omega) ?_; intro v' w9 hown' hgrow _; obtain ⟨h9, hO9, hr9, hb9⟩ := field_app hO (by omega) hrow hb3 hown' hgrow; have n0 := (h9.cell 0).trans (show _ = some (Value.int .i64 wd) from rfl); have n1 := (h9.cell 1).trans (show _ = some (Value.slice rA out.length rc) from rfl); have nf0 := h9.frozen 0; have nf1 := h9.frozen 1; obtain ⟨g', cap', rfl⟩ := ownsRow_succ hown')
            go_meet
            case rel => exact ⟨true, out ++ [(k, v)], _, rfl, hE, hO9, by simpa [itemCells_append, itemCells] using hr9, hb.trans hb9, by simp only [List.length_append, List.length_cons, List.length_nil, Bool.toNat_true]; omega, by have := hb9.size; omega⟩
        case rest =>
          clear hO hrow hb hz c0 c1 o0 o1 of0 of1 hX2 hY2 x0 x1
          obtain ⟨b', out', rv', rfl, he', hO', hrow', hb', hlen', hz'⟩ := hcut
          obtain ⟨rA', rc', rfl⟩ := own_shape hrow'
          have hbt := Bool.toNat_le b'
          have hX2 := hX.below hb' (by omega)
          have c0 := (hX2.cell 0).trans (show _ = some (Value.int .i64 wd) from rfl)
          have c1 := (hX2.cell 1).trans (show _ = some (Value.slice (some ⟨xb, xo, none⟩) l.length c) from rfl)
          have x0 := (hb'.cell (p := ⟨xb, xo + i * 2, none⟩) (by show xb < _; omega)).trans x00
          have x1 := (hb'.cell (p := ⟨xb, xo + i * 2 + 1, none⟩) (by show xb < _; omega)).trans x01
          have HE := Lib.hid (fun (h : out' ++ (if xk = k then putF k v b' ldrop else (xk, xv) :: putF k v b' ldrop) = out ++ putF k v b ((xk, xv) :: ldrop)) => h.trans he.out)
          have HE2 := Lib.hid (HE.out (he'.out ldrop))
          clear he he' HE HT
          by_cases hxe : xk = k
          · have hne : (xk != k) = false := by simp [hxe]
            have hne2 : (xk == k) = true := by simp [hxe]
            have hE3 : Hid (out' ++ putF k v b' ldrop = R) := by
              show _ = _
              rw [← HE2.out, if_pos hxe]
            clear HE2 hxe
            go_wp2_with fail
            go_roundw
            case rel => exact ⟨i + 1, b', out', _, rfl, by go_num, by omega, by rw [hld]; exact hE3, hO', hrow', hb', by omega⟩
            case measure => simp [intOf]; omega
          · have hne : (xk != k) = true := by simpa using hxe
            have hne2 : (xk == k) = false := by simpa using hxe
            have hE3 : Hid ((out' ++ [(xk, xv)]) ++ putF k v b' ldrop = R) := by
              show _ = _
              rw [← HE2.out, if_neg hxe, List.append_assoc]
              rfl
            clear HE2 hxe
            have o0 := (hO'.cell 0).trans (show _ = some (Value.int .i64 wd) from rfl)
            have o1 := (hO'.cell 1).trans (show _ = some (Value.slice rA' out'.length rc') from rfl)
            have of1 := hO'.frozen 1
            have o1a := fun o => hO'.cell_a 1 (Value.slice rA' out'.length rc') rfl o
            have ks := fun (W : World) (h : Below (w.heap.size + 2) wc W) => (show W.cell? ⟨w.heap.size, 1, none⟩ = some (.slice (some ⟨xb, xo, none⟩) l.length c) ∧ W.cell? ⟨xb, xo + i * 2, none⟩ = some (.string (bs xk)) ∧ W.cell? ⟨xb, xo + i * 2 + 1, none⟩ = some (.string (bs xv)) from ⟨(h.cell (p := ⟨w.heap.size, 1, none⟩) (by show w.heap.size < _; omega)).trans c1, (h.cell (p := ⟨xb, xo + i * 2, none⟩) (by show xb < _; omega)).trans x0, (h.cell (p := ⟨xb, xo + i * 2 + 1, none⟩) (by show xb < _; omega)).trans x1⟩)
            have KS := Lib.hid ks
            clear ks
            go_wp2_with fail
            refine wp_region_held_drew (S := fun W' => W'.cell? ⟨w.heap.size, 1, none⟩ = some (.slice (some ⟨xb, xo, none⟩) l.length c) ∧ W'.cell? ⟨xb, xo + i * 2, none⟩ = some (.string (bs xk)) ∧ W'.cell? ⟨xb, xo + i * 2 + 1, none⟩ = some (.string (bs xv))) (by kernel_rfl) (KS.out _ (Below.refl _ _).drew) (fun hHeld => ?_)
            refine wpAnyH_take (i := 0) (v := ?_) rfl (by kernel_rfl) (by kernel_rfl) (by kernel_rfl) (fun _ _ _ h => h) (Or.inl ⟨by rfl, ?_⟩) (by assumption) ?_
            rotate_left
            · intro w' hSw
              (try dsimp only at hSw)
              go_simp
              try with_reducible rfl
            try simp only [Act.put, List.setIfInBounds_toArray, List.set_cons_zero, List.set_cons_succ]
            refine wpAnyH_take (i := 2) (v := ?_) rfl (by kernel_rfl) (by kernel_rfl) (by kernel_rfl) (fun _ _ _ h => h) (Or.inl ⟨by rfl, ?_⟩) (by assumption) ?_
            rotate_left
            · intro w' hSw
              (try dsimp only at hSw)
              go_simp
              try with_reducible rfl
            try simp only [Act.put, List.setIfInBounds_toArray, List.set_cons_zero, List.set_cons_succ]
            refine wpAnyH_take (i := 3) (v := ?_) rfl (by kernel_rfl) (by kernel_rfl) (by kernel_rfl) (fun _ _ _ h => h) (Or.inl ⟨by rfl, ?_⟩) (by assumption) ?_
            rotate_left
            · intro w' hSw
              (try dsimp only at hSw)
              go_simp
              try with_reducible rfl
            try simp only [Act.put, List.setIfInBounds_toArray, List.set_cons_zero, List.set_cons_succ]
            refine wpAnyH_take (i := 4) (v := ?_) rfl (by kernel_rfl) (by kernel_rfl) (by kernel_rfl) (fun _ _ _ h => h) (Or.inl ⟨by rfl, ?_⟩) (by assumption) ?_
            rotate_left
            · intro w' hSw
              (try dsimp only at hSw)
              go_simp
              try with_reducible rfl
            try simp only [Act.put, List.setIfInBounds_toArray, List.set_cons_zero, List.set_cons_succ]
            refine wpAnyH_take (i := 5) (v := ?_) rfl (by kernel_rfl) (by kernel_rfl) (by kernel_rfl) (fun _ _ _ h => h) (Or.inl ⟨by rfl, ?_⟩) (by assumption) ?_
            rotate_left
            · intro w' hSw
              (try dsimp only at hSw)
              go_simp
              try with_reducible rfl
            try simp only [Act.put, List.setIfInBounds_toArray, List.set_cons_zero, List.set_cons_succ]
            refine wpAnyH_take (i := 6) (v := ?_) rfl (by kernel_rfl) (by kernel_rfl) (by kernel_rfl) (fun _ _ _ h => h) (Or.inl ⟨by rfl, ?_⟩) (by assumption) ?_
            rotate_left
            · intro w' hSw
              (try dsimp only at hSw)
              go_simp
              try with_reducible rfl
            try simp only [Act.put, List.setIfInBounds_toArray, List.set_cons_zero, List.set_cons_succ]
            refine wpAnyH_ready (rs := [1, 7]) (by kernel_rfl) (by simp) ?_
            refine AllReadyH.cons rfl (fun K hK => ?_) (AllReadyH.cons rfl (fun K hK => ?_) AllReadyH.nil)
            · go_simp
              refine hK.out _ _ (KS.out _ (Below.refl _ _).drew) (fun _ => ?_)
              clear hK K
              try simp only [Act.put, List.setIfInBounds_toArray, List.set_cons_zero, List.set_cons_succ]
              refine wpAnyH_ready (rs := [7]) (by kernel_rfl) (by simp) ?_
              refine AllReadyH.cons rfl (fun K hK => ?_) AllReadyH.nil
              go_simp
              refine hK.out _ _ (KS.out _ ((Below.refl _ _).drew.alloc (by show _ ≤ wc.heap.size; omega) _)) (fun _ => ?_)
              clear hK K
              try simp only [Act.put, List.setIfInBounds_toArray, List.set_cons_zero, List.set_cons_succ]
              refine wpAnyH_ready (rs := [8]) (by kernel_rfl) (by simp) ?_
              refine AllReadyH.cons rfl (fun K hK => ?_) AllReadyH.nil
              refine step_append_any _ (by rfl) (.tmp 61) (.tmp 67) 55 (by rfl) (w.heap.size + 3) 132 i0 _ 2 32 Try.underlying55 hi0 hz0 hz1 hz2 rfl (by omega) _ out'.length _ (by rfl) (hrow'.alloc _) (wc.heap.size + 1) _ 1 1 [.string (bs xk), .string (bs xv)] (by rfl) (Rd.laid wc.drew #[.string (bs xk), .string (bs xv)] 132 2 1 rfl) (fun u hu => by simp at hu; rcases hu with rfl | rfl <;> rfl) (by simp [maxLen]; omega) (by omega) (by simp; omega) ?_
              intro v' w9 hown' hgrow _
              obtain ⟨h9, hO9, hr9, hb9⟩ := field_app (W := wc.drew) hO' (by omega) hrow' hz' hown' hgrow
              have hb9' : Below (w.heap.size + 2) wc (w9.setCell ⟨w.heap.size + 2, 1, none⟩ v') := (Below.refl _ _).drew.trans hb9
              have hb98 : Below (w.heap.size + 2) wc w9 := ((Below.refl _ _).drew.alloc (by show _ ≤ wc.heap.size; omega) _).grown hgrow (by simp; omega) fun j ej => by have := own_ge hrow' j ej; omega
              have n1 := (h9.cell 1).trans (show _ = some (Value.slice rA' out'.length rc') from rfl)
              have nf1 := h9.frozen 1
              obtain ⟨g', cap', rfl⟩ := ownsRow_succ hown'
              refine hK.out _ _ (KS.out _ hb98) (fun _ => ?_)
              clear hK K
              try simp only [Act.put, List.setIfInBounds_toArray, List.set_cons_zero, List.set_cons_succ]
              refine wpAnyH_take (i := 9) (v := ?_) rfl (by kernel_rfl) (by kernel_rfl) (by kernel_rfl) (fun _ _ _ h => h) (Or.inl ⟨by rfl, ?_⟩) (by assumption) ?_
              rotate_left
              · intro w' hSw
                (try dsimp only at hSw)
                go_simp
                try with_reducible rfl
              try simp only [Act.put, List.setIfInBounds_toArray, List.set_cons_zero, List.set_cons_succ]
              refine wpAnyH_ready (rs := [10]) (by kernel_rfl) (by simp) ?_
              refine AllReadyH.cons rfl (fun K hK => ?_) AllReadyH.nil
              go_simp
              refine hK.out _ _ (KS.out _ hb9') (fun _ => ?_)
              clear hK K
              refine wpAnyH_done (by kernel_rfl) ?_ _
              go_wp2_with fail
              go_roundw
              case rel => exact ⟨i + 1, b', out' ++ [(xk, xv)], _, rfl, by go_num, by omega, by rw [hld]; exact hE3, hO9, by simpa [itemCells_append, itemCells] using hr9, hb'.trans hb9', by simp only [List.length_append, List.length_cons, List.length_nil]; omega⟩
              case measure => simp [intOf]; omega
            · go_simp
              refine hK.out _ _ (KS.out _ ((Below.refl _ _).drew.alloc (by show _ ≤ wc.heap.size; omega) _)) (fun _ => ?_)
              clear hK K
              try simp only [Act.put, List.setIfInBounds_toArray, List.set_cons_zero, List.set_cons_succ]
              refine wpAnyH_ready (rs := [1]) (by kernel_rfl) (by simp) ?_
              refine AllReadyH.cons rfl (fun K hK => ?_) AllReadyH.nil
              go_simp
              refine hK.out _ _ (KS.out _ ((Below.refl _ _).drew.alloc (by show _ ≤ wc.heap.size; omega) _)) (fun _ => ?_)
              clear hK K
              try simp only [Act.put, List.setIfInBounds_toArray, List.set_cons_zero, List.set_cons_succ]
              refine wpAnyH_ready (rs := [8]) (by kernel_rfl) (by simp) ?_
              refine AllReadyH.cons rfl (fun K hK => ?_) AllReadyH.nil
              refine step_append_any _ (by rfl) (.tmp 61) (.tmp 67) 55 (by rfl) (w.heap.size + 3) 132 i0 _ 2 32 Try.underlying55 hi0 hz0 hz1 hz2 rfl (by omega) _ out'.length _ (by rfl) (hrow'.alloc _) (wc.heap.size + 1) _ 1 1 [.string (bs xk), .string (bs xv)] (by rfl) (Rd.laid wc.drew #[.string (bs xk), .string (bs xv)] 132 2 1 rfl) (fun u hu => by simp at hu; rcases hu with rfl | rfl <;> rfl) (by simp [maxLen]; omega) (by omega) (by simp; omega) ?_
              intro v' w9 hown' hgrow _
              obtain ⟨h9, hO9, hr9, hb9⟩ := field_app (W := wc.drew) hO' (by omega) hrow' hz' hown' hgrow
              have hb9' : Below (w.heap.size + 2) wc (w9.setCell ⟨w.heap.size + 2, 1, none⟩ v') := (Below.refl _ _).drew.trans hb9
              have hb98 : Below (w.heap.size + 2) wc w9 := ((Below.refl _ _).drew.alloc (by show _ ≤ wc.heap.size; omega) _).grown hgrow (by simp; omega) fun j ej => by have := own_ge hrow' j ej; omega
              have n1 := (h9.cell 1).trans (show _ = some (Value.slice rA' out'.length rc') from rfl)
              have nf1 := h9.frozen 1
              obtain ⟨g', cap', rfl⟩ := ownsRow_succ hown'
              refine hK.out _ _ (KS.out _ hb98) (fun _ => ?_)
              clear hK K
              try simp only [Act.put, List.setIfInBounds_toArray, List.set_cons_zero, List.set_cons_succ]
              refine wpAnyH_take (i := 9) (v := ?_) rfl (by kernel_rfl) (by kernel_rfl) (by kernel_rfl) (fun _ _ _ h => h) (Or.inl ⟨by rfl, ?_⟩) (by assumption) ?_
              rotate_left
              · intro w' hSw
                (try dsimp only at hSw)
                go_simp
                try with_reducible rfl
              try simp only [Act.put, List.setIfInBounds_toArray, List.set_cons_zero, List.set_cons_succ]
              refine wpAnyH_ready (rs := [10]) (by kernel_rfl) (by simp) ?_
              refine AllReadyH.cons rfl (fun K hK => ?_) AllReadyH.nil
              go_simp
              refine hK.out _ _ (KS.out _ hb9') (fun _ => ?_)
              clear hK K
              refine wpAnyH_done (by kernel_rfl) ?_ _
              go_wp2_with fail
              go_roundw
              case rel => exact ⟨i + 1, b', out' ++ [(xk, xv)], _, rfl, by go_num, by omega, by rw [hld]; exact hE3, hO9, by simpa [itemCells_append, itemCells] using hr9, hb'.trans hb9', by simp only [List.length_append, List.length_cons, List.length_nil]; omega⟩
              case measure => simp [intOf]; omega
    · have hii : ¬ (i : Int) < (l.length : Int) := by omega
      have hdz : l.drop i = [] := List.drop_eq_nil_of_le (by omega)
      rw [hdz] at he
      obtain ⟨i0, hi0, hz0', hz1, hz2⟩ := info_parts itemInfo
      obtain ⟨rA, rc, rfl⟩ := own_shape hrow
      have o0 := (hO.cell 0).trans (show _ = some (Value.int .i64 wd) from rfl)
      have o1 := (hO.cell 1).trans (show _ = some (Value.slice rA out.length rc) from rfl)
      have of0 := hO.frozen 0
      have of1 := hO.frozen 1
      have hgl : w.heap.size + 3 ≤ wr.heap.size := hO.lt
      cases b
      · have hol2 : out.length ≤ i := by simpa using hol
        have hRe : Hid (out ++ [(k, v)] = R) := he.out
        clear he
        go_wp2_with (at_builtin; refine wpList_append_any _ rfl (.tmp 73) (.tmp 77) 55 rfl (w.heap.size + 3) 132 i0 _ 2 32 Try.underlying55 hi0 hz0' hz1 hz2 rfl (by omega) _ out.length _ (by rfl) (hrow.alloc _) (wr.heap.size + 1) _ 1 1 [.string (bs k), .string (bs v)] (by rfl) (Rd.laid wr #[.string (bs k), .string (bs v)] 132 2 1 rfl) (fun u hu => by simp at hu; rcases hu with rfl | rfl <;> rfl) (by simp [maxLen]; omega) (by omega) (by simp; omega) ?_; intro v' w9 hown' hgrow _; obtain ⟨h9, hO9, hr9, hb9⟩ := field_app hO (by omega) hrow hgl hown' hgrow; have n0 := (h9.cell 0).trans (show _ = some (Value.int .i64 wd) from rfl); have n1 := (h9.cell 1).trans (show _ = some (Value.slice rA out.length rc) from rfl); have nf0 := h9.frozen 0; have nf1 := h9.frozen 1; obtain ⟨g', cap', rfl⟩ := ownsRow_succ hown'; have m0 := (hO9.cell 0).trans (show _ = some (Value.int .i64 wd) from rfl); have m1 := (hO9.cell 1).trans (show _ = some (Value.slice (some ⟨g', 0, none⟩) (out.length + 1) cap') from rfl); have hY3 := hY2.below hb9 (by omega); have y0 := (hY3.cell 0).trans (show _ = some (Value.int .i64 0) from rfl); have y1 := (hY3.cell 1).trans (show _ = some (Value.slice none 0 0) from rfl); have yf0 := hY3.frozen 0; have yf1 := hY3.frozen 1)
        have hb3 := hb.trans hb9
        have hrow3 : (w9.setCell ⟨w.heap.size + 2, 1, none⟩ (.slice (some ⟨g', 0, none⟩) (out.length + 1) cap')).ownsRow (w.heap.size + 3) 132 2 (.slice (some ⟨g', 0, none⟩) (out.length + 1) cap') (out ++ [(k, v)]).length (itemCells (out ++ [(k, v)])) := by simpa [itemCells_append, itemCells] using hr9
        have hzz := (hY3.set_ 0 (.int .i64 wd)).set_ 1 (.slice (some ⟨g', 0, none⟩) (out.length + 1) cap')
        have z0 := (hzz.cell 0).trans (show _ = some (Value.int .i64 wd) from rfl)
        have z1 := (hzz.cell 1).trans (show _ = some (.slice (some ⟨g', 0, none⟩) (out.length + 1) cap') from rfl)
        refine bodyPost_ret (v := .tuple #[.agg #[.int .i64 wd, .slice (some ⟨g', 0, none⟩) (out.length + 1) cap'], .int .i64 0]) (by simp [results, Try.results16, go_sem, z0, z1]) rfl ⟨_, rfl, ?_, ((hB0.trans (hb3.mono (by omega))).setCell (by simp) _).setCell (by simp) _⟩
        rw [← hRe.out]
        exact own_mono (own_set (own_set hrow3 (by show w.heap.size + 1 < _; omega) _) (by show w.heap.size + 1 < _; omega) _) (by omega)
      · have hRe : Hid (out = R) := by have := he.out; rw [show putF k v true [] = [] from rfl, List.append_nil] at this; exact this
        clear he
        have y0 := (hY2.cell 0).trans (show _ = some (Value.int .i64 0) from rfl)
        have y1 := (hY2.cell 1).trans (show _ = some (Value.slice none 0 0) from rfl)
        have yf0 := hY2.frozen 0
        have yf1 := hY2.frozen 1
        go_wp2_with fail
        have hb3 := hb
        have hY3 := hY2
        have hrow3 := hrow
        have hzz := (hY3.set_ 0 (.int .i64 wd)).set_ 1 (.slice rA out.length rc)
        have z0 := (hzz.cell 0).trans (show _ = some (Value.int .i64 wd) from rfl)
        have z1 := (hzz.cell 1).trans (show _ = some (.slice rA out.length rc) from rfl)
        refine bodyPost_ret (v := .tuple #[.agg #[.int .i64 wd, .slice rA out.length rc], .int .i64 0]) (by simp [results, Try.results16, go_sem, z0, z1]) rfl ⟨_, rfl, ?_, ((hB0.trans (hb3.mono (by omega))).setCell (by simp) _).setCell (by simp) _⟩
        rw [← hRe.out]
        exact own_mono (own_set (own_set hrow3 (by show w.heap.size + 1 < _; omega) _) (by show w.heap.size + 1 < _; omega) _) (by omega)
end Go.Proofs.Ytjjkdmngmopjbaa

namespace Go.Proofs.Ytjjkdmngmopjbaa
open Go.RowKit
set_option maxRecDepth 100000 in
theorem sameItems_any (l : List Ent) (A A' : Option Addr) (c c' B B' : Nat) (w : World) (h : ItR w B A l) (h' : ItR w B' A' l) (hlen : l.length ≤ 1000000000000) :
    Calls Try.prog 23 #[.slice A l.length c, .slice A' l.length c'] w fun e w' => e = .returned (.bool true) ∧ Below w.heap.size w w' := by
  go_enter Try.func23, Try.ntmps23
  go_wp2_with fail
  go_loopw [5] (fun z wr => ∃ (i d : Nat), z = .int .i64 (i : Int) ∧ i ≤ l.length ∧ wr = w.drewN d) (fun z _ => l.length - (intOf z).toNat)
  case atStart => exact ⟨0, 0, rfl, by omega, rfl⟩
  case round =>
    obtain ⟨i, d, rfl, hi, rfl⟩ := hrel
    by_cases hlt : i < l.length
    · have hii : (i : Int) < (l.length : Int) := by omega
      obtain ⟨b, o, rfl, _, x0, x1⟩ := h.at_ hlt
      obtain ⟨b', o', rfl, _, y0, y1⟩ := h'.at_ hlt
      generalize l[i] = x at *
      go_wp2_with fail
      go_quiet (fail)
      go_wp2_with fail
      go_roundw
      case rel => exact ⟨i + 1, _, by go_num, by omega, rfl⟩
      case measure => simp [intOf]; omega
    · have hii : ¬ (i : Int) < (l.length : Int) := by omega
      go_wp2_with fail
      go_ret
      exact ⟨rfl, (Below.refl _ _).drewN _⟩
def LightR (w : World) (n : Nat) (e : Ending) (w' : World) : Prop := ∃ b : Bool, e = .returned (.bool b) ∧ (b = true → n ≤ 1024) ∧ Below w.heap.size w w'
set_option maxRecDepth 100000 in
theorem lightItems_any (l : List Ent) (A : Option Addr) (c B : Nat) (w : World) (h : ItR w B A l) (hlen : l.length ≤ 9223372036854775807) :
    Calls Try.prog 41 #[.slice A l.length c] w (LightR w l.length) := by
  go_enter Try.func41, Try.ntmps41
  go_wp2_with fail
  go_loopw [3, 4] (fun n z wr => ∃ (i d : Nat) (m : Int), n = .int .i64 m ∧ z = .int .i64 (i : Int) ∧ i ≤ l.length ∧ wr = w.drewN d) (fun _ z _ => l.length - (intOf z).toNat)
  case atStart => exact ⟨0, 0, _, rfl, rfl, by omega, rfl⟩
  case round =>
    obtain ⟨i, d, m, rfl, rfl, hi, rfl⟩ := hrel
    by_cases hlt : i < l.length
    · have hii : (i : Int) < (l.length : Int) := by omega
      by_cases hm : m ≤ 65536
      · have hm0 : decide (m ≤ 65536) = true := decide_eq_true hm
        obtain ⟨b, o, rfl, _, x0, x1⟩ := h.at_ hlt
        generalize l[i] = x at *
        obtain ⟨xk, xv⟩ := x
        simp only at x0 x1
        obtain ⟨Y, hY⟩ : ∃ Y, IntKind.i64.wrap (m + (xk.length : Int)) = Y := ⟨_, rfl⟩
        obtain ⟨Z, hZ⟩ : ∃ Z, IntKind.i64.wrap (Y + (xv.length : Int)) = Z := ⟨_, rfl⟩
        have hY' : wrap64 (m + (xk.length : Int)) = Y := by rw [← IntWalk.i64_left]; exact hY
        have hZ' : wrap64 (Y + (xv.length : Int)) = Z := by rw [← IntWalk.i64_left]; exact hZ
        go_wp2_with fail
        go_quiet (fail)
        go_wp2_with fail
        go_roundw
        case rel => exact ⟨i + 1, _, _, rfl, by go_num, by omega, rfl⟩
        case measure => simp [intOf]; omega
      · have hm0 : decide (m ≤ 65536) = false := decide_eq_false hm
        go_wp2_with fail
        go_ret
        exact ⟨false, rfl, fun h => (by cases h), (Below.refl _ _).drewN _⟩
    · have hii : ¬ (i : Int) < (l.length : Int) := by omega
      by_cases hm : m ≤ 65536
      · have hm0 : decide (m ≤ 65536) = true := decide_eq_true hm
        by_cases hl : l.length ≤ 1024
        · have hl0 : decide ((l.length : Int) ≤ 1024) = true := decide_eq_true (by omega)
          go_wp2_with fail
          go_ret
          exact ⟨true, rfl, fun _ => hl, (Below.refl _ _).drewN _⟩
        · have hl0 : decide ((l.length : Int) ≤ 1024) = false := decide_eq_false (by omega)
          go_wp2_with fail
          go_ret
          exact ⟨false, rfl, fun h => (by cases h), (Below.refl _ _).drewN _⟩
      · have hm0 : decide (m ≤ 65536) = false := decide_eq_false hm
        go_wp2_with fail
        go_ret
        exact ⟨false, rfl, fun h => (by cases h), (Below.refl _ _).drewN _⟩
end Go.Proofs.Ytjjkdmngmopjbaa
