/- Of the texts Wr1. -/
import Derived.Test.YtjhaafbbdgjagaaGreatProg
import Derived.Test.YtjhaafbbdgjagaaGreatG20
import Derived.Test.YtjhaafbbdgjagaaGreatG01
import Derived.Deep.RegionLaw
set_option linter.unusedSimpArgs false
set_option linter.unusedVariables false
namespace Go.Proofs.YtjhaafbbdgjagaaGreat
open Go.RowKit
theorem byteInfo : (Tryz.prog.info? 5).map (fun i => (i.zero, i.size, i.bytes)) = some (some (.int .u8 0), 1, 1) := by kernel_rfl
set_option maxRecDepth 100000 in
theorem limited_any (n m : Int) (w : World) (g : Nat) (S : Out) (h : Wrt w g S) :
  Calls Tryz.prog 245 #[.pointer (some ⟨g, 0, none⟩), .int .i64 n, .int .i64 m] w fun e w' => e = .returned (.tuple #[]) ∧ Wrt w' g (S.lim n m) ∧ Turned w w' g := by
 obtain ⟨v, hb, ho⟩ := h; have c1 := hb.c 1 rfl; have f1 := hb.frozen 1; have hgt := hb.lt
 by_cases hm : m < n
 ·go_enter Tryz.func245, Tryz.ntmps245; go_wp2
  go_end0
  exact ⟨rfl, ⟨v, by simpa [Out.lim, hm] using hb.set_ 1 (.bool true), by simpa [Out.lim] using ownsRow_setCell_below ho (a := ⟨g, 1, none⟩) (by simp) _⟩, (Turned.refl _ _).setCell _ _⟩
 ·go_enter Tryz.func245, Tryz.ntmps245; go_wp2
  go_end0
  exact ⟨rfl, ⟨v, by simpa [Out.lim, show decide (m < n) = false from decide_eq_false (by omega)] using hb, by simpa [Out.lim] using ho⟩, Turned.refl _ _⟩
set_option maxRecDepth 100000 in
theorem need_any (b : Bool) (w : World) (g : Nat) (S : Out) (h : Wrt w g S) :
  Calls Tryz.prog 154 #[.pointer (some ⟨g, 0, none⟩), .bool b] w fun e w' => e = .returned (.tuple #[]) ∧ Wrt w' g (S.need b) ∧ Turned w w' g := by
 obtain ⟨v, hb, ho⟩ := h; have c1 := hb.c 2 rfl; have f1 := hb.frozen 2; have hgt := hb.lt; cases b
 ·go_enter Tryz.func154, Tryz.ntmps154; go_wp2
  go_end0
  exact ⟨rfl, ⟨v, by simpa [Out.need] using hb.set_ 2 (.bool true), by simpa [Out.need] using ownsRow_setCell_below ho (a := ⟨g, 2, none⟩) (by simp) _⟩, (Turned.refl _ _).setCell _ _⟩
 ·go_enter Tryz.func154, Tryz.ntmps154; go_wp2
  go_end0
  exact ⟨rfl, ⟨v, by simpa [Out.need] using hb, by simpa [Out.need] using ho⟩, Turned.refl _ _⟩
theorem wrt_app {w w' : World} {g : Nat} {S : Out} {v v' : Value} {m : List UInt8} (hb : Blk w g 203 #[v, .bool S.far, .bool S.odd]) (ho : w.ownsRow (g + 1) 5 1 v S.b.length (u8s S.b))
  (ho' : w'.ownsRow (g + 1) 5 1 v' (S.b.length + m.length) (u8s S.b ++ u8s m)) (hg : w.grownBy w' v.ownBlock) :
  Blk w' g 203 #[v, .bool S.far, .bool S.odd] ∧ Turned w w' g ∧ Wrt (w'.setCell ⟨g, 0, none⟩ v') g (S.raw m) ∧ Turned w (w'.setCell ⟨g, 0, none⟩ v') g := by
 have hb' : Blk w' g 203 #[v, .bool S.far, .bool S.odd] := hb.grown hg (fun e => by have := (ho.lt g e.symm).1; omega); have ht := (Turned.refl w g).grown ho hg (by omega) hb.lt; refine ⟨hb', ht, ⟨v', hb'.set_ 0 v', ?_⟩, ht.setCell _ _⟩; have := ownsRow_setCell_below ho' (a := ⟨g, 0, none⟩) (by simp) v'; simpa [Out.raw, u8s_append] using this
set_option maxRecDepth 100000 in
theorem flag_any (b : Bool) (w : World) (g : Nat) (S : Out) (h : Wrt w g S) (hl : S.b.length ≤ 70368744177664) :
    Calls Tryz.prog 152 #[.pointer (some ⟨g, 0, none⟩), .bool b] w fun e w' => e = .returned (.tuple #[]) ∧ Wrt w' g (S.flag b) ∧ Turned w w' g := by
  obtain ⟨v, hb, ho⟩ := h
  obtain ⟨i0, hi0, hz0, hz1, hz2⟩ := info_parts byteInfo
  have c1 := hb.c 0 rfl
  have hgt := hb.lt
  cases b
  · have hx := fun (v' : Value) (w' : World) => @wrt_app (w.alloc (.cells #[.int .u8 0] 5)) w' g S v v' [0] (hb.alloc _) (ho.alloc _)
    go_enter Tryz.func152, Tryz.ntmps152
    go_wp2_with (first
      | (at_builtin; refine wpList_append_any _ rfl (.tmp 18) (.tmp 19) 110 rfl (g + 1) 5 i0 _ 1 1 Tryz.underlying110 hi0 hz0 hz1 hz2 rfl (by omega) v S.b.length _ (by rfl) (ho.alloc _) (w.heap.size + 1) _ 1 1 [.int .u8 0] (by rfl) (Rd.laid w #[.int .u8 0] 5 1 1 rfl) (fun u hu => by simp at hu; subst hu; rfl) (by simp [maxLen]; omega) (by omega) (by simp; omega) ?_
         intro v3 w3 hown3 hg3 hat3
         obtain ⟨A3, n3, rfl⟩ := own_shape hown3
         obtain ⟨hb3, ht3, hW3, hT3⟩ := hx _ w3 hown3 hg3
         have c3 := hb3.c 0 rfl
         have f3 := hb3.frozen 0))
    go_end0
    exact ⟨rfl, hW3, ((Turned.refl _ _).alloc (by omega) _).trans hT3⟩
  · have hx := fun (v' : Value) (w' : World) => @wrt_app (w.alloc (.cells #[.int .u8 1] 5)) w' g S v v' [1] (hb.alloc _) (ho.alloc _)
    go_enter Tryz.func152, Tryz.ntmps152
    go_wp2_with (first
      | (at_builtin; refine wpList_append_any _ rfl (.tmp 9) (.tmp 10) 110 rfl (g + 1) 5 i0 _ 1 1 Tryz.underlying110 hi0 hz0 hz1 hz2 rfl (by omega) v S.b.length _ (by rfl) (ho.alloc _) (w.heap.size + 1) _ 1 1 [.int .u8 1] (by rfl) (Rd.laid w #[.int .u8 1] 5 1 1 rfl) (fun u hu => by simp at hu; subst hu; rfl) (by simp [maxLen]; omega) (by omega) (by simp; omega) ?_
         intro v3 w3 hown3 hg3 hat3
         obtain ⟨A3, n3, rfl⟩ := own_shape hown3
         obtain ⟨hb3, ht3, hW3, hT3⟩ := hx _ w3 hown3 hg3
         have c3 := hb3.c 0 rfl
         have f3 := hb3.frozen 0))
    exact bodyPost_ret (v := .tuple #[]) (by simp [results, Tryz.results152, go_sem]) rfl ⟨rfl, hW3, ((Turned.refl _ _).alloc (by omega) _).trans hT3⟩
theorem wrt_str {w w' : World} {g : Nat} {S : Out} {v v' : Value} {m : List UInt8} (hb : Blk w g 203 #[v, .bool S.far, .bool S.odd]) (ho : w.ownsRow (g + 1) 5 1 v S.b.length (u8s S.b))
  (ho' : w'.ownsRow (g + 1) 5 1 v' (S.b.length + (bs m).size) (u8s S.b ++ Lib.strCells (bs m))) (hg : w.grownBy w' v.ownBlock) :
  Blk w' g 203 #[v, .bool S.far, .bool S.odd] ∧ Turned w w' g ∧ Wrt (w'.setCell ⟨g, 0, none⟩ v') g (S.raw m) ∧ Turned w (w'.setCell ⟨g, 0, none⟩ v') g :=
 wrt_app hb ho (by rw [bs_size] at ho'; exact ho') hg
set_option maxRecDepth 100000 in
theorem step_append_str {P : Program} (w : World) {ops : Array Oper} {o : Oper} {a : Act} {K : Act → World → Prop} {Q : Exit → Act → World → Prop} {E : Prop} (hgd : o.guard = none) (sl x : Operand) (t u : TypeId)
  (ho : o.op = .call { callee := .builtin .append, args := #[sl, x], argTypes := #[t, u] })
  (base : Nat) (e : TypeId) (i : TypeInfo) (ht : P.underlying t = some (.slice e)) (hu : P.underlying u = some .string) (hi : P.info? e = some i) (hz : i.zero = some (.int .u8 0))
  (hsize : i.size = 1) (hby : i.bytes = 1)
  (v : Value) (n : Nat) (xs : List Value) (hs : a.eval sl = v) (hown : w.ownsRow base e 1 v n xs) (s : ByteArray) (hx : a.eval x = .string s)
  (h63 : n + s.size ≤ maxLen) (hbytes : n + s.size ≤ 140737488355328) (hbase : base ≤ w.heap.size)
  (h : ∀ v' w', w'.ownsRow base e 1 v' (n + s.size) (xs ++ Lib.strCells s) → w.grownBy w' v.ownBlock → K (a.put o.dst v') w') :
  if Region.wanted o (yielded ops a.tmps) = true then Oper.wp P o a w K Q else E := by
 have hw : Region.wanted o (yielded ops a.tmps) = true := by simp [Region.wanted, hgd]
 rw [if_pos hw]; obtain ⟨v', w', hr, h2, h3, h4⟩ := Lib.run_append_own_string (P := P) w base t u o.type e i ht hu hi hz hsize hby v n xs hown s h63 hbytes hbase; unfold Oper.wp execOp; simp only [ho, resolve, invoke, builtin, Sem.run_bind, Sem.run_pure, Result.andThen_ok, List.map_toArray, List.map_cons, List.map_nil, hs, hx, hr]; exact h v' w' h2 h3
set_option maxRecDepth 100000 in
theorem digest_any (d : Int) (w : World) (g : Nat) (S : Out) (h : Wrt w g S) (hl : S.b.length ≤ 70368744177664) (h0 : 0 ≤ d) (h1 : d < 18446744073709551616) :
    Calls Tryz.prog 153 #[.pointer (some ⟨g, 0, none⟩), .int .u64 d] w fun e w' => e = .returned (.tuple #[]) ∧ Wrt w' g (S.dig d) ∧ Turned w w' g := by
  obtain ⟨v, hb, ho⟩ := h
  obtain ⟨i0, hi0, hz0, hz1, hz2⟩ := info_parts byteInfo
  have c1 := hb.c 0 rfl
  have hgt := hb.lt
  have hbe := be_len d 8
  have hD : Wrt = Wrt := rfl
  go_enter Tryz.func153, Tryz.ntmps153
  go_wp2_with fail
  go_region_law (first
    | (go_simp
       go_at_call 145
       refine (eight_any d _ h0 h1).mono ?_
       rintro e w2 ⟨rfl, hb2⟩
       have hblk2 := (Blk.drew hb).below hb2 hb.lt
       have hown2 := own_below (own_drewN ho 1) hb2
       have hT2 : Turned w w2 g := ⟨((Below.refl _ _).drew).trans (hb2.mono (Nat.le_of_lt hb.lt)), fun k hk _ _ => hb2.block k hk⟩
       have hlt2 := hblk2.lt
       have q2 := hblk2.c 0 rfl)
    | (refine step_append_str _ (by rfl) (.tmp 8) (.tmp 10) 110 9 (by rfl) (g + 1) 5 i0 Tryz.underlying110 Tryz.underlying9 hi0 hz0 hz1 hz2 v S.b.length _ (by rfl) (by first | exact hown2 | exact own_drewN hown2 1) (bs (be d 8)) (by rfl) (by rw [bs_size]; simp [maxLen]; omega) (by rw [bs_size]; omega) hlt2 ?_
       intro v3 w3 hown3 hg3
       obtain ⟨A3, n3, rfl⟩ := own_shape hown3
       obtain ⟨hb3, ht3, hW3, hT3⟩ := wrt_str hblk2 hown2 hown3 hg3
       have c3 := hb3.c 0 rfl
       have f3 := hb3.frozen 0))
  all_goals
    go_wp2_with fail
    go_end0
    exact ⟨rfl, hW3, hT2.trans hT3⟩
end Go.Proofs.YtjhaafbbdgjagaaGreat
