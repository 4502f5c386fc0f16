/- DigestClash: where two unlike leaves hold at one place, two unlike images of one digest are told, and none else. The arguments are of bulk at most 1048576. -/
import Derived.Test.YtjmkcndjjfokiaaProg
import Derived.Test.YtjmkcndjjfokiaaFrameB
import Derived.Test.YtjmkcndjjfokiaaOpenW
import Derived.Test.YtjmkcndjjfokiaaNodT
import Derived.Test.YtjmkcndjjfokiaaHold6
import Derived.Test.YtjmkcndjjfokiaaClash6
import Derived.Test.YtjmkcndjjfokiaaRows
namespace Go.Proofs.Ytjmkcndjjfokiaa
open Go.RowKit
section
open Go.ChangeShapes Go.WideShapes Go.ChangeAt Go.Deep
variable {H : Type} {enc : TypeId × Value → H} {W : World}
def strM (s : List UInt8) : Nat := s.length + 1
set_option maxRecDepth 100000 in
theorem openB_strs {v : Value} {d : DataW H} {p : List MemPlace} (hv : Value.okWide Try.prog W .any 0 23 v) (h : DataW.Trod enc Try.prog W 0 (fun _ => true) true 23 v d p) :
    ∃ A c l, v = .slice A l.length c ∧ (l.length ≤ c ∧ c ≤ maxLen ∧ Strs W W.heap.size A l ∧ Short l) ∧ l.length ≤ Rows.uptoBulk d := by
  obtain ⟨fuel, hf⟩ := h
  obtain ⟨a, len, cap, rfl⟩ := okWide_slice Try.underlying23 hv
  obtain ⟨l, hl, hm⟩ := slOf_of_trodB strM (size := 1) (R := IsStr) Try.underlying23 (by kernel_rfl) (by omega) str_trodB _ _ _ hf
  obtain ⟨A, c, e, h1, h2, h3, h4⟩ := hl.flat (fun s => [.string (bs s)]) (fun _ _ hx => hx.1)
  simp [Value.cells] at e
  obtain ⟨rfl, rfl, rfl⟩ := e
  have hm : sumL strM l + 1 ≤ Rows.uptoBulk d := hm
  have hlm := sumL_len strM (fun s => by unfold strM; omega) l
  refine ⟨_, _, l, rfl, ⟨h1, h2, ?_, fun s hs => ?_⟩, by omega⟩
  · rw [flatMap_one] at h3
    exact h3
  · obtain ⟨cs, hc⟩ := h4 s hs
    exact hc.2
set_option maxRecDepth 100000 in
theorem openB_str {v : Value} {d : DataW H} {p : List MemPlace} (hv : Value.okWide Try.prog W .any 0 9 v) (h : DataW.Trod enc Try.prog W 0 (fun _ => true) true 9 v d p) :
    ∃ s, v = .string (bs s) ∧ s.length ≤ maxLen ∧ s.length ≤ Rows.uptoBulk d := by
  obtain ⟨fuel, hf⟩ := h
  obtain ⟨s, rfl⟩ := okWide_string Try.underlying9 hv
  obtain ⟨s', hs, hm⟩ := str_trodB _ _ _ hf
  obtain ⟨e, hl⟩ := hs
  have hm : s'.length + 1 ≤ Rows.uptoBulk d := hm
  simp [Value.cells] at e
  subst e
  exact ⟨s', rfl, hl, by omega⟩
end

def oX (o : Option (ImgP × ImgP)) : ImgP × ImgP := o.getD ((0, []), (0, []))
/-- what both sides' clashes answer -/
def ClAns (w : World) (x y : ImgP) (f : Bool) (e : Ending) (w' : World) : Prop :=
  ∃ A c A' c', e = .returned (.tuple #[.agg #[.int .i64 x.1, .slice A x.2.length c], .agg #[.int .i64 y.1, .slice A' y.2.length c'], .bool f]) ∧ Strs w' w'.heap.size A x.2 ∧ Strs w' w'.heap.size A' y.2 ∧ From w.heap.size A ∧ From w.heap.size A' ∧ Below w.heap.size w w'
theorem strs_nil (w : World) (B : Nat) (A : Option Addr) : Strs w B A [] := Rd.nil w B 1 A
theorem ClashAns.cl {w w' : World} {wd : Int} {o : Option (ImgP × ImgP)} {f : Bool} {e : Ending} (h : ClashAns w w.heap.size o e w') (ht : TellS wd o f) : ClAns w (oX o).1 (oX o).2 f e w' := by
  obtain ⟨hb, h⟩ := h
  rcases ht with ⟨rfl, rfl⟩ | ⟨x, y, rfl, rfl, _⟩
  · rcases h with ⟨_, rfl⟩ | ⟨x, y, _, _, _, _, h, _⟩
    · exact ⟨none, 0, none, 0, rfl, strs_nil _ _ _, strs_nil _ _ _, fun b off e => by simp at e, fun b off e => by simp at e, hb⟩
    · cases h
  · rcases h with ⟨h, _⟩ | ⟨x', y', A, c, A', c', h, rfl, h1, h2, h3, h4⟩
    · cases h
    · cases h
      exact ⟨A, c, A', c', rfl, h1, h2, h3, h4, hb⟩
theorem Below.allocS {a w : World} (h : Below a.heap.size a w) (o : Obj) : Below a.heap.size a (w.alloc o) := h.alloc h.size o
theorem clS_of {w6 W : World} {P Q b off : Nat} {n a n5 a5 : Int} {A1 A5 : Option Addr} {m m5 c1 c5 : Nat} {lK : List UInt8} (hP : Blk w6 P 37 #[.int .i64 n, .int .i64 a, .slice A1 m c1]) (hQ : Blk w6 Q 37 #[.int .i64 n5, .int .i64 a5, .slice A5 m5 c5]) (hb : b < w6.heap.size) (hk : w6.cell? ⟨b, off, none⟩ = some (.string (bs lK))) (h : Below w6.heap.size w6 W) :
    W.cell? ⟨b, off, none⟩ = some (.string (bs lK)) ∧ W.cell? ⟨P, 0, none⟩ = some (.int .i64 n) ∧ W.cell? ⟨P, 1, none⟩ = some (.int .i64 a) ∧ W.cell? ⟨P, 2, none⟩ = some (.slice A1 m c1) ∧ W.cell? ⟨Q, 0, none⟩ = some (.int .i64 n5) ∧ W.cell? ⟨Q, 1, none⟩ = some (.int .i64 a5) ∧ W.cell? ⟨Q, 2, none⟩ = some (.slice A5 m5 c5) :=
  have hP' := hP.below h hP.lt
  have hQ' := hQ.below h hQ.lt
  ⟨(h.cell hb).trans hk, hP'.cell 0, hP'.cell 1, hP'.cell 2, hQ'.cell 0, hQ'.cell 1, hQ'.cell 2⟩
theorem TellS.x {wd : Int} {o : Option (ImgP × ImgP)} {f : Bool} (h : TellS wd o f) : (oX o).1.2.length ≤ maxLen ∧ (oX o).2.2.length ≤ maxLen ∧ Short (oX o).1.2 ∧ Short (oX o).2.2 ∧ (f = true → ofS wd (oX o).1.1 (oX o).1.2 = ofS wd (oX o).2.1 (oX o).2.2 ∧ sameI (oX o).1 (oX o).2 = false) ∧ (f = false → (oX o).1.2.length = 0 ∧ (oX o).2.2.length = 0) := by
  rcases h with ⟨rfl, rfl⟩ | ⟨x, y, rfl, rfl, h1, h2, h3, h4, h5, h6⟩
  · exact ⟨Nat.zero_le _, Nat.zero_le _, fun p hp => absurd hp (by simp [oX]), fun p hp => absurd hp (by simp [oX]), fun h => absurd h (by simp), fun _ => ⟨rfl, rfl⟩⟩
  · exact ⟨h3, h4, h5, h6, fun _ => ⟨h1, h2⟩, fun h => absurd h (by simp)⟩
theorem sameI_refl (x : ImgP) : sameI x x = true := by simp [sameI]
/-- two images behind a call -/
def Two (w6 W : World) (x y : ImgP) (Q0 Q1 : Nat) : Prop :=
  ∃ Ax cx Ay cy, Blk W Q0 45 #[.int .i64 x.1, .slice Ax x.2.length cx] ∧ Blk W Q1 45 #[.int .i64 y.1, .slice Ay y.2.length cy] ∧ Strs W W.heap.size Ax x.2 ∧ Strs W W.heap.size Ay y.2 ∧ Below w6.heap.size w6 W
theorem Two.swap {w6 W : World} {x y : ImgP} {Q0 Q1 : Nat} (h : Two w6 W x y Q0 Q1) : Two w6 W y x Q1 Q0 := by
  obtain ⟨Ax, cx, Ay, cy, h1, h2, h3, h4, h5⟩ := h
  exact ⟨Ay, cy, Ax, cx, h2, h1, h4, h3, h5⟩
section
variable {w6 w7 : World} {x y : ImgP} {Ax Ay : Option Addr} {cx cy lo : Nat} (hs0 : Strs w7 w7.heap.size Ax x.2) (hs1 : Strs w7 w7.heap.size Ay y.2) (hf0 : From lo Ax) (hf1 : From lo Ay) (hb : Below w6.heap.size w6 w7)
include hs0 hs1 hb
theorem Two.nn : Two w6 ((w7.alloc (.cells #[.int .i64 x.1, .slice Ax x.2.length cx] 45)).alloc (.cells #[.int .i64 y.1, .slice Ay y.2.length cy] 45)) x y w7.heap.size (w7.heap.size + 1) := by
  have hN := Blk.new (w7.alloc (.cells #[.int .i64 x.1, .slice Ax x.2.length cx] 45)) 45 #[.int .i64 y.1, .slice Ay y.2.length cy]
  rw [show (w7.alloc (.cells #[.int .i64 x.1, .slice Ax x.2.length cx] 45)).heap.size = w7.heap.size + 1 from by simp] at hN
  exact ⟨Ax, cx, Ay, cy, (Blk.new _ _ _).alloc _, hN, Rd.more (Rd.alloc (Rd.alloc hs0 (Nat.le_refl _) _) (by simp) _) (by simp; omega), Rd.more (Rd.alloc (Rd.alloc hs1 (Nat.le_refl _) _) (by simp) _) (by simp; omega), Below.allocS (Below.allocS hb _) _⟩
include hf0 hf1
theorem Two.on {p : Nat} (hp : Blk w7 p 45 #[.int .i64 0, .slice none 0 0]) (hpl : p < lo) (hpg : w6.heap.size ≤ p) : Two w6 (((w7.setCell ⟨p, 0, none⟩ (.int .i64 x.1)).setCell ⟨p, 1, none⟩ (.slice Ax x.2.length cx)).alloc (.cells #[.int .i64 y.1, .slice Ay y.2.length cy] 45)) x y p w7.heap.size := by
  have hN := Blk.new ((w7.setCell ⟨p, 0, none⟩ (.int .i64 x.1)).setCell ⟨p, 1, none⟩ (.slice Ax x.2.length cx)) 45 #[.int .i64 y.1, .slice Ay y.2.length cy]
  rw [show ((w7.setCell ⟨p, 0, none⟩ (.int .i64 x.1)).setCell ⟨p, 1, none⟩ (.slice Ax x.2.length cx)).heap.size = w7.heap.size from by simp [World.setCell]] at hN
  exact ⟨Ax, cx, Ay, cy, ((hp.set_ 0 _).set_ 1 _).alloc _, hN, Rd.more (Rd.alloc (Rd.setCellF (Rd.setCellF hs0 hf0 hpl _) hf0 hpl _) (by simp [World.setCell]) _) (by simp [World.setCell]), Rd.more (Rd.alloc (Rd.setCellF (Rd.setCellF hs1 hf1 hpl _) hf1 hpl _) (by simp [World.setCell]) _) (by simp [World.setCell]), Below.allocS ((hb.setCell (p := ⟨p, 0, none⟩) hpg _).setCell (p := ⟨p, 1, none⟩) hpg _) _⟩
theorem Two.oo {p q : Nat} (hp : Blk w7 p 45 #[.int .i64 0, .slice none 0 0]) (hq : Blk w7 q 45 #[.int .i64 0, .slice none 0 0]) (hpq : p ≠ q) (hpl : p < lo) (hpg : w6.heap.size ≤ p) (hql : q < lo) (hqg : w6.heap.size ≤ q) : Two w6 ((((w7.setCell ⟨p, 0, none⟩ (.int .i64 x.1)).setCell ⟨p, 1, none⟩ (.slice Ax x.2.length cx)).setCell ⟨q, 0, none⟩ (.int .i64 y.1)).setCell ⟨q, 1, none⟩ (.slice Ay y.2.length cy)) x y p q := by
  exact ⟨Ax, cx, Ay, cy, (((hp.set_ 0 _).set_ 1 _).far hpq _).far hpq _, (((hq.far (Ne.symm hpq) _).far (Ne.symm hpq) _).set_ 0 _).set_ 1 _, Rd.more (Rd.setCellF (Rd.setCellF (Rd.setCellF (Rd.setCellF hs0 hf0 hpl _) hf0 hpl _) hf0 hql _) hf0 hql _) (by simp [World.setCell]), Rd.more (Rd.setCellF (Rd.setCellF (Rd.setCellF (Rd.setCellF hs1 hf1 hpl _) hf1 hpl _) hf1 hql _) hf1 hql _) (by simp [World.setCell]), (((hb.setCell hpg _).setCell hpg _).setCell hqg _).setCell hqg _⟩
end
set_option maxRecDepth 100000 in
set_option maxHeartbeats 4000000 in
theorem digestClash_walk (wd : Int) (l : List (List UInt8)) (A : Option Addr) (c : Nat) (at' : Int) (s : List UInt8) (how d : Int) (w : World) (h : Strs w w.heap.size A l) (hc : l.length ≤ c) (hcm : c ≤ maxLen) (hsh : Short l) (hsl : s.length ≤ maxLen) (hhow : -9223372036854775808 ≤ how) (hdd : -9223372036854775808 ≤ d) (hlb : l.length ≤ 1048576) (hsb : s.length ≤ 1048576) :
    Calls Try.prog 5 #[.int .i64 wd, .slice A l.length c, .int .i64 at', .string (bs s), .int .i64 how, .int .i64 d] w fun e w' => e = .returned (.bool true) ∧ Below w.heap.size w w' := by
  have hsum := sum_any l A c w.heap.size w h (by omega) hsh
  generalize hsw : sumW l (l.length : Int) = sw at *
  obtain ⟨Z, hZ⟩ : ∃ Z, IntKind.i64.wrap (sw + (s.length : Int)) = Z := ⟨_, rfl⟩
  have hZ' : wrap64 (sw + (s.length : Int)) = Z := by rw [← hZ, IntWalk.i64_left]
  by_cases hbig : 65536 < Z
  · go_enter Try.func5, Try.ntmps5
    go_wp2_with fail
    refine hsum.mono ?_
    rintro e w0 ⟨rfl, rfl⟩
    go_wp2_with fail
    go_ret
    exact ⟨rfl, Below.refl _ _⟩
  have hl : l.length ≤ 65536 := by
    by_cases hn : (l.length : Int) ≤ 65536
    · omega
    · rw [sumW_big l _ hn] at hsw
      rw [← hsw, IntWalk.i64_in _ (by omega)] at hZ
      omega
  have hroot := root_any wd l A c w.heap.size w h (Nat.le_refl _) hl hsh hc hcm
  by_cases hat : 0 ≤ at' ∧ at' < (l.length : Int)
  · obtain ⟨K, rfl⟩ := Int.eq_ofNat_of_zero_le hat.1
    have hK : K < l.length := by omega
    have hKi : (K : Int) < (l.length : Int) := hat.2
    have hK0 : (0 : Int) ≤ (K : Int) := hat.1
    clear hat
    have hhp := holds_path wd l K hK hl
    have hpa := fun W g1 g2 => path_any wd K l A c w.heap.size W g1 g2 hl hsh hc hcm hK
    have hdb := pathF_bd l.length wd l K
    have hdb1 : (pathS wd l K).length ≤ 65536 := by have := hdb.1; unfold pathS; omega
    have hdb2 : ∀ d ∈ pathS wd l K, 0 ≤ d ∧ d < 18446744073709551616 := hdb.2
    clear hdb
    have hlK := hsh l[K] (List.getElem_mem hK)
    obtain ⟨b, off, rfl, hbB, kK⟩ := Strs.at_ h hK
    generalize hds : pathS wd l K = ds at *
    clear hds
    generalize rootS wd l = R at *
    have hlKx : ∃ x, x = l[K] := ⟨_, rfl⟩
    obtain ⟨lK, hlKe⟩ := hlKx
    rw [← hlKe] at hhp hlK kK
    clear hlKe
    go_enter Try.func5, Try.ntmps5
    go_wp2_with fail
    refine hsum.mono ?_
    rintro e w0 ⟨rfl, rfl⟩
    go_wp2_with fail
    refine hroot.mono ?_
    rintro e w1 ⟨rfl, hb1⟩
    go_wp2_with fail
    refine (hpa _ (h.below hb1) hb1.size).mono ?_
    rintro e w2 ⟨v, rfl, ⟨A1, c1, rfl, hrd2, hf2⟩, hb2⟩
    have hbel2 := hb1.trans (hb2.mono hb1.size)
    have hbelW := hbel2.alloc hbel2.size (.cells #[.int .i64 (l.length : Int), .int .i64 (K : Int), .slice A1 ds.length c1] 37)
    have hP := Blk.new w2 37 #[.int .i64 (l.length : Int), .int .i64 (K : Int), .slice A1 ds.length c1]
    have hrd3 := Rd.more (Rd.alloc hrd2 (Nat.le_refl _) (.cells #[.int .i64 (l.length : Int), .int .i64 (K : Int), .slice A1 ds.length c1] 37)) (show w2.heap.size ≤ (w2.alloc (.cells #[.int .i64 (l.length : Int), .int .i64 (K : Int), .slice A1 ds.length c1] 37)).heap.size by simp)
    have hp0 := (hP.cell 0).trans (show _ = some (Value.int .i64 (l.length : Int)) from rfl)
    have hp1 := (hP.cell 1).trans (show _ = some (Value.int .i64 (K : Int)) from rfl)
    have hp2 := (hP.cell 2).trans (show _ = some (Value.slice A1 ds.length c1) from rfl)
    have hdlW : ds.length ≤ 1000000 := by omega
    go_upto_region 5 with fail
    generalize hw3 : (w2.alloc (.cells #[.int .i64 (l.length : Int), .int .i64 (K : Int), .slice A1 ds.length c1] 37)) = w3 at *
    clear hw3 hsum hroot hpa hb1 hb2 hbel2 hrd2
    go_wp2_with fail
    refine (spoil_any (l.length : Int) (K : Int) how d ds A1 c1 w3.heap.size w3 hrd3 (Nat.le_refl _) hdb2 hdlW hhow hdd).mono ?_
    rintro e w5 ⟨n5, a5, ds5, A5, c5, rfl, hrd5, hd5, hl5, hb5⟩
    have hbel5 := hbelW.trans (hb5.mono hbelW.size)
    have hP5 := hP.below hb5 hP.lt
    have hrdp5 := Rd.below hrd3 hb5
    have hbel6 := hbel5.alloc hbel5.size (.cells #[.int .i64 n5, .int .i64 a5, .slice A5 ds5.length c5] 37)
    have hP6 := hP5.alloc (.cells #[.int .i64 n5, .int .i64 a5, .slice A5 ds5.length c5] 37)
    have hrdp6 := Rd.alloc hrdp5 hb5.size (.cells #[.int .i64 n5, .int .i64 a5, .slice A5 ds5.length c5] 37)
    have hQ6 := Blk.new w5 37 #[.int .i64 n5, .int .i64 a5, .slice A5 ds5.length c5]
    have hrd6 := Rd.alloc hrd5 (Nat.le_refl _) (.cells #[.int .i64 n5, .int .i64 a5, .slice A5 ds5.length c5] 37)
    have hsz6 : w5.heap.size ≤ (w5.alloc (.cells #[.int .i64 n5, .int .i64 a5, .slice A5 ds5.length c5] 37)).heap.size := by simp
    have hz5 := hb5.size
    clear hP hp0 hp1 hp2 hrd3 hb5 hbelW hbel5 hrd5 hP5 hrdp5
    go_upto_region 10 with fail
    generalize hw6 : (w5.alloc (.cells #[.int .i64 n5, .int .i64 a5, .slice A5 ds5.length c5] 37)) = w6 at *
    clear hw6
    have hT := clash_tell wd R lK s hlK hsl (l.length : Int) (K : Int) n5 a5 ds ds5 hhp
    have hcl := fun W (g : Below w6.heap.size w6 W) => (clash_any wd R lK s hlK hsl (l.length : Int) (K : Int) n5 a5 ds ds5 A1 A5 c1 c5 w6.heap.size W (Rd.below (Rd.more hrdp6 (Nat.le_trans hz5 hsz6)) g) (Rd.below (Rd.more hrd6 hsz6) g) g.size hdb2 hd5 (by omega) (by omega)).mono fun e w' h => h.cl hT
    have hrl := fun W (g : Below w6.heap.size w6 W) => (rlistClash_any wd R lK s hlK hsl (l.length : Int) (K : Int) n5 a5 ds ds5 A1 A5 c1 c5 w6.heap.size W (Rd.below (Rd.more hrdp6 (Nat.le_trans hz5 hsz6)) g) (Rd.below (Rd.more hrd6 hsz6) g) g.size hdb2 hd5 (by omega) (by omega)).mono fun e w' h => h.cl hT
    have hho := fun W (g : Below w6.heap.size w6 W) => holds_any wd R s hsl n5 a5 ds5 A5 c5 w6.heap.size W (Rd.below (Rd.more hrd6 hsz6) g) g.size hd5 (by omega)
    obtain ⟨hx1, hx2, hx3, hx4, hx5, hx6⟩ := hT.x
    clear hT hhp
    generalize hf : (holdsS wd R s n5 a5 ds5 && decide (s ≠ lK) && decide (a5 = (K : Int))) = ff at *
    generalize holdsS wd R s n5 a5 ds5 = hh at *
    have HF := Lib.hid hf
    clear hf
    generalize (oX (clashS wd R lK (l.length : Int) (K : Int) ds s n5 a5 ds5)).1 = x at *
    generalize (oX (clashS wd R lK (l.length : Int) (K : Int) ds s n5 a5 ds5)).2 = y at *
    have HX5 := Lib.hid hx5
    have HX6 := Lib.hid hx6
    clear hx5 hx6 hrd6 hrdp6
    have kK6 : w6.cell? ⟨b, off + K, none⟩ = some (.string (bs lK)) := (hbel6.cell (by simpa using hbB)).trans kK
    clear kK h
    have hbB6 : b < w6.heap.size := Nat.lt_of_lt_of_le hbB hbel6.size
    have hP6l := hP6.lt
    have hQ6l := hQ6.lt
    go_cut [17, 18, 19] (fun pa pb f wc => ∃ (Q0 Q1 : Nat), pa = .pointer (some ⟨Q0, 0, none⟩) ∧ pb = .pointer (some ⟨Q1, 0, none⟩) ∧ f = .bool ff ∧ Two w6 wc x y Q0 Q1)
    case first =>
      as_aux_lemma =>
      have p0 := (hP6.cell 0).trans (show _ = some (Value.int .i64 (l.length : Int)) from rfl)
      have p1 := (hP6.cell 1).trans (show _ = some (Value.int .i64 (K : Int)) from rfl)
      have p2 := (hP6.cell 2).trans (show _ = some (Value.slice A1 ds.length c1) from rfl)
      have q0 := (hQ6.cell 0).trans (show _ = some (Value.int .i64 n5) from rfl)
      have q1 := (hQ6.cell 1).trans (show _ = some (Value.int .i64 a5) from rfl)
      have q2 := (hQ6.cell 2).trans (show _ = some (Value.slice A5 ds5.length c5) from rfl)
      go_region_held3 (fun W => W.cell? ⟨b, off + K, none⟩ = some (.string (bs lK)) ∧ W.cell? ⟨w2.heap.size, 0, none⟩ = some (Value.int .i64 (l.length : Int)) ∧ W.cell? ⟨w2.heap.size, 1, none⟩ = some (Value.int .i64 (K : Int)) ∧ W.cell? ⟨w2.heap.size, 2, none⟩ = some (Value.slice A1 ds.length c1) ∧ W.cell? ⟨w5.heap.size, 0, none⟩ = some (Value.int .i64 n5) ∧ W.cell? ⟨w5.heap.size, 1, none⟩ = some (Value.int .i64 a5) ∧ W.cell? ⟨w5.heap.size, 2, none⟩ = some (Value.slice A5 ds5.length c5)) (exact clS_of hP6 hQ6 hbB6 kK6 (by repeat (first | assumption | exact Below.refl _ _ | refine Below.setCell ?_ (by first | omega | (simp; done) | (simp; omega)) _ | refine Below.allocS ?_ _ | refine Below.drew ?_ | refine Below.drewN ?_ _))) (first
        | (go_at_call 27
           with_reducible refine (hcl w6.drew (((Below.refl _ _)).drew)).mono ?_
           rintro e w7 ⟨Ax, cx, Ay, cy, rfl, hs0, hs1, hf0, hf1, hb7⟩
           have hbz : Below w6.heap.size w6 w7 := (((Below.refl _ _)).drew).trans hb7
           have hP7 := hP6.below hbz hP6.lt
           have hQ7 := hQ6.below hbz hQ6.lt
           have y0 := (hP7.cell 0).trans (show _ = some (Value.int .i64 (l.length : Int)) from rfl)
           have y1 := (hP7.cell 1).trans (show _ = some (Value.int .i64 (K : Int)) from rfl)
           have y2 := (hP7.cell 2).trans (show _ = some (Value.slice A1 ds.length c1) from rfl)
           have y3 := (hQ7.cell 0).trans (show _ = some (Value.int .i64 n5) from rfl)
           have y4 := (hQ7.cell 1).trans (show _ = some (Value.int .i64 a5) from rfl)
           have y5 := (hQ7.cell 2).trans (show _ = some (Value.slice A5 ds5.length c5) from rfl)
           have y6 : w7.cell? ⟨b, off + K, none⟩ = some (.string (bs lK)) := (hbz.cell hbB6).trans kK6
           dsimp only)
        | (go_at_call 27
           with_reducible refine (hcl (w6.alloc (.cells #[.int .i64 0, .slice none 0 0] 45)).drew (((Below.refl _ _).alloc (Nat.le_refl _) _).drew)).mono ?_
           rintro e w7 ⟨Ax, cx, Ay, cy, rfl, hs0, hs1, hf0, hf1, hb7⟩
           have hbz : Below w6.heap.size w6 w7 := (((Below.refl _ _).alloc (Nat.le_refl _) _).drew).trans (hb7.mono (by simp))
           have hP7 := hP6.below hbz hP6.lt
           have hQ7 := hQ6.below hbz hQ6.lt
           have y0 := (hP7.cell 0).trans (show _ = some (Value.int .i64 (l.length : Int)) from rfl)
           have y1 := (hP7.cell 1).trans (show _ = some (Value.int .i64 (K : Int)) from rfl)
           have y2 := (hP7.cell 2).trans (show _ = some (Value.slice A1 ds.length c1) from rfl)
           have y3 := (hQ7.cell 0).trans (show _ = some (Value.int .i64 n5) from rfl)
           have y4 := (hQ7.cell 1).trans (show _ = some (Value.int .i64 a5) from rfl)
           have y5 := (hQ7.cell 2).trans (show _ = some (Value.slice A5 ds5.length c5) from rfl)
           have y6 : w7.cell? ⟨b, off + K, none⟩ = some (.string (bs lK)) := (hbz.cell hbB6).trans kK6
           dsimp only
           have hNb : Blk w7 w6.heap.size 45 #[.int .i64 0, .slice none 0 0] := (Blk.drew (Blk.new w6 45 #[.int .i64 0, .slice none 0 0])).below hb7 (by simp)
           have fz0 := hNb.frozen 0
           have fc0 := (hNb.cell 0).trans (show _ = some (Value.int .i64 0) from rfl)
           have fz1 := hNb.frozen 1
           have fc1 := (hNb.cell 1).trans (show _ = some (Value.slice none 0 0) from rfl)
           have hnl := hNb.lt
           have n1 : ¬ w7.heap.size = w6.heap.size := by omega
           have n2 : ¬ w6.heap.size = w7.heap.size := by omega)
        | (go_at_call 27
           with_reducible refine (hcl ((w6.alloc (.cells #[.int .i64 0, .slice none 0 0] 45)).alloc (.cells #[.int .i64 0, .slice none 0 0] 45)).drew ((((Below.refl _ _).alloc (Nat.le_refl _) _).alloc (by simp) _).drew)).mono ?_
           rintro e w7 ⟨Ax, cx, Ay, cy, rfl, hs0, hs1, hf0, hf1, hb7⟩
           have hbz : Below w6.heap.size w6 w7 := ((((Below.refl _ _).alloc (Nat.le_refl _) _).alloc (by simp) _).drew).trans (hb7.mono (by first | (simp; done) | (simp; omega)))
           have hP7 := hP6.below hbz hP6.lt
           have hQ7 := hQ6.below hbz hQ6.lt
           have y0 := (hP7.cell 0).trans (show _ = some (Value.int .i64 (l.length : Int)) from rfl)
           have y1 := (hP7.cell 1).trans (show _ = some (Value.int .i64 (K : Int)) from rfl)
           have y2 := (hP7.cell 2).trans (show _ = some (Value.slice A1 ds.length c1) from rfl)
           have y3 := (hQ7.cell 0).trans (show _ = some (Value.int .i64 n5) from rfl)
           have y4 := (hQ7.cell 1).trans (show _ = some (Value.int .i64 a5) from rfl)
           have y5 := (hQ7.cell 2).trans (show _ = some (Value.slice A5 ds5.length c5) from rfl)
           have y6 : w7.cell? ⟨b, off + K, none⟩ = some (.string (bs lK)) := (hbz.cell hbB6).trans kK6
           dsimp only
           have hNb : Blk w7 w6.heap.size 45 #[.int .i64 0, .slice none 0 0] := (Blk.drew ((Blk.new w6 45 #[.int .i64 0, .slice none 0 0]).alloc _)).below hb7 (by first | (simp; done) | (simp; omega))
           have hNc : Blk w7 (w6.heap.size + 1) 45 #[.int .i64 0, .slice none 0 0] := (Blk.drew (by have hN := Blk.new (w6.alloc (.cells #[.int .i64 0, .slice none 0 0] 45)) 45 #[.int .i64 0, .slice none 0 0]; simpa using hN)).below hb7 (by first | (simp; done) | (simp; omega))
           have fb0 := hNb.frozen 0
           have gb0 := (hNb.cell 0).trans (show _ = some (Value.int .i64 0) from rfl)
           have fb1 := hNb.frozen 1
           have gb1 := (hNb.cell 1).trans (show _ = some (Value.slice none 0 0) from rfl)
           have fc0 := hNc.frozen 0
           have gc0 := (hNc.cell 0).trans (show _ = some (Value.int .i64 0) from rfl)
           have fc1 := hNc.frozen 1
           have gc1 := (hNc.cell 1).trans (show _ = some (Value.slice none 0 0) from rfl)))
      · go_wp2_with fail
        go_meet
        exact ⟨_, _, rfl, rfl, rfl, Two.nn hs0 hs1 hbz⟩
      · go_wp2_with fail
        go_meet
        exact ⟨_, _, rfl, rfl, rfl, (Two.nn hs1 hs0 hbz).swap⟩
      · go_wp2_with fail
        go_meet
        exact ⟨_, _, rfl, rfl, rfl, Two.on hs0 hs1 hf0 hf1 hbz hNb (by simp) (Nat.le_refl _)⟩
      · go_wp2_with fail
        go_meet
        exact ⟨_, _, rfl, rfl, rfl, Two.oo hs0 hs1 hf0 hf1 hbz hNb hNc (by simp) (by simp; omega) (Nat.le_refl _) (by simp) (Nat.le_succ _)⟩
      · go_wp2_with fail
        go_meet
        exact ⟨_, _, rfl, rfl, rfl, (Two.on hs1 hs0 hf1 hf0 hbz hNb (by simp) (Nat.le_refl _)).swap⟩
      · go_wp2_with fail
        go_meet
        exact ⟨_, _, rfl, rfl, rfl, Two.oo hs0 hs1 hf0 hf1 hbz hNc hNb (by simp) (by simp) (Nat.le_succ _) (by simp; omega) (Nat.le_refl _)⟩
    case rest =>
      as_aux_lemma =>
      obtain ⟨Q0, Q1, rfl, rfl, rfl, Ax, cx, Ay, cy, hk0, hk1, hs0, hs1, hbc⟩ := hcut
      obtain ⟨wp, rfl⟩ : ∃ wp : World, wp = wc := ⟨_, rfl⟩
      have hrlc := fun W (g : Below wp.heap.size wp W) => hrl W (hbc.trans (g.mono hbc.size))
      have hPc := hP6.below hbc hP6.lt
      have hQc := hQ6.below hbc hQ6.lt
      have kKc : wp.cell? ⟨b, off + K, none⟩ = some (.string (bs lK)) := (hbc.cell hbB6).trans kK6
      have hbBc := Nat.lt_of_lt_of_le hbB6 hbc.size
      have hPcl := hPc.lt
      have hQcl := hQc.lt
      go_upto_region 11 with fail
      go_cut [20, 21, 22] (fun pa pb f wc => ∃ (Q0 Q1 : Nat), pa = .pointer (some ⟨Q0, 0, none⟩) ∧ pb = .pointer (some ⟨Q1, 0, none⟩) ∧ f = .bool ff ∧ Two wp wc x y Q0 Q1)
      case first =>
        as_aux_lemma =>
        have p0 := (hPc.cell 0).trans (show _ = some (Value.int .i64 (l.length : Int)) from rfl)
        have p1 := (hPc.cell 1).trans (show _ = some (Value.int .i64 (K : Int)) from rfl)
        have p2 := (hPc.cell 2).trans (show _ = some (Value.slice A1 ds.length c1) from rfl)
        have q0 := (hQc.cell 0).trans (show _ = some (Value.int .i64 n5) from rfl)
        have q1 := (hQc.cell 1).trans (show _ = some (Value.int .i64 a5) from rfl)
        have q2 := (hQc.cell 2).trans (show _ = some (Value.slice A5 ds5.length c5) from rfl)
        go_region_held3 (fun W => W.cell? ⟨b, off + K, none⟩ = some (.string (bs lK)) ∧ W.cell? ⟨w2.heap.size, 0, none⟩ = some (Value.int .i64 (l.length : Int)) ∧ W.cell? ⟨w2.heap.size, 1, none⟩ = some (Value.int .i64 (K : Int)) ∧ W.cell? ⟨w2.heap.size, 2, none⟩ = some (Value.slice A1 ds.length c1) ∧ W.cell? ⟨w5.heap.size, 0, none⟩ = some (Value.int .i64 n5) ∧ W.cell? ⟨w5.heap.size, 1, none⟩ = some (Value.int .i64 a5) ∧ W.cell? ⟨w5.heap.size, 2, none⟩ = some (Value.slice A5 ds5.length c5)) (exact clS_of hPc hQc hbBc kKc (by repeat (first | assumption | exact Below.refl _ _ | refine Below.setCell ?_ (by first | omega | (simp; done) | (simp; omega)) _ | refine Below.allocS ?_ _ | refine Below.drew ?_ | refine Below.drewN ?_ _))) (first
          | (go_at_call 28
             with_reducible refine (hrlc wp.drew (((Below.refl _ _)).drew)).mono ?_
             rintro e w7 ⟨Ax, cx, Ay, cy, rfl, hs0, hs1, hf0, hf1, hb7⟩
             have hbz : Below wp.heap.size wp w7 := (((Below.refl _ _)).drew).trans hb7
             have hP7 := hPc.below hbz hPc.lt
             have hQ7 := hQc.below hbz hQc.lt
             have y0 := (hP7.cell 0).trans (show _ = some (Value.int .i64 (l.length : Int)) from rfl)
             have y1 := (hP7.cell 1).trans (show _ = some (Value.int .i64 (K : Int)) from rfl)
             have y2 := (hP7.cell 2).trans (show _ = some (Value.slice A1 ds.length c1) from rfl)
             have y3 := (hQ7.cell 0).trans (show _ = some (Value.int .i64 n5) from rfl)
             have y4 := (hQ7.cell 1).trans (show _ = some (Value.int .i64 a5) from rfl)
             have y5 := (hQ7.cell 2).trans (show _ = some (Value.slice A5 ds5.length c5) from rfl)
             have y6 : w7.cell? ⟨b, off + K, none⟩ = some (.string (bs lK)) := (hbz.cell hbBc).trans kKc
             dsimp only)
          | (go_at_call 28
             with_reducible refine (hrlc (wp.alloc (.cells #[.int .i64 0, .slice none 0 0] 45)).drew (((Below.refl _ _).alloc (Nat.le_refl _) _).drew)).mono ?_
             rintro e w7 ⟨Ax, cx, Ay, cy, rfl, hs0, hs1, hf0, hf1, hb7⟩
             have hbz : Below wp.heap.size wp w7 := (((Below.refl _ _).alloc (Nat.le_refl _) _).drew).trans (hb7.mono (by simp))
             have hP7 := hPc.below hbz hPc.lt
             have hQ7 := hQc.below hbz hQc.lt
             have y0 := (hP7.cell 0).trans (show _ = some (Value.int .i64 (l.length : Int)) from rfl)
             have y1 := (hP7.cell 1).trans (show _ = some (Value.int .i64 (K : Int)) from rfl)
             have y2 := (hP7.cell 2).trans (show _ = some (Value.slice A1 ds.length c1) from rfl)
             have y3 := (hQ7.cell 0).trans (show _ = some (Value.int .i64 n5) from rfl)
             have y4 := (hQ7.cell 1).trans (show _ = some (Value.int .i64 a5) from rfl)
             have y5 := (hQ7.cell 2).trans (show _ = some (Value.slice A5 ds5.length c5) from rfl)
             have y6 : w7.cell? ⟨b, off + K, none⟩ = some (.string (bs lK)) := (hbz.cell hbBc).trans kKc
             dsimp only
             have hNb : Blk w7 wp.heap.size 45 #[.int .i64 0, .slice none 0 0] := (Blk.drew (Blk.new wp 45 #[.int .i64 0, .slice none 0 0])).below hb7 (by simp)
             have fz0 := hNb.frozen 0
             have fc0 := (hNb.cell 0).trans (show _ = some (Value.int .i64 0) from rfl)
             have fz1 := hNb.frozen 1
             have fc1 := (hNb.cell 1).trans (show _ = some (Value.slice none 0 0) from rfl)
             have hnl := hNb.lt
             have n1 : ¬ w7.heap.size = wp.heap.size := by omega
             have n2 : ¬ wp.heap.size = w7.heap.size := by omega)
          | (go_at_call 28
             with_reducible refine (hrlc ((wp.alloc (.cells #[.int .i64 0, .slice none 0 0] 45)).alloc (.cells #[.int .i64 0, .slice none 0 0] 45)).drew ((((Below.refl _ _).alloc (Nat.le_refl _) _).alloc (by simp) _).drew)).mono ?_
             rintro e w7 ⟨Ax, cx, Ay, cy, rfl, hs0, hs1, hf0, hf1, hb7⟩
             have hbz : Below wp.heap.size wp w7 := ((((Below.refl _ _).alloc (Nat.le_refl _) _).alloc (by simp) _).drew).trans (hb7.mono (by first | (simp; done) | (simp; omega)))
             have hP7 := hPc.below hbz hPc.lt
             have hQ7 := hQc.below hbz hQc.lt
             have y0 := (hP7.cell 0).trans (show _ = some (Value.int .i64 (l.length : Int)) from rfl)
             have y1 := (hP7.cell 1).trans (show _ = some (Value.int .i64 (K : Int)) from rfl)
             have y2 := (hP7.cell 2).trans (show _ = some (Value.slice A1 ds.length c1) from rfl)
             have y3 := (hQ7.cell 0).trans (show _ = some (Value.int .i64 n5) from rfl)
             have y4 := (hQ7.cell 1).trans (show _ = some (Value.int .i64 a5) from rfl)
             have y5 := (hQ7.cell 2).trans (show _ = some (Value.slice A5 ds5.length c5) from rfl)
             have y6 : w7.cell? ⟨b, off + K, none⟩ = some (.string (bs lK)) := (hbz.cell hbBc).trans kKc
             dsimp only
             have hNb : Blk w7 wp.heap.size 45 #[.int .i64 0, .slice none 0 0] := (Blk.drew ((Blk.new wp 45 #[.int .i64 0, .slice none 0 0]).alloc _)).below hb7 (by first | (simp; done) | (simp; omega))
             have hNc : Blk w7 (wp.heap.size + 1) 45 #[.int .i64 0, .slice none 0 0] := (Blk.drew (by have hN := Blk.new (wp.alloc (.cells #[.int .i64 0, .slice none 0 0] 45)) 45 #[.int .i64 0, .slice none 0 0]; simpa using hN)).below hb7 (by first | (simp; done) | (simp; omega))
             have fb0 := hNb.frozen 0
             have gb0 := (hNb.cell 0).trans (show _ = some (Value.int .i64 0) from rfl)
             have fb1 := hNb.frozen 1
             have gb1 := (hNb.cell 1).trans (show _ = some (Value.slice none 0 0) from rfl)
             have fc0 := hNc.frozen 0
             have gc0 := (hNc.cell 0).trans (show _ = some (Value.int .i64 0) from rfl)
             have fc1 := hNc.frozen 1
             have gc1 := (hNc.cell 1).trans (show _ = some (Value.slice none 0 0) from rfl)))
        · go_wp2_with fail
          go_meet
          exact ⟨_, _, rfl, rfl, rfl, Two.nn hs0 hs1 hbz⟩
        · go_wp2_with fail
          go_meet
          exact ⟨_, _, rfl, rfl, rfl, (Two.nn hs1 hs0 hbz).swap⟩
        · go_wp2_with fail
          go_meet
          exact ⟨_, _, rfl, rfl, rfl, Two.on hs0 hs1 hf0 hf1 hbz hNb (by simp) (Nat.le_refl _)⟩
        · go_wp2_with fail
          go_meet
          exact ⟨_, _, rfl, rfl, rfl, Two.oo hs0 hs1 hf0 hf1 hbz hNb hNc (by simp) (by simp; omega) (Nat.le_refl _) (by simp) (Nat.le_succ _)⟩
        · go_wp2_with fail
          go_meet
          exact ⟨_, _, rfl, rfl, rfl, (Two.on hs1 hs0 hf1 hf0 hbz hNb (by simp) (Nat.le_refl _)).swap⟩
        · go_wp2_with fail
          go_meet
          exact ⟨_, _, rfl, rfl, rfl, Two.oo hs0 hs1 hf0 hf1 hbz hNc hNb (by simp) (by simp) (Nat.le_succ _) (by simp; omega) (Nat.le_refl _)⟩
      case rest =>
        as_aux_lemma =>
        obtain ⟨Q2, Q3, rfl, rfl, rfl, Ax2, cx2, Ay2, cy2, hk2, hk3, hs2, hs3, hbe⟩ := hcut
        have hQe := hQc.below hbe hQc.lt
        have kKe : wc.cell? ⟨b, off + K, none⟩ = some (.string (bs lK)) := (hbe.cell hbBc).trans kKc
        have hk0 := hk0.below hbe hk0.lt
        have hk1 := hk1.below hbe hk1.lt
        have hze := hbe.size
        have hs0 := Rd.more (Rd.below hs0 hbe) hze
        have hs1 := Rd.more (Rd.below hs1 hbe) hze
        have hb6e := hbc.trans (hbe.mono hbc.size)
        have q0 := (hQe.cell 0).trans (show _ = some (Value.int .i64 n5) from rfl)
        have q1 := (hQe.cell 1).trans (show _ = some (Value.int .i64 a5) from rfl)
        have q2 := (hQe.cell 2).trans (show _ = some (Value.slice A5 ds5.length c5) from rfl)
        have CH := hho wc hb6e
        have hbe0 := hbel6.trans (hb6e.mono hbel6.size)
        clear hQc kKc hbe hcl hrl hrlc hho hP6 hPc hQ6 kK6 hb6e hbc hbel6
        go_wp2_with fail
        refine CH.mono ?_
        rintro e wf ⟨rfl, hbf0⟩
        have hQf := hQe.below hbf0 hQe.lt
        have q1 := (hQf.cell 1).trans (show _ = some (Value.int .i64 a5) from rfl)
        have kKf : wf.cell? ⟨b, off + K, none⟩ = some (.string (bs lK)) := (hbf0.cell (Nat.lt_of_lt_of_le hbBc hze)).trans kKe
        have hk0 := hk0.below hbf0 hk0.lt
        have hk1 := hk1.below hbf0 hk1.lt
        have hk2 := hk2.below hbf0 hk2.lt
        have hk3 := hk3.below hbf0 hk3.lt
        have hzf := hbf0.size
        have hs0 := Rd.more (Rd.below hs0 hbf0) hzf
        have hs1 := Rd.more (Rd.below hs1 hbf0) hzf
        have hs2 := Rd.more (Rd.below hs2 hbf0) hzf
        have hs3 := Rd.more (Rd.below hs3 hbf0) hzf
        have hbf := hbe0.trans (hbf0.mono hbe0.size)
        clear CH hbf0 q0 q2 hQe kKe hbe0
        cases hh
        · obtain rfl : ff = false := by rw [← HF.out]; simp
          clear HF HX5
          have C0 := sameImage_any x x Ax Ax2 cx cx2 _ _ wf hs0 hs2 (Nat.le_refl _) (Nat.le_refl _) hx1 hx1
          rw [sameI_refl] at C0
          have a0 := (hk0.cell 0).trans (show _ = some (Value.int .i64 x.1) from rfl)
          have a1 := (hk0.cell 1).trans (show _ = some (Value.slice Ax x.2.length cx) from rfl)
          have c0 := (hk2.cell 0).trans (show _ = some (Value.int .i64 x.1) from rfl)
          have c1 := (hk2.cell 1).trans (show _ = some (Value.slice Ax2 x.2.length cx2) from rfl)
          go_wp2_with fail
          refine C0.mono ?_
          rintro e wg ⟨rfl, hbg⟩
          have hk0 := hk0.below hbg hk0.lt
          have hk1 := hk1.below hbg hk1.lt
          have hk3 := hk3.below hbg hk3.lt
          have hzg := hbg.size
          have hs0 := Rd.more (Rd.below hs0 hbg) hzg
          have hs1 := Rd.more (Rd.below hs1 hbg) hzg
          have hs3 := Rd.more (Rd.below hs3 hbg) hzg
          have hbf := hbf.trans (hbg.mono hbf.size)
          clear a0 a1 c0 c1 C0 hk2 hs2 hbg
          have C0 := sameImage_any y y Ay Ay2 cy cy2 _ _ wg hs1 hs3 (Nat.le_refl _) (Nat.le_refl _) hx2 hx2
          rw [sameI_refl] at C0
          have a0 := (hk1.cell 0).trans (show _ = some (Value.int .i64 y.1) from rfl)
          have a1 := (hk1.cell 1).trans (show _ = some (Value.slice Ay y.2.length cy) from rfl)
          have c0 := (hk3.cell 0).trans (show _ = some (Value.int .i64 y.1) from rfl)
          have c1 := (hk3.cell 1).trans (show _ = some (Value.slice Ay2 y.2.length cy2) from rfl)
          go_wp2_with fail
          refine C0.mono ?_
          rintro e wh ⟨rfl, hbh⟩
          have hk0 := hk0.below hbh hk0.lt
          have hk1 := hk1.below hbh hk1.lt
          have hzh := hbh.size
          have hs0 := Rd.more (Rd.below hs0 hbh) hzh
          have hs1 := Rd.more (Rd.below hs1 hbh) hzh
          have hbf := hbf.trans (hbh.mono hbf.size)
          clear a0 a1 c0 c1 C0 hk3 hs3 hbh
          have a0 := (hk0.cell 0).trans (show _ = some (Value.int .i64 x.1) from rfl)
          have a1 := (hk0.cell 1).trans (show _ = some (Value.slice Ax x.2.length cx) from rfl)
          have c0 := (hk1.cell 0).trans (show _ = some (Value.int .i64 y.1) from rfl)
          have c1 := (hk1.cell 1).trans (show _ = some (Value.slice Ay y.2.length cy) from rfl)
          obtain ⟨z1, z2⟩ := HX6.out (by trivial)
          have z1i : ((x.2.length : Int) == 0) = true := by simp [z1]
          have z2i : ((y.2.length : Int) == 0) = true := by simp [z2]
          clear z1 z2
          go_wp2_with fail
          go_ret
          exact ⟨rfl, hbf⟩
        · by_cases hsk : s = lK
          · obtain rfl : ff = false := by rw [← HF.out]; simp [hsk]
            subst hsk
            clear HF HX5
            have C0 := sameImage_any x x Ax Ax2 cx cx2 _ _ wf hs0 hs2 (Nat.le_refl _) (Nat.le_refl _) hx1 hx1
            rw [sameI_refl] at C0
            have a0 := (hk0.cell 0).trans (show _ = some (Value.int .i64 x.1) from rfl)
            have a1 := (hk0.cell 1).trans (show _ = some (Value.slice Ax x.2.length cx) from rfl)
            have c0 := (hk2.cell 0).trans (show _ = some (Value.int .i64 x.1) from rfl)
            have c1 := (hk2.cell 1).trans (show _ = some (Value.slice Ax2 x.2.length cx2) from rfl)
            go_wp2_with fail
            refine C0.mono ?_
            rintro e wg ⟨rfl, hbg⟩
            have hk0 := hk0.below hbg hk0.lt
            have hk1 := hk1.below hbg hk1.lt
            have hk3 := hk3.below hbg hk3.lt
            have hzg := hbg.size
            have hs0 := Rd.more (Rd.below hs0 hbg) hzg
            have hs1 := Rd.more (Rd.below hs1 hbg) hzg
            have hs3 := Rd.more (Rd.below hs3 hbg) hzg
            have hbf := hbf.trans (hbg.mono hbf.size)
            clear a0 a1 c0 c1 C0 hk2 hs2 hbg
            have C0 := sameImage_any y y Ay Ay2 cy cy2 _ _ wg hs1 hs3 (Nat.le_refl _) (Nat.le_refl _) hx2 hx2
            rw [sameI_refl] at C0
            have a0 := (hk1.cell 0).trans (show _ = some (Value.int .i64 y.1) from rfl)
            have a1 := (hk1.cell 1).trans (show _ = some (Value.slice Ay y.2.length cy) from rfl)
            have c0 := (hk3.cell 0).trans (show _ = some (Value.int .i64 y.1) from rfl)
            have c1 := (hk3.cell 1).trans (show _ = some (Value.slice Ay2 y.2.length cy2) from rfl)
            go_wp2_with fail
            refine C0.mono ?_
            rintro e wh ⟨rfl, hbh⟩
            have hk0 := hk0.below hbh hk0.lt
            have hk1 := hk1.below hbh hk1.lt
            have hzh := hbh.size
            have hs0 := Rd.more (Rd.below hs0 hbh) hzh
            have hs1 := Rd.more (Rd.below hs1 hbh) hzh
            have hbf := hbf.trans (hbh.mono hbf.size)
            clear a0 a1 c0 c1 C0 hk3 hs3 hbh
            have a0 := (hk0.cell 0).trans (show _ = some (Value.int .i64 x.1) from rfl)
            have a1 := (hk0.cell 1).trans (show _ = some (Value.slice Ax x.2.length cx) from rfl)
            have c0 := (hk1.cell 0).trans (show _ = some (Value.int .i64 y.1) from rfl)
            have c1 := (hk1.cell 1).trans (show _ = some (Value.slice Ay y.2.length cy) from rfl)
            obtain ⟨z1, z2⟩ := HX6.out (by trivial)
            have z1i : ((x.2.length : Int) == 0) = true := by simp [z1]
            have z2i : ((y.2.length : Int) == 0) = true := by simp [z2]
            clear z1 z2
            go_wp2_with fail
            go_ret
            exact ⟨rfl, hbf⟩
          · have hsk' : ¬ bs s = bs lK := fun e => hsk (bs_inj e)
            by_cases hak : a5 = (K : Int)
            · obtain rfl : ff = true := by rw [← HF.out]; simp [hsk, hak]
              subst hak
              clear HF HX6
              have C0 := sameImage_any x x Ax Ax2 cx cx2 _ _ wf hs0 hs2 (Nat.le_refl _) (Nat.le_refl _) hx1 hx1
              rw [sameI_refl] at C0
              have a0 := (hk0.cell 0).trans (show _ = some (Value.int .i64 x.1) from rfl)
              have a1 := (hk0.cell 1).trans (show _ = some (Value.slice Ax x.2.length cx) from rfl)
              have c0 := (hk2.cell 0).trans (show _ = some (Value.int .i64 x.1) from rfl)
              have c1 := (hk2.cell 1).trans (show _ = some (Value.slice Ax2 x.2.length cx2) from rfl)
              go_wp2_with fail
              refine C0.mono ?_
              rintro e wg ⟨rfl, hbg⟩
              have hk0 := hk0.below hbg hk0.lt
              have hk1 := hk1.below hbg hk1.lt
              have hk3 := hk3.below hbg hk3.lt
              have hzg := hbg.size
              have hs0 := Rd.more (Rd.below hs0 hbg) hzg
              have hs1 := Rd.more (Rd.below hs1 hbg) hzg
              have hs3 := Rd.more (Rd.below hs3 hbg) hzg
              have hbf := hbf.trans (hbg.mono hbf.size)
              clear a0 a1 c0 c1 C0 hk2 hs2 hbg
              have C0 := sameImage_any y y Ay Ay2 cy cy2 _ _ wg hs1 hs3 (Nat.le_refl _) (Nat.le_refl _) hx2 hx2
              rw [sameI_refl] at C0
              have a0 := (hk1.cell 0).trans (show _ = some (Value.int .i64 y.1) from rfl)
              have a1 := (hk1.cell 1).trans (show _ = some (Value.slice Ay y.2.length cy) from rfl)
              have c0 := (hk3.cell 0).trans (show _ = some (Value.int .i64 y.1) from rfl)
              have c1 := (hk3.cell 1).trans (show _ = some (Value.slice Ay2 y.2.length cy2) from rfl)
              go_wp2_with fail
              refine C0.mono ?_
              rintro e wh ⟨rfl, hbh⟩
              have hk0 := hk0.below hbh hk0.lt
              have hk1 := hk1.below hbh hk1.lt
              have hzh := hbh.size
              have hs0 := Rd.more (Rd.below hs0 hbh) hzh
              have hs1 := Rd.more (Rd.below hs1 hbh) hzh
              have hbf := hbf.trans (hbh.mono hbf.size)
              clear a0 a1 c0 c1 C0 hk3 hs3 hbh
              have a0 := (hk0.cell 0).trans (show _ = some (Value.int .i64 x.1) from rfl)
              have a1 := (hk0.cell 1).trans (show _ = some (Value.slice Ax x.2.length cx) from rfl)
              have c0 := (hk1.cell 0).trans (show _ = some (Value.int .i64 y.1) from rfl)
              have c1 := (hk1.cell 1).trans (show _ = some (Value.slice Ay y.2.length cy) from rfl)
              obtain ⟨HD, HE⟩ := HX5.out (by trivial)
              have C1 := ofImage_any wd x.1 x.2 Ax cx _ wh hs0 (Nat.le_refl _) hx1 hx3
              rw [HD] at C1
              clear HD
              generalize hD : ofS wd y.1 y.2 = D at *
              go_wp2_with fail
              refine C1.mono ?_
              rintro e wi ⟨rfl, hbi⟩
              have hk0 := hk0.below hbi hk0.lt
              have hk1 := hk1.below hbi hk1.lt
              have hzi := hbi.size
              have hs0 := Rd.more (Rd.below hs0 hbi) hzi
              have hs1 := Rd.more (Rd.below hs1 hbi) hzi
              have hbf := hbf.trans (hbi.mono hbf.size)
              clear a0 a1 c0 c1 C1 hbi
              have C1 := ofImage_any wd y.1 y.2 Ay cy _ wi hs1 (Nat.le_refl _) hx2 hx4
              rw [hD] at C1
              have a0 := (hk0.cell 0).trans (show _ = some (Value.int .i64 x.1) from rfl)
              have a1 := (hk0.cell 1).trans (show _ = some (Value.slice Ax x.2.length cx) from rfl)
              have c0 := (hk1.cell 0).trans (show _ = some (Value.int .i64 y.1) from rfl)
              have c1 := (hk1.cell 1).trans (show _ = some (Value.slice Ay y.2.length cy) from rfl)
              go_wp2_with fail
              refine C1.mono ?_
              rintro e wj ⟨rfl, hbj⟩
              have hk0 := hk0.below hbj hk0.lt
              have hk1 := hk1.below hbj hk1.lt
              have hzj := hbj.size
              have hs0 := Rd.more (Rd.below hs0 hbj) hzj
              have hs1 := Rd.more (Rd.below hs1 hbj) hzj
              have hbf := hbf.trans (hbj.mono hbf.size)
              clear a0 a1 c0 c1 C1 hbj hD
              have C2 := sameImage_any x y Ax Ay cx cy _ _ wj hs0 hs1 (Nat.le_refl _) (Nat.le_refl _) hx1 hx2
              rw [HE] at C2
              have a0 := (hk0.cell 0).trans (show _ = some (Value.int .i64 x.1) from rfl)
              have a1 := (hk0.cell 1).trans (show _ = some (Value.slice Ax x.2.length cx) from rfl)
              have c0 := (hk1.cell 0).trans (show _ = some (Value.int .i64 y.1) from rfl)
              have c1 := (hk1.cell 1).trans (show _ = some (Value.slice Ay y.2.length cy) from rfl)
              go_wp2_with fail
              refine C2.mono ?_
              rintro e wk ⟨rfl, hbk⟩
              have hbf := hbf.trans (hbk.mono hbf.size)
              have hDD : (D == D) = true := by simp
              go_wp2_with fail
              go_ret
              exact ⟨rfl, hbf⟩
            · obtain rfl : ff = false := by rw [← HF.out]; simp [hak]
              have hak' : (a5 == (K : Int)) = false := beq_eq_false_iff_ne.2 hak
              clear HF HX5
              have C0 := sameImage_any x x Ax Ax2 cx cx2 _ _ wf hs0 hs2 (Nat.le_refl _) (Nat.le_refl _) hx1 hx1
              rw [sameI_refl] at C0
              have a0 := (hk0.cell 0).trans (show _ = some (Value.int .i64 x.1) from rfl)
              have a1 := (hk0.cell 1).trans (show _ = some (Value.slice Ax x.2.length cx) from rfl)
              have c0 := (hk2.cell 0).trans (show _ = some (Value.int .i64 x.1) from rfl)
              have c1 := (hk2.cell 1).trans (show _ = some (Value.slice Ax2 x.2.length cx2) from rfl)
              go_wp2_with fail
              refine C0.mono ?_
              rintro e wg ⟨rfl, hbg⟩
              have hk0 := hk0.below hbg hk0.lt
              have hk1 := hk1.below hbg hk1.lt
              have hk3 := hk3.below hbg hk3.lt
              have hzg := hbg.size
              have hs0 := Rd.more (Rd.below hs0 hbg) hzg
              have hs1 := Rd.more (Rd.below hs1 hbg) hzg
              have hs3 := Rd.more (Rd.below hs3 hbg) hzg
              have hbf := hbf.trans (hbg.mono hbf.size)
              clear a0 a1 c0 c1 C0 hk2 hs2 hbg
              have C0 := sameImage_any y y Ay Ay2 cy cy2 _ _ wg hs1 hs3 (Nat.le_refl _) (Nat.le_refl _) hx2 hx2
              rw [sameI_refl] at C0
              have a0 := (hk1.cell 0).trans (show _ = some (Value.int .i64 y.1) from rfl)
              have a1 := (hk1.cell 1).trans (show _ = some (Value.slice Ay y.2.length cy) from rfl)
              have c0 := (hk3.cell 0).trans (show _ = some (Value.int .i64 y.1) from rfl)
              have c1 := (hk3.cell 1).trans (show _ = some (Value.slice Ay2 y.2.length cy2) from rfl)
              go_wp2_with fail
              refine C0.mono ?_
              rintro e wh ⟨rfl, hbh⟩
              have hk0 := hk0.below hbh hk0.lt
              have hk1 := hk1.below hbh hk1.lt
              have hzh := hbh.size
              have hs0 := Rd.more (Rd.below hs0 hbh) hzh
              have hs1 := Rd.more (Rd.below hs1 hbh) hzh
              have hbf := hbf.trans (hbh.mono hbf.size)
              clear a0 a1 c0 c1 C0 hk3 hs3 hbh
              have a0 := (hk0.cell 0).trans (show _ = some (Value.int .i64 x.1) from rfl)
              have a1 := (hk0.cell 1).trans (show _ = some (Value.slice Ax x.2.length cx) from rfl)
              have c0 := (hk1.cell 0).trans (show _ = some (Value.int .i64 y.1) from rfl)
              have c1 := (hk1.cell 1).trans (show _ = some (Value.slice Ay y.2.length cy) from rfl)
              obtain ⟨z1, z2⟩ := HX6.out (by trivial)
              have z1i : ((x.2.length : Int) == 0) = true := by simp [z1]
              have z2i : ((y.2.length : Int) == 0) = true := by simp [z2]
              clear z1 z2
              go_wp2_with fail
              go_ret
              exact ⟨rfl, hbf⟩

  · have hpa := fun W g1 g2 => dpath_all wd at' l hl hsh W A c w.heap.size g1 g2 hc hcm hat
    generalize rootS wd l = R at *
    by_cases hat0 : 0 ≤ at'
    · have hat1 : ¬ at' < (l.length : Int) := fun h2 => hat ⟨hat0, h2⟩
      clear hat
      go_enter Try.func5, Try.ntmps5
      go_wp2_with fail
      refine hsum.mono ?_
      rintro e w0 ⟨rfl, rfl⟩
      go_wp2_with fail
      refine hroot.mono ?_
      rintro e w1 ⟨rfl, hb1⟩
      go_wp2_with fail
      refine (hpa _ (h.below hb1) hb1.size).mono ?_
      rintro e w2 ⟨v, rfl, ⟨A1, c1, rfl, hrd2, hf2⟩, hb2⟩
      have hbel2 := hb1.trans (hb2.mono hb1.size)
      go_wp2_with fail
      go_ret
      exact ⟨rfl, hbel2.alloc hbel2.size _⟩
    · clear hat
      go_enter Try.func5, Try.ntmps5
      go_wp2_with fail
      refine hsum.mono ?_
      rintro e w0 ⟨rfl, rfl⟩
      go_wp2_with fail
      refine hroot.mono ?_
      rintro e w1 ⟨rfl, hb1⟩
      go_wp2_with fail
      refine (hpa _ (h.below hb1) hb1.size).mono ?_
      rintro e w2 ⟨v, rfl, ⟨A1, c1, rfl, hrd2, hf2⟩, hb2⟩
      have hbel2 := hb1.trans (hb2.mono hb1.size)
      go_wp2_with fail
      go_ret
      exact ⟨rfl, hbel2.alloc hbel2.size _⟩

namespace digestClash
open Go.ChangeShapes Go.WideShapes Go.ChangeAt Go.RowKit
set_option linter.unusedVariables false
set_option maxRecDepth 100000 in
theorem walk {H : Type} (enc : TypeId × Value → H) : LawWalkB enc Try.prog Try.f5 5 := by
  intro W args ds p hA hval hlt hfz hbulk
  rw [Try.params5] at hA hval
  obtain ⟨v0, vs0, d0, ds0, p0, q0, hargs, rfl, rfl, h0, r0⟩ := trodAll_cons hA
  obtain ⟨v1, vs1, d1, ds1, p1, q1, rfl, rfl, rfl, h1, r1⟩ := trodAll_cons r0
  obtain ⟨v2, vs2, d2, ds2, p2, q2, rfl, rfl, rfl, h2, r2⟩ := trodAll_cons r1
  obtain ⟨v3, vs3, d3, ds3, p3, q3, rfl, rfl, rfl, h3, r3⟩ := trodAll_cons r2
  obtain ⟨v4, vs4, d4, ds4, p4, q4, rfl, rfl, rfl, h4, r4⟩ := trodAll_cons r3
  obtain ⟨v5, vs5, d5, ds5, p5, q5, rfl, rfl, rfl, h5, r5⟩ := trodAll_cons r4
  obtain ⟨rfl, rfl, rfl⟩ := trodAll_nil r5
  obtain rfl : args = #[v0, v1, v2, v3, v4, v5] := by cases args; simp_all
  simp only [Rows.uptoBulkAll] at hbulk
  obtain ⟨a0, rfl, _, _, wa0⟩ := open_int Try.underlying3 (hval 0 _ v0 rfl rfl) h0
  obtain ⟨A1, c1, l1, rfl, ⟨lc1, cm1, hl1, hw1⟩, hm1⟩ := openB_strs (hval 1 _ v1 rfl rfl) h1
  obtain ⟨a2, rfl, _, _, wa2⟩ := open_int Try.underlying3 (hval 2 _ v2 rfl rfl) h2
  obtain ⟨s3, rfl, hs3, hm3⟩ := openB_str (hval 3 _ v3 rfl rfl) h3
  obtain ⟨a4, rfl, _, _, wa4⟩ := open_int Try.underlying3 (hval 4 _ v4 rfl rfl) h4
  obtain ⟨a5, rfl, _, _, wa5⟩ := open_int Try.underlying3 (hval 5 _ v5 rfl rfl) h5
  exact digestClash_walk a0 l1 A1 c1 a2 s3 a4 a5 W hl1 lc1 cm1 hw1 hs3 (wf_i64 wa4).1 (wf_i64 wa5).1 (by omega) (by omega)
set_option maxRecDepth 100000 in
theorem lifted (os : Os) (started : os.Started) (H : Type) (enc : TypeId × Value → H) (F : Stop.Interp) :
    ReturnsInHanded {} Try.checked os 5 .any ((Rows.OpenSpec.upto Rows.digestClashSpec).pre6 enc Try.prog Try.f5 Rows.digestClashUptoRow.domain false) (((Rows.OpenSpec.upto Rows.digestClashSpec).at F).post enc Try.prog Try.f5 false true false false) := by
  refine returnsInHanded_of_cond (C := Try.checked) (s := Rows.OpenSpec.upto Rows.digestClashSpec) (k := Rows.uptoSmall) rfl (by kernel_rfl) started (by kernel_rfl) Try.func5
    (OpenSpec.witness (enc := enc) (C := Try.checked) (s := Rows.OpenSpec.upto Rows.digestClashSpec) (k := Rows.uptoSmall) rfl false ⟨#[], #[.int .i64 0, .slice none 0 0, .int .i64 0, .string ⟨#[]⟩, .int .i64 0, .int .i64 0], []⟩ 8 (by kernel_rfl) (by kernel_rfl) (by kernel_rfl)
      (x := ([.lit (.int .i64 0), .nil, .lit (.int .i64 0), .lit (.string []), .lit (.int .i64 0), .lit (.int .i64 0)], [], [])) (by kernel_rfl) rfl (by kernel_rfl)) ?_
  intro W base args ds gs before hval hW _ hk _
  exact law_contract (C := Try.checked) (s := Rows.digestClashSpec) (by kernel_rfl) (by kernel_rfl) rfl rfl Try.underlying4 (fun ds h => match ds, h with | [_, _, _, _, _, _], _ => rfl) (walk enc) W args ds gs before hval hW hk
set_option maxRecDepth 100000 in
theorem funcAt : Try.pinned.checked.prog.funcNamed Rows.digestClashUptoRow.func = some 5 := by kernel_rfl
set_option maxRecDepth 100000 in
theorem closed : joinedFacts Try.pinned.checked.prog 5 Try.f5 (Rows.OpenSpec.upto Rows.digestClashSpec).bare Rows.digestClashUptoRow = true := by kernel_rfl
set_option maxRecDepth 100000 in
theorem over : Rows.digestClashUptoRow.holds Try.pinned (Rows.OpenSpec.upto Rows.digestClashSpec) :=
  OpenClaim.holds_of_cond 5 Try.f5 rfl rfl rfl rfl rfl rfl rfl ⟨rfl, rfl, rfl, rfl, rfl⟩ rfl rfl rfl rfl rfl funcAt Try.func5 closed
    (of_decide_eq_true (by kernel_rfl)) (by unfold Func.isWrapper; first | (rw [if_pos (by decide +kernel)]; kernel_rfl) | (rw [if_neg (by decide +kernel)]; exact ⟨rfl, rfl⟩))
    (fun os started H enc _ F => lifted os started H enc F)
end digestClash
/-- the statement -/
theorem digestClash_holds : Rows.DigestClashUptoSaid := digestClash.over
#print axioms digestClash_holds
end Go.Proofs.Ytjmkcndjjfokiaa
