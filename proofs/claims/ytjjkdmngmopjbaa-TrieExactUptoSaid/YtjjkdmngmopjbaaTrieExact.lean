/- TrieExact: what Get, Root, Items, Prove, At and Put tell is what the document's answer tells, behind each step of a script. Of scripts of at most 1048576 values and letters. -/
import Derived.Test.YtjjkdmngmopjbaaProg
import Derived.Test.YtjjkdmngmopjbaaRows
import Derived.Test.YtjjkdmngmopjbaaG02
import Derived.Test.YtjjkdmngmopjbaaTe7
import Derived.Deep.RegionHeld3
import Derived.Deep.Cut
import Derived.Deep.CutRange
set_option linter.unusedSimpArgs false
set_option linter.unusedVariables false
namespace Go.Proofs.Ytjjkdmngmopjbaa
open Go.RowKit
theorem steps_bulk {l : List StepD} {n : Nat} (h : sumL stepM l ≤ n) : l.length ≤ n ∧ ∀ x ∈ l, x.key.length ≤ n ∧ x.value.length ≤ n := by
  refine ⟨Nat.le_trans (sumL_len stepM (fun x => by unfold stepM; omega) l) h, fun x hx => ?_⟩
  obtain ⟨k, hk, rfl⟩ := List.mem_iff_getElem.1 hx
  have := sumL_take stepM l k hk
  have e : stepM l[k] = l[k].key.length + l[k].value.length + 2 := rfl
  omega
set_option maxRecDepth 100000 in
set_option maxHeartbeats 8000000 in
theorem trieExact_walk (a0 : Int) (h0 : -9223372036854775808 ≤ a0) (l : List StepD) (A : Option Addr) (c : Nat) (w : World) (hl : StepsL w w.heap.size A l) (hlen : l.length ≤ 1048576) (hok : ∀ x ∈ l, x.ok) (hkv : ∀ x ∈ l, x.key.length ≤ 1048576 ∧ x.value.length ≤ 1048576) :
    Calls Try.prog 4 #[.int .i64 a0, .slice A l.length c] w fun e w' => e = .returned (.bool true) ∧ Below w.heap.size w w' := by
  have hsm := fun W => small_any l A c w.heap.size W
  have hpk := fun W => pick_any a0 8 W h0 (by omega)
  have hp0 := pickS_lo a0 8 (by omega)
  have hp1 := pickS_hi a0 8 (by omega)
  generalize pickS a0 8 = P at *
  go_enter Try.func4, Try.ntmps4
  go_wp2_with fail
  refine (hsm _ hl (by omega)).mono ?_
  rintro e w1 ⟨b, rfl, hb1⟩
  clear hsm
  cases b with
  | false =>
    go_wp2_with fail
    go_ret
    exact ⟨rfl, hb1⟩
  | true =>
  have hP2 : IntKind.i64.wrap (1 + P) = 1 + P := IntWalk.i64_in _ (by omega)
  go_wp2_with fail
  refine (hpk _).mono ?_
  rintro e w2 ⟨rfl, rfl⟩
  clear hpk
  have hnew := fun W => new_any (1 + P) W
  unfold treeV at hnew
  generalize hD : 1 + P = D at *
  go_wp2_with fail
  refine (hnew _).mono ?_
  rintro e w3 ⟨rfl, hb3⟩
  clear hnew hP2 hD hp0 hp1
  have hb := hb1.trans (hb3.mono hb1.size)
  clear hb1 hb3
  have hG : w.heap.size ≤ w3.heap.size := hb.size
  go_wp2_with fail
  obtain ⟨G, hGe⟩ : ∃ G, G = w3.heap.size := ⟨_, rfl⟩
  have hs5 : Blk ((w3.alloc (.cells #[.int .i64 D, .pointer none] 53)).alloc (.cells #[.int .i64 D, .slice none 0 0] 57)) G 53 #[.int .i64 D, .pointer none] := by rw [hGe]; exact (Blk.new _ _ _).alloc _
  have hs6 : Blk ((w3.alloc (.cells #[.int .i64 D, .pointer none] 53)).alloc (.cells #[.int .i64 D, .slice none 0 0] 57)) (G + 1) 57 #[.int .i64 D, .slice none 0 0] := by
    have := Blk.new (w3.alloc (.cells #[.int .i64 D, .pointer none] 53)) 57 #[.int .i64 D, .slice none 0 0]
    rw [World.size_alloc, ← hGe] at this
    exact this
  have hsb : Below w.heap.size w ((w3.alloc (.cells #[.int .i64 D, .pointer none] 53)).alloc (.cells #[.int .i64 D, .slice none 0 0] 57)) := (hb.alloc hb.size _).alloc (by simp; omega) _
  rw [← hGe] at hG ⊢
  clear hb hGe
  go_loopw [7] (fun z wr => ∃ (i : Nat) (t : Option Tr) (a : Option Addr) (v : Value), z = .int .i64 (i : Int) ∧ i ≤ l.length ∧ Blk wr G 53 #[.int .i64 D, .pointer a] ∧ Blk wr (G + 1) 57 #[.int .i64 D, v] ∧ Both D wr t a v ∧ (Tr.oitems t).length ≤ i ∧ Below w.heap.size w wr) (fun z _ => l.length - (intOf z).toNat)
  case atStart => exact ⟨0, none, none, _, rfl, by omega, hs5, hs6, ⟨trivial, fun x hx => (by cases hx), rfl, ⟨0, World.ownsRow_nil _ _ _ _⟩⟩, by simp [Tr.oitems], hsb⟩
  case round =>
    clear hs5 hs6 hsb
    obtain ⟨i, t, a, v, rfl, hi, h5, h6, hB, hil, hb⟩ := hrel
    by_cases hlt : i < l.length
    · have hii : (i : Int) < (l.length : Int) := by omega
      have hl2 : StepsL wr w.heap.size A l := Rd.below hl hb
      obtain ⟨xb, xo, rfl, hxb, hx⟩ := hl2.at_ hlt
      have hxo := hok _ (List.getElem_mem hlt)
      have hxk := hkv _ (List.getElem_mem hlt)
      have x0 : wr.cell? ⟨xb, xo + i * 7, none⟩ = some (.int .i64 l[i].kind) := hx 0 _ rfl
      have x1 := hx 1 (.int .i64 l[i].a) rfl
      have x2 := hx 2 (.int .i64 l[i].b) rfl
      have x3 := hx 3 (.int .i64 l[i].c) rfl
      have x4 := hx 4 (.int .i64 l[i].n) rfl
      have x5 := hx 5 (.string (bs l[i].key)) rfl
      have x6 := hx 6 (.string (bs l[i].value)) rfl
      clear hx hl2
      generalize l[i] = x at *
      go_upto_region 10 with fail
      have hS : Blk (wr.alloc (.cells #[.int .i64 x.kind, .int .i64 x.a, .int .i64 x.b, .int .i64 x.c, .int .i64 x.n, .string (bs x.key), .string (bs x.value)] 59)) wr.heap.size 59 #[.int .i64 x.kind, .int .i64 x.a, .int .i64 x.b, .int .i64 x.c, .int .i64 x.n, .string (bs x.key), .string (bs x.value)] := Blk.new _ _ _
      have hq := (Below.refl wr.heap.size wr).alloc (Nat.le_refl _) (.cells #[.int .i64 x.kind, .int .i64 x.a, .int .i64 x.b, .int .i64 x.c, .int .i64 x.n, .string (bs x.key), .string (bs x.value)] 59)
      have h5a := h5.below hq h5.lt
      have h6a := h6.below hq h6.lt
      have hBa := hB.up hq
      have hba := hb.alloc hb.size (.cells #[.int .i64 x.kind, .int .i64 x.a, .int .i64 x.b, .int .i64 x.c, .int .i64 x.n, .string (bs x.key), .string (bs x.value)] 59)
      have hGS : G + 1 < wr.heap.size := h6.lt
      clear h5 h6 hB hb x0 x1 x2 x3 x4 x5 x6
      generalize wr.alloc (.cells #[.int .i64 x.kind, .int .i64 x.a, .int .i64 x.b, .int .i64 x.c, .int .i64 x.n, .string (bs x.key), .string (bs x.value)] 59) = ws at *
      generalize wr.heap.size = S at *
      clear hq
      clear wr
      obtain ⟨vA, vc, rfl⟩ := hBa.shape
      obtain ⟨ER, hER⟩ : ∃ ER, ER = erS x.key x.value := ⟨_, rfl⟩
      have HER := Lib.hid hER
      clear hER
      have hP := putB_any D x.key x.value t a ws hBa.1 (fun y hy => (hBa.2.1 y hy).1) hBa.2.2.1
      rw [← HER.out] at hP
      have c50 := (h5a.cell 0).trans (show _ = some (Value.int .i64 D) from rfl)
      have c51 := (h5a.cell 1).trans (show _ = some (Value.pointer a) from rfl)
      have s5 := (hS.cell 5).trans (show _ = some (Value.string (bs x.key)) from rfl)
      have s6 := (hS.cell 6).trans (show _ = some (Value.string (bs x.value)) from rfl)
      go_wp2_with fail
      refine hP.mono ?_
      rintro e w2 ⟨a', x', rfl, hpf, hb2⟩
      clear hP c50 c51 s5 s6
      have hbw := hb2.alloc hb2.size (.cells #[.int .i64 x', .pointer a'] 53)
      have h9 : Blk (w2.alloc (.cells #[.int .i64 x', .pointer a'] 53)) w2.heap.size 53 #[.int .i64 x', .pointer a'] := Blk.new _ _ _
      have hpf2 : PutF D x.key x.value t x' a' (w2.alloc (.cells #[.int .i64 x', .pointer a'] 53)) := fun h => by
        obtain ⟨e1, t', e2, e3, e4⟩ := hpf h
        exact ⟨e1, t', e2, e3, e4.up ((Below.refl _ _).alloc (Nat.le_refl _) _)⟩
      have h5b := h5a.below hbw h5a.lt
      have h6b := h6a.below hbw h6a.lt
      have hSb := hS.below hbw hS.lt
      have hBb := hBa.up hbw
      have hbb := hba.trans (hbw.mono hba.size)
      have h9s : S < w2.heap.size := Nat.lt_of_lt_of_le hS.lt hb2.size
      clear h5a h6a hS hBa hba hbw hpf hb2
      go_upto_region 11 with fail
      generalize w2.alloc (.cells #[.int .i64 x', .pointer a'] 53) = w3 at *
      generalize w2.heap.size = G9 at *
      clear w2
      have hP : Calls _ _ _ _ _ := rputB_any D x.key x.value (.slice vA (Tr.oitems t).length vc) hBb.2.2.2.choose (Tr.oitems t) w3 hBb.2.2.2.choose_spec (by omega)
      rw [← HER.out] at hP
      have c60 := (h6b.cell 0).trans (show _ = some (Value.int .i64 D) from rfl)
      have c61 := (h6b.cell 1).trans (show _ = some (Value.slice vA (Tr.oitems t).length vc) from rfl)
      have s5 := (hSb.cell 5).trans (show _ = some (Value.string (bs x.key)) from rfl)
      have s6 := (hSb.cell 6).trans (show _ = some (Value.string (bs x.value)) from rfl)
      go_wp2_with fail
      refine hP.mono ?_
      rintro e w2 ⟨uA, un, uc, y', rfl, hrf, hb2⟩
      clear hP c60 c61 s5 s6
      have hbw := hb2.alloc hb2.size (.cells #[.int .i64 y', .slice uA un uc] 57)
      have h11 : Blk (w2.alloc (.cells #[.int .i64 y', .slice uA un uc] 57)) w2.heap.size 57 #[.int .i64 y', .slice uA un uc] := Blk.new _ _ _
      have hrf2 : RPutF D x.key x.value (Tr.oitems t) y' (.slice uA un uc) (w2.alloc (.cells #[.int .i64 y', .slice uA un uc] 57)) := fun h => by
        obtain ⟨e1, base, e2⟩ := hrf h
        exact ⟨e1, base, own_below e2 ((Below.refl _ _).alloc (Nat.le_refl _) _)⟩
      have hpf3 : PutF D x.key x.value t x' a' (w2.alloc (.cells #[.int .i64 y', .slice uA un uc] 57)) := fun h => by
        obtain ⟨e1, t', e2, e3, e4⟩ := hpf2 h
        exact ⟨e1, t', e2, e3, e4.up hbw⟩
      have h5c := h5b.below hbw h5b.lt
      have h6c := h6b.below hbw h6b.lt
      have h9c := h9.below hbw h9.lt
      have hSc := hSb.below hbw hSb.lt
      have hBc := hBb.up hbw
      have hbc := hbb.trans (hbw.mono hbb.size)
      have h11s : G9 < w2.heap.size := Nat.lt_of_lt_of_le h9.lt hb2.size
      clear h5b h6b h9 hSb hBb hbb hbw hpf2 hrf hb2
      go_upto_region 12 with fail
      generalize w2.alloc (.cells #[.int .i64 y', .slice uA un uc] 57) = w4 at *
      generalize w2.heap.size = G11 at *
      clear w2
      have c50 := (h5c.cell 0).trans (show _ = some (Value.int .i64 D) from rfl)
      have c51 := (h5c.cell 1).trans (show _ = some (Value.pointer a) from rfl)
      have hEE : (ER != ER) = false := by simp
      go_upto_region 15 with fail
      have hO : Blk (w4.alloc (.cells #[.int .i64 D, .pointer a] 53)) w4.heap.size 53 #[.int .i64 D, .pointer a] := Blk.new _ _ _
      have hq := (Below.refl w4.heap.size w4).alloc (Nat.le_refl _) (.cells #[.int .i64 D, .pointer a] 53)
      have h5d := h5c.below hq h5c.lt
      have h6d := h6c.below hq h6c.lt
      have h9d := h9c.below hq h9c.lt
      have h11d := h11.below hq h11.lt
      have hSd := hSc.below hq hSc.lt
      have hBd := hBc.up hq
      have hbd := hbc.trans (hq.mono hbc.size)
      have hpfd : PutF D x.key x.value t x' a' (w4.alloc (.cells #[.int .i64 D, .pointer a] 53)) := fun h => by
        obtain ⟨e1, t', e2, e3, e4⟩ := hpf3 h
        exact ⟨e1, t', e2, e3, e4.up hq⟩
      have hrfd : RPutF D x.key x.value (Tr.oitems t) y' (.slice uA un uc) (w4.alloc (.cells #[.int .i64 D, .pointer a] 53)) := fun h => by
        obtain ⟨e1, base, e2⟩ := hrf2 h
        exact ⟨e1, base, own_below e2 hq⟩
      have hOs : G11 < w4.heap.size := h11.lt
      clear h5c h6c h9c h11 hSc hBc hbc hpf3 hrf2 hq c50 c51 hEE
      generalize w4.alloc (.cells #[.int .i64 D, .pointer a] 53) = w5 at *
      generalize w4.heap.size = O at *
      clear w4
      go_upto_if 83 with fail
      go_cut [] from 84 to 85 (fun wx => ∃ (t' : Option Tr) (a'' A' : Option Addr) (n' c' : Nat), Blk wx G 53 #[.int .i64 D, .pointer a''] ∧ Blk wx (G + 1) 57 #[.int .i64 D, .slice A' n' c'] ∧ Both D wx t' a'' (.slice A' n' c') ∧ (Tr.oitems t').length ≤ i + 1 ∧ Blk wx S 59 #[.int .i64 x.kind, .int .i64 x.a, .int .i64 x.b, .int .i64 x.c, .int .i64 x.n, .string (bs x.key), .string (bs x.value)] ∧ Blk wx O 53 #[.int .i64 D, .pointer a] ∧ Blk wx G9 53 #[.int .i64 x', .pointer a'] ∧ OTrR D wx wx.heap.size t a ∧ Below w.heap.size w wx)
      case first =>
        cases hokS : okS x.key x.value
        · have hE3 : ER = 3 := by rw [HER.out]; unfold erS; rw [hokS]; rfl
          subst hE3
          have hrel : ∃ (t' : Option Tr) (a'' A' : Option Addr) (n' c' : Nat), Blk w5 G 53 #[.int .i64 D, .pointer a''] ∧ Blk w5 (G + 1) 57 #[.int .i64 D, .slice A' n' c'] ∧ Both D w5 t' a'' (.slice A' n' c') ∧ (Tr.oitems t').length ≤ i + 1 ∧ Blk w5 S 59 #[.int .i64 x.kind, .int .i64 x.a, .int .i64 x.b, .int .i64 x.c, .int .i64 x.n, .string (bs x.key), .string (bs x.value)] ∧ Blk w5 O 53 #[.int .i64 D, .pointer a] ∧ Blk w5 G9 53 #[.int .i64 x', .pointer a'] ∧ OTrR D w5 w5.heap.size t a ∧ Below w.heap.size w w5 := ⟨t, a, vA, _, vc, h5d, h6d, hBd, by omega, hSd, hO, h9d, hBd.2.2.1, hbd⟩
          have hRel := Lib.hid hrel
          clear hrel h5d h6d hBd hSd hO h9d hbd hpfd hrfd h11d
          go_wp2_with fail
          go_meet
          case rel => exact hRel.out
        · have hE0 : ER = 0 := by rw [HER.out]; unfold erS; rw [hokS]; rfl
          subst hE0
          obtain ⟨e1, t', hok', hit', ht'⟩ := hpfd hokS
          obtain ⟨e2, base', hu⟩ := hrfd hokS
          obtain rfl : D = x' := e1.symm
          obtain rfl : D = y' := e2.symm
          have H5 := set4_one (D := D) (a := a') (u := .slice uA un uc) h5d h6d
          have H6 := set4_two (D := D) (a := a') (u := .slice uA un uc) h5d h6d
          have HT := set4_tree (D := D) (a := a') (u := .slice uA un uc) h5d h6d ht'
          have HT0 := set4_tree (D := D) (a := a') (u := .slice uA un uc) h5d h6d hBd.2.2.1
          have HU := set4_own (D := D) (a := a') (u := .slice uA un uc) h5d h6d hu
          rw [← set4_size (W := w5) (G := G) (D := D) (a := a') (u := .slice uA un uc)] at HT HT0
          obtain ⟨HN, HNl⟩ := both_next hBd.1 hBd.2.1 hokS hok' hit' HT HU
          have hRel := Lib.hid (show ∃ (t' : Option Tr) (a'' A' : Option Addr) (n' c' : Nat), Blk (set4 w5 G D a' (.slice uA un uc)) G 53 #[.int .i64 D, .pointer a''] ∧ Blk (set4 w5 G D a' (.slice uA un uc)) (G + 1) 57 #[.int .i64 D, .slice A' n' c'] ∧ Both D (set4 w5 G D a' (.slice uA un uc)) t' a'' (.slice A' n' c') ∧ (Tr.oitems t').length ≤ i + 1 ∧ Blk (set4 w5 G D a' (.slice uA un uc)) S 59 #[.int .i64 x.kind, .int .i64 x.a, .int .i64 x.b, .int .i64 x.c, .int .i64 x.n, .string (bs x.key), .string (bs x.value)] ∧ Blk (set4 w5 G D a' (.slice uA un uc)) O 53 #[.int .i64 D, .pointer a] ∧ Blk (set4 w5 G D a' (.slice uA un uc)) G9 53 #[.int .i64 D, .pointer a'] ∧ OTrR D (set4 w5 G D a' (.slice uA un uc)) (set4 w5 G D a' (.slice uA un uc)).heap.size t a ∧ Below w.heap.size w (set4 w5 G D a' (.slice uA un uc)) from
            ⟨t', a', uA, un, uc, H5, H6, HN, by omega, set4_blk hSd (by omega) (by omega), set4_blk hO (by omega) (by omega), set4_blk h9d (by omega) (by omega), HT0, set4_below hbd hG⟩)
          have c90 := (h9d.cell 0).trans (show _ = some (Value.int .i64 D) from rfl)
          have c91 := (h9d.cell 1).trans (show _ = some (Value.pointer a') from rfl)
          have c110 := (h11d.cell 0).trans (show _ = some (Value.int .i64 D) from rfl)
          have c111 := (h11d.cell 1).trans (show _ = some (Value.slice uA un uc) from rfl)
          have c50 := (h5d.cell 0).trans (show _ = some (Value.int .i64 D) from rfl)
          have c51 := (h5d.cell 1).trans (show _ = some (Value.pointer a) from rfl)
          have c60 := (h6d.cell 0).trans (show _ = some (Value.int .i64 D) from rfl)
          have c61 := (h6d.cell 1).trans (show _ = some (Value.slice vA (Tr.oitems t).length vc) from rfl)
          have f5 := h5d.frozen
          have f6 := h6d.frozen
          have n1 : ¬ G = G11 := by omega
          have n2 : ¬ G11 = G := by omega
          clear H5 H6 HT HT0 HU HN HNl h5d h6d hBd hSd hO h9d hbd hpfd hrfd h11d hu ht' hit' hok'
          go_wp2_with fail
          go_meet
          case rel => exact hRel.out
      case rest =>
        obtain ⟨T, b, vA', n, vc', h5, h6, hB, hTl, hS, hO, h9, hT0, hb⟩ := hcut
        have hok0 := hBd.1
        have hkl0 := fun y hy => (hBd.2.1 y hy).1
        generalize hWc : wc = W0 at *
        clear hWc
        clear h5d h6d h9d h11d hSd hBd hbd hpfd hrfd
        have hGS' := hGS
        have s0 := (hS.cell 0).trans (show _ = some (Value.int .i64 x.kind) from rfl)
        have hK := fun W => pick_any x.kind 6 W hxo.1.1 (by omega)
        have hK0 := pickS_lo x.kind 6 (by omega)
        have hK1 := pickS_hi x.kind 6 (by omega)
        generalize pickS x.kind 6 = K at *
        go_wp2_with fail
        refine (hK _).mono ?_
        rintro e wk ⟨rfl, rfl⟩
        clear hK
        have h6c : K = 0 ∨ K = 1 ∨ K = 2 ∨ K = 3 ∨ K = 4 ∨ K = 5 := by omega
        clear hK0 hK1
        have hTB : (Tr.oitems T).length ≤ 1000000000 := by omega
        have hkB : x.key.length ≤ 1000000000 := by omega
        have hvB : x.value.length ≤ 1000000000 := by omega
        rcases h6c with rfl | rfl | rfl | rfl | rfl | rfl
        · clear hO h9 hT0
          have hC := hB.get hTB x.key hkB
          have p0 := (h5.cell 0).trans (show _ = some (Value.int .i64 D) from rfl)
          have p1 := (h5.cell 1).trans (show _ = some (Value.pointer b) from rfl)
          have s0 := (hS.cell 0).trans (show _ = some (Value.int .i64 x.kind) from rfl)
          have s5 := (hS.cell 5).trans (show _ = some (Value.string (bs x.key)) from rfl)
          go_wp2_with fail
          refine hC.mono ?_
          rintro e wq ⟨rfl, hq⟩
          clear hC p0 p1 s0 s5
          replace h5 := h5.below hq h5.lt
          replace h6 := h6.below hq h6.lt
          replace hS := hS.below hq hS.lt
          replace hB := hB.up hq
          replace hb := hb.trans (hq.mono hb.size)
          clear hq
          have hC := hB.rget hTB x.key
          generalize getL x.key (Tr.oitems T) = X at *
          have q0 := (h6.cell 0).trans (show _ = some (Value.int .i64 D) from rfl)
          have q1 := (h6.cell 1).trans (show _ = some (Value.slice vA' n vc') from rfl)
          have s5 := (hS.cell 5).trans (show _ = some (Value.string (bs x.key)) from rfl)
          go_wp2_with fail
          refine hC.mono ?_
          rintro e wq ⟨rfl, hq⟩
          clear hC q0 q1 s5
          replace h5 := h5.below hq h5.lt
          replace h6 := h6.below hq h6.lt
          replace hS := hS.below hq hS.lt
          replace hB := hB.up hq
          replace hb := hb.trans (hq.mono hb.size)
          clear hq
          go_wp2_with fail
          go_roundw
          case rel => exact ⟨i + 1, T, b, _, by go_num, by omega, h5, h6, hB, hTl, hb⟩
          case measure => simp [intOf]; omega
        · clear hO h9 hT0
          have hC := hB.root
          have p0 := (h5.cell 0).trans (show _ = some (Value.int .i64 D) from rfl)
          have p1 := (h5.cell 1).trans (show _ = some (Value.pointer b) from rfl)
          go_wp2_with fail
          refine hC.mono ?_
          rintro e wq ⟨rfl, hq⟩
          clear hC p0 p1
          replace h5 := h5.below hq h5.lt
          replace h6 := h6.below hq h6.lt
          replace hS := hS.below hq hS.lt
          replace hB := hB.up hq
          replace hb := hb.trans (hq.mono hb.size)
          clear hq
          have hC := hB.rroot hTB
          generalize rootT D T = X at *
          have q0 := (h6.cell 0).trans (show _ = some (Value.int .i64 D) from rfl)
          have q1 := (h6.cell 1).trans (show _ = some (Value.slice vA' n vc') from rfl)
          go_wp2_with fail
          refine hC.mono ?_
          rintro e wq ⟨rfl, hq⟩
          clear hC q0 q1
          replace h5 := h5.below hq h5.lt
          replace h6 := h6.below hq h6.lt
          replace hS := hS.below hq hS.lt
          replace hB := hB.up hq
          replace hb := hb.trans (hq.mono hb.size)
          clear hq
          go_wp2_with fail
          go_roundw
          case rel => exact ⟨i + 1, T, b, _, by go_num, by omega, h5, h6, hB, hTl, hb⟩
          case measure => simp [intOf]; omega
        · clear hO h9 hT0
          have s1 := (hS.cell 1).trans (show _ = some (Value.int .i64 x.a) from rfl)
          have s5 := (hS.cell 5).trans (show _ = some (Value.string (bs x.key)) from rfl)
          go_upto_if 117 with fail
          go_cut [19] from 117 to 125 (fun z wx => ∃ k2 : Key, z = .string (bs k2) ∧ k2.length ≤ 1048576 ∧ wx = W0)
          case first =>
            by_cases hk0 : 0 < x.key.length
            · have hk1 : decide ((x.key.length : Int) > 0) = true := decide_eq_true (by omega)
              have hk2 : decide ((0 : Int) < (x.key.length : Int)) = true := decide_eq_true (by omega)
              have hP := fun W => pick_any x.a ((x.key.length : Int) + 1) W hxo.2.1.1 (by omega)
              have hlo := pickS_lo x.a ((x.key.length : Int) + 1) (by omega)
              have hhi := pickS_hi x.a ((x.key.length : Int) + 1) (by omega)
              obtain ⟨q, hq⟩ : ∃ q : Nat, pickS x.a ((x.key.length : Int) + 1) = (q : Int) := ⟨_, (Int.toNat_of_nonneg hlo).symm⟩
              rw [hq] at hP hhi
              clear hlo hq
              have hw1 : IntKind.i64.wrap ((x.key.length : Int) + 1) = (x.key.length : Int) + 1 := IntWalk.i64_in _ (by omega)
              have hx := bs_extract x.key q
              have hq1 : (q : Int) ≤ (x.key.length : Int) := by omega
              go_wp2_with fail
              refine (hP _).mono ?_
              rintro e wq ⟨rfl, rfl⟩
              go_wp2_with fail
              go_meet
              case rel => exact ⟨x.key.take q, rfl, by rw [List.length_take]; omega, rfl⟩
            · have hk1 : decide ((x.key.length : Int) > 0) = false := decide_eq_false (by omega)
              have hk2 : decide ((0 : Int) < (x.key.length : Int)) = false := decide_eq_false (by omega)
              go_wp2_with fail
              go_meet
              case rel => exact ⟨x.key, rfl, by omega, rfl⟩
          case rest =>
            obtain ⟨k2, rfl, hk2, hwc⟩ := hcut
            subst hwc
            clear s1 s5
            have hC := hB.items hTB k2 x.n (by omega)
            have hLl := someL_len k2 x.n (Tr.oitems T)
            have hD2 := fun W h => @Both.rsome D W T b vA' vc' n h hTB k2 x.n
            generalize someL k2 x.n (Tr.oitems T) = Lk at *
            have p0 := (h5.cell 0).trans (show _ = some (Value.int .i64 D) from rfl)
            have p1 := (h5.cell 1).trans (show _ = some (Value.pointer b) from rfl)
            have s4 := (hS.cell 4).trans (show _ = some (Value.int .i64 x.n) from rfl)
            go_wp2_with fail
            refine hC.mono ?_
            rintro e wq ⟨A1, c1, rfl, hi1, hq⟩
            clear hC p0 p1 s4
            replace h5 := h5.below hq h5.lt
            replace h6 := h6.below hq h6.lt
            replace hS := hS.below hq hS.lt
            replace hB := hB.up hq
            replace hb := hb.trans (hq.mono hb.size)
            clear hq
            have hC := hD2 _ hB
            have q0 := (h6.cell 0).trans (show _ = some (Value.int .i64 D) from rfl)
            have q1 := (h6.cell 1).trans (show _ = some (Value.slice vA' n vc') from rfl)
            have s4 := (hS.cell 4).trans (show _ = some (Value.int .i64 x.n) from rfl)
            go_wp2_with fail
            refine hC.mono ?_
            rintro e wq ⟨A2, c2, rfl, hi2, hq⟩
            replace hi1 := Rd.below hi1 hq
            have hzq := hq.size
            clear hC hD2 q0 q1 s4
            replace h5 := h5.below hq h5.lt
            replace h6 := h6.below hq h6.lt
            replace hS := hS.below hq hS.lt
            replace hB := hB.up hq
            replace hb := hb.trans (hq.mono hb.size)
            clear hq
            have hC := sameItems_any Lk A1 A2 c1 c2 _ _ _ hi1 hi2 (by omega)
            go_wp2_with fail
            refine hC.mono ?_
            rintro e wq ⟨rfl, hq⟩
            clear hC hi1 hi2 hzq
            replace h5 := h5.below hq h5.lt
            replace h6 := h6.below hq h6.lt
            replace hS := hS.below hq hS.lt
            replace hB := hB.up hq
            replace hb := hb.trans (hq.mono hb.size)
            clear hq
            go_wp2_with fail
            go_roundw
            case rel => exact ⟨i + 1, T, b, _, by go_num, by omega, h5, h6, hB, hTl, hb⟩
            case measure => simp [intOf]; omega
        · clear hO h9 hT0
          have hC := hB.prv x.key
          have hD2 := fun W h => @Both.rprv D W T b vA' vc' n h hTB x.key
          unfold PrvP at hC hD2
          generalize prvE x.key = E2 at *
          have p0 := (h5.cell 0).trans (show _ = some (Value.int .i64 D) from rfl)
          have p1 := (h5.cell 1).trans (show _ = some (Value.pointer b) from rfl)
          have s5 := (hS.cell 5).trans (show _ = some (Value.string (bs x.key)) from rfl)
          go_wp2_with fail
          refine hC.mono ?_
          rintro e wq ⟨ts, tA, tc, lf, pk, pv, rfl, hp1, hh1, hq⟩
          clear hC p0 p1 s5
          have hbw := hq.alloc hq.size (.cells #[.slice tA ts.length tc, .bool lf, .string (bs pk), .string (bs pv)] 70)
          have hN1 : Blk (wq.alloc (.cells #[.slice tA ts.length tc, .bool lf, .string (bs pk), .string (bs pv)] 70)) wq.heap.size 70 #[.slice tA ts.length tc, .bool lf, .string (bs pk), .string (bs pv)] := Blk.new _ _ _
          replace hh1 := hh1.below ((Below.refl wq.heap.size wq).alloc (Nat.le_refl _) (.cells #[.slice tA ts.length tc, .bool lf, .string (bs pk), .string (bs pv)] 70))
          have hz1 := hq.size
          replace h5 := h5.below hbw h5.lt
          replace h6 := h6.below hbw h6.lt
          replace hS := hS.below hbw hS.lt
          replace hB := hB.up hbw
          replace hb := hb.trans (hbw.mono hb.size)
          clear hq hbw
          go_upto_region 37 with fail
          generalize wq.alloc (.cells #[.slice tA ts.length tc, .bool lf, .string (bs pk), .string (bs pv)] 70) = wz at *
          generalize wq.heap.size = g1 at *
          clear wq
          have hz1b := hN1.lt
          have hC := hD2 _ hB
          have q0 := (h6.cell 0).trans (show _ = some (Value.int .i64 D) from rfl)
          have q1 := (h6.cell 1).trans (show _ = some (Value.slice vA' n vc') from rfl)
          have s5 := (hS.cell 5).trans (show _ = some (Value.string (bs x.key)) from rfl)
          go_wp2_with fail
          refine hC.mono ?_
          rintro e wq ⟨ts', tA', tc', lf', pk', pv', rfl, hp2, hh2, hq⟩
          clear hC hD2 q0 q1 s5
          have hbw := hq.alloc hq.size (.cells #[.slice tA' ts'.length tc', .bool lf', .string (bs pk'), .string (bs pv')] 70)
          have hN2 : Blk (wq.alloc (.cells #[.slice tA' ts'.length tc', .bool lf', .string (bs pk'), .string (bs pv')] 70)) wq.heap.size 70 #[.slice tA' ts'.length tc', .bool lf', .string (bs pk'), .string (bs pv')] := Blk.new _ _ _
          replace hh2 := hh2.below ((Below.refl wq.heap.size wq).alloc (Nat.le_refl _) (.cells #[.slice tA' ts'.length tc', .bool lf', .string (bs pk'), .string (bs pv')] 70))
          have hz2 := hq.size
          replace hh1 := hh1.below (hbw.mono (by omega))
          replace h5 := h5.below hbw h5.lt
          replace h6 := h6.below hbw h6.lt
          replace hS := hS.below hbw hS.lt
          replace hB := hB.up hbw
          replace hb := hb.trans (hbw.mono hb.size)
          replace hN1 := hN1.below hbw hN1.lt
          clear hq hbw
          go_upto_region 38 with fail
          generalize wq.alloc (.cells #[.slice tA' ts'.length tc', .bool lf', .string (bs pk'), .string (bs pv')] 70) = wz at *
          generalize wq.heap.size = g2 at *
          clear wq
          have hz2b := hN2.lt
          have hC := sameTwo hp1 hp2 hh1 hh2 (by omega) (by omega)
          have u0 := (hN1.cell 0).trans (show _ = some (Value.slice tA ts.length tc) from rfl)
          have u1 := (hN1.cell 1).trans (show _ = some (Value.bool lf) from rfl)
          have u2 := (hN1.cell 2).trans (show _ = some (Value.string (bs pk)) from rfl)
          have u3 := (hN1.cell 3).trans (show _ = some (Value.string (bs pv)) from rfl)
          have v0 := (hN2.cell 0).trans (show _ = some (Value.slice tA' ts'.length tc') from rfl)
          have v1 := (hN2.cell 1).trans (show _ = some (Value.bool lf') from rfl)
          have v2 := (hN2.cell 2).trans (show _ = some (Value.string (bs pk')) from rfl)
          have v3 := (hN2.cell 3).trans (show _ = some (Value.string (bs pv')) from rfl)
          clear hp1 hp2 hh1 hh2 hN1 hN2
          go_wp2_with fail
          refine hC.mono ?_
          rintro e wq ⟨rfl, hq⟩
          clear hC u0 u1 u2 u3 v0 v1 v2 v3
          replace h5 := h5.below hq h5.lt
          replace h6 := h6.below hq h6.lt
          replace hS := hS.below hq hS.lt
          replace hB := hB.up hq
          replace hb := hb.trans (hq.mono hb.size)
          clear hq
          go_wp2_with fail
          go_roundw
          case rel => exact ⟨i + 1, T, b, _, by go_num, by omega, h5, h6, hB, hTl, hb⟩
          case measure => simp [intOf]; omega
        · clear hO h9 hT0
          have hC := hB.tat x.value hvB
          have hD2 := fun W h => @Both.rat D W T b vA' vc' n h hTB x.value hvB
          unfold AtP at hC hD2
          generalize atN D T x.value = N1 at *
          generalize atE T x.value = E1 at *
          obtain ⟨n1k, n1y, n1v, n1p, n1l, n1r⟩ := N1
          simp only at hC hD2
          have p0 := (h5.cell 0).trans (show _ = some (Value.int .i64 D) from rfl)
          have p1 := (h5.cell 1).trans (show _ = some (Value.pointer b) from rfl)
          have s6 := (hS.cell 6).trans (show _ = some (Value.string (bs x.value)) from rfl)
          go_wp2_with fail
          refine hC.mono ?_
          rintro e wq ⟨rfl, hq⟩
          clear hC p0 p1 s6
          have hbw := hq.alloc hq.size (.cells #[.int .i64 n1k, .string (bs n1y), .string (bs n1v), .int .i64 n1p, .int .u64 n1l, .int .u64 n1r] 75)
          have hN1 : Blk (wq.alloc (.cells #[.int .i64 n1k, .string (bs n1y), .string (bs n1v), .int .i64 n1p, .int .u64 n1l, .int .u64 n1r] 75)) wq.heap.size 75 #[.int .i64 n1k, .string (bs n1y), .string (bs n1v), .int .i64 n1p, .int .u64 n1l, .int .u64 n1r] := Blk.new _ _ _
          have hz1 := hq.size
          replace h5 := h5.below hbw h5.lt
          replace h6 := h6.below hbw h6.lt
          replace hS := hS.below hbw hS.lt
          replace hB := hB.up hbw
          replace hb := hb.trans (hbw.mono hb.size)
          clear hq hbw
          go_upto_region 41 with fail
          generalize wq.alloc (.cells #[.int .i64 n1k, .string (bs n1y), .string (bs n1v), .int .i64 n1p, .int .u64 n1l, .int .u64 n1r] 75) = wz at *
          generalize wq.heap.size = g1 at *
          clear wq
          have hz1b := hN1.lt
          have hC := hD2 _ hB
          have q0 := (h6.cell 0).trans (show _ = some (Value.int .i64 D) from rfl)
          have q1 := (h6.cell 1).trans (show _ = some (Value.slice vA' n vc') from rfl)
          have s6 := (hS.cell 6).trans (show _ = some (Value.string (bs x.value)) from rfl)
          go_wp2_with fail
          refine hC.mono ?_
          rintro e wq ⟨rfl, hq⟩
          clear hC hD2 q0 q1 s6
          have hbw := hq.alloc hq.size (.cells #[.int .i64 n1k, .string (bs n1y), .string (bs n1v), .int .i64 n1p, .int .u64 n1l, .int .u64 n1r] 75)
          have hM1 : Blk (wq.alloc (.cells #[.int .i64 n1k, .string (bs n1y), .string (bs n1v), .int .i64 n1p, .int .u64 n1l, .int .u64 n1r] 75)) wq.heap.size 75 #[.int .i64 n1k, .string (bs n1y), .string (bs n1v), .int .i64 n1p, .int .u64 n1l, .int .u64 n1r] := Blk.new _ _ _
          have hz2 := hq.size
          replace h5 := h5.below hbw h5.lt
          replace h6 := h6.below hbw h6.lt
          replace hS := hS.below hbw hS.lt
          replace hB := hB.up hbw
          replace hb := hb.trans (hbw.mono hb.size)
          replace hN1 := hN1.below hbw hN1.lt
          clear hq hbw
          go_upto_region 42 with fail
          generalize wq.alloc (.cells #[.int .i64 n1k, .string (bs n1y), .string (bs n1v), .int .i64 n1p, .int .u64 n1l, .int .u64 n1r] 75) = W2 at *
          generalize wq.heap.size = g2 at *
          clear wq
          have hws := wayK_len x.a
          generalize hWK : wayK x.a = S2 at *
          have p0 := (h5.cell 0).trans (show _ = some (Value.int .i64 D) from rfl)
          have p1 := (h5.cell 1).trans (show _ = some (Value.pointer b) from rfl)
          have s1 := (hS.cell 1).trans (show _ = some (Value.int .i64 x.a) from rfl)
          have hC := fun (W : World) (h : Below W2.heap.size W2 W) => (hB.up h).tat S2 (by omega)
          have hD2 := fun W h => @Both.rat D W T b vA' vc' n h hTB S2 (by omega)
          unfold AtP at hC hD2
          generalize atN D T S2 = N2 at *
          generalize atE T S2 = E2 at *
          obtain ⟨n2k, n2y, n2v, n2p, n2l, n2r⟩ := N2
          simp only at hC hD2
          have hwy := fun W => way_any x.a W hxo.2.1.1
          rw [hWK] at hwy
          have KS := Lib.hid (fun (W : World) (h : Below W2.heap.size W2 W) => (show (W.cell? ⟨G, 0, none⟩ = some (.int .i64 D) ∧ W.cell? ⟨G, 1, none⟩ = some (.pointer b) ∧ W.cell? ⟨S, 1, none⟩ = some (.int .i64 x.a)) ∧ Below W2.heap.size W2 W from ⟨⟨(h.cell (p := ⟨G, 0, none⟩) h5.lt).trans p0, (h.cell (p := ⟨G, 1, none⟩) h5.lt).trans p1, (h.cell (p := ⟨S, 1, none⟩) hS.lt).trans s1⟩, h⟩))
          have HP := Lib.hid (hC)
          have hN : Blk (W2.alloc (.cells #[.int .i64 0, .string ⟨#[]⟩, .string ⟨#[]⟩, .int .i64 0, .int .u64 0, .int .u64 0] 75)) W2.heap.size 75 #[.int .i64 0, .string ⟨#[]⟩, .string ⟨#[]⟩, .int .i64 0, .int .u64 0, .int .u64 0] := Blk.new _ _ _
          go_cut [30, 31] from 179 to 186 (fun p e wx => ∃ g : Nat, p = .pointer (some ⟨g, 0, none⟩) ∧ e = .int .i64 E2 ∧ W2.heap.size ≤ g ∧ Blk wx g 75 #[.int .i64 n2k, .string (bs n2y), .string (bs n2v), .int .i64 n2p, .int .u64 n2l, .int .u64 n2r] ∧ Below W2.heap.size W2 wx)
          case first =>
            clear hB
            go_region_held3 (fun W => (W.cell? ⟨G, 0, none⟩ = some (.int .i64 D) ∧ W.cell? ⟨G, 1, none⟩ = some (.pointer b) ∧ W.cell? ⟨S, 1, none⟩ = some (.int .i64 x.a)) ∧ Below W2.heap.size W2 W) (refine KS.out _ ?_ <;> with_reducible first | exact Below.refl _ _ | exact Below.drew (Below.refl _ _) | exact Below.drew (boxBelow (Below.refl _ _) _) | exact below_six hk4.out (Nat.le_refl _) _ _ _ _ _ _ | exact below_six hk4.out hk2.out.size _ _ _ _ _ _ | exact hk4.out | exact hk2.out | exact boxBelow hk4.out _ | exact boxBelow hk2.out _ | exact And.right (by assumption) | exact Below.drew (And.right (by assumption)) | exact boxBelow (And.right (by assumption)) _) (first
              | (go_at_call 29
                 with_reducible refine (hwy _).mono ?_
                 rintro e w2 ⟨rfl, hb2⟩
                 have hk2 : Hid (Below W2.heap.size W2 w2) := callBelow (by first | exact Below.drew (Below.refl _ _) | exact And.right (by assumption)) hb2
                 try
                   have hN2 := Blk.below (Blk.drew hN) hb2 (by simp))
              | (go_at_call 27
                 with_reducible refine (HP.out _ hk2.out).mono ?_
                 rintro e w4 ⟨rfl, hb4⟩
                 have hk4 : Hid (Below W2.heap.size W2 w4) := callBelow hk2.out hb4
                 have hN4 := Blk.below hN2 hb4 hN2.lt
                 have n0 := (hN4.cell 0).trans (show _ = some (Value.int .i64 0) from rfl)
                 have n1 := (hN4.cell 1).trans (show _ = some (Value.string ⟨#[]⟩) from rfl)
                 have n2 := (hN4.cell 2).trans (show _ = some (Value.string ⟨#[]⟩) from rfl)
                 have n3 := (hN4.cell 3).trans (show _ = some (Value.int .i64 0) from rfl)
                 have n4 := (hN4.cell 4).trans (show _ = some (Value.int .u64 0) from rfl)
                 have n5 := (hN4.cell 5).trans (show _ = some (Value.int .u64 0) from rfl)
                 have nf0 := hN4.frozen 0
                 have nf1 := hN4.frozen 1
                 have nf2 := hN4.frozen 2
                 have nf3 := hN4.frozen 3
                 have nf4 := hN4.frozen 4
                 have nf5 := hN4.frozen 5)
              | (go_at_call 27
                 with_reducible refine (HP.out _ (boxBelow hk2.out (.cells #[.int .i64 0, .string ⟨#[]⟩, .string ⟨#[]⟩, .int .i64 0, .int .u64 0, .int .u64 0] 75))).mono ?_
                 rintro e w4 ⟨rfl, hb4⟩
                 have hk4 : Hid (Below W2.heap.size W2 w4) := callBelow (boxBelow hk2.out (.cells #[.int .i64 0, .string ⟨#[]⟩, .string ⟨#[]⟩, .int .i64 0, .int .u64 0, .int .u64 0] 75)) hb4
                 have hN4 := Blk.below (Blk.new w2 75 #[.int .i64 0, .string ⟨#[]⟩, .string ⟨#[]⟩, .int .i64 0, .int .u64 0, .int .u64 0]) hb4 (by simp)
                 have n0 := (hN4.cell 0).trans (show _ = some (Value.int .i64 0) from rfl)
                 have n1 := (hN4.cell 1).trans (show _ = some (Value.string ⟨#[]⟩) from rfl)
                 have n2 := (hN4.cell 2).trans (show _ = some (Value.string ⟨#[]⟩) from rfl)
                 have n3 := (hN4.cell 3).trans (show _ = some (Value.int .i64 0) from rfl)
                 have n4 := (hN4.cell 4).trans (show _ = some (Value.int .u64 0) from rfl)
                 have n5 := (hN4.cell 5).trans (show _ = some (Value.int .u64 0) from rfl)
                 have nf0 := hN4.frozen 0
                 have nf1 := hN4.frozen 1
                 have nf2 := hN4.frozen 2
                 have nf3 := hN4.frozen 3
                 have nf4 := hN4.frozen 4
                 have nf5 := hN4.frozen 5)
              | (go_at_call 27
                 with_reducible refine (HP.out _ hk2.out).mono ?_
                 rintro e w4 ⟨rfl, hb4⟩
                 have hk4 : Hid (Below W2.heap.size W2 w4) := callBelow hk2.out hb4))
            all_goals
              go_wp2_with fail
              go_meet
              case rel =>
                first
                  | with_reducible exact ⟨_, rfl, rfl, Nat.le_refl _, blk_six hN4 _ _ _ _ _ _, below_six hk4.out (Nat.le_refl _) _ _ _ _ _ _⟩
                  | with_reducible exact ⟨_, rfl, rfl, hk2.out.size, blk_six hN4 _ _ _ _ _ _, below_six hk4.out hk2.out.size _ _ _ _ _ _⟩
                  | with_reducible exact ⟨_, rfl, rfl, hk4.out.size, Blk.new _ _ _, boxBelow hk4.out _⟩
          case rest =>
            clear KS HP hN hwy
            obtain ⟨g3, rfl, rfl, hg3, hO1, hq⟩ := hcut
            clear hg3 hC p0 p1 s1
            replace h5 := h5.below hq h5.lt
            replace h6 := h6.below hq h6.lt
            replace hS := hS.below hq hS.lt
            replace hB := hB.up hq
            replace hb := hb.trans (hq.mono hb.size)
            replace hN1 := hN1.below hq hN1.lt
            replace hM1 := hM1.below hq hM1.lt
            clear hq
            generalize hWc : wc = W5 at *
            clear hWc
            have hC := fun (W : World) (h : Below W5.heap.size W5 W) => hD2 W (hB.up h)
            go_upto_region 43 with fail
            have q0 := (h6.cell 0).trans (show _ = some (Value.int .i64 D) from rfl)
            have q1 := (h6.cell 1).trans (show _ = some (Value.slice vA' n vc') from rfl)
            have s1 := (hS.cell 1).trans (show _ = some (Value.int .i64 x.a) from rfl)
            have hwy := fun W => way_any x.a W hxo.2.1.1
            rw [hWK] at hwy
            have KS := Lib.hid (fun (W : World) (h : Below W5.heap.size W5 W) => (show (W.cell? ⟨G + 1, 0, none⟩ = some (.int .i64 D) ∧ W.cell? ⟨G + 1, 1, none⟩ = some (.slice vA' n vc') ∧ W.cell? ⟨S, 1, none⟩ = some (.int .i64 x.a)) ∧ Below W5.heap.size W5 W from ⟨⟨(h.cell (p := ⟨G + 1, 0, none⟩) h6.lt).trans q0, (h.cell (p := ⟨G + 1, 1, none⟩) h6.lt).trans q1, (h.cell (p := ⟨S, 1, none⟩) hS.lt).trans s1⟩, h⟩))
            have HP := Lib.hid (hC)
            have hN : Blk (W5.alloc (.cells #[.int .i64 0, .string ⟨#[]⟩, .string ⟨#[]⟩, .int .i64 0, .int .u64 0, .int .u64 0] 75)) W5.heap.size 75 #[.int .i64 0, .string ⟨#[]⟩, .string ⟨#[]⟩, .int .i64 0, .int .u64 0, .int .u64 0] := Blk.new _ _ _
            go_cut [32, 33] from 187 to 194 (fun p e wx => ∃ g : Nat, p = .pointer (some ⟨g, 0, none⟩) ∧ e = .int .i64 E2 ∧ W5.heap.size ≤ g ∧ Blk wx g 75 #[.int .i64 n2k, .string (bs n2y), .string (bs n2v), .int .i64 n2p, .int .u64 n2l, .int .u64 n2r] ∧ Below W5.heap.size W5 wx)
            case first =>
              clear hB
              go_region_held3 (fun W => (W.cell? ⟨G + 1, 0, none⟩ = some (.int .i64 D) ∧ W.cell? ⟨G + 1, 1, none⟩ = some (.slice vA' n vc') ∧ W.cell? ⟨S, 1, none⟩ = some (.int .i64 x.a)) ∧ Below W5.heap.size W5 W) (refine KS.out _ ?_ <;> with_reducible first | exact Below.refl _ _ | exact Below.drew (Below.refl _ _) | exact Below.drew (boxBelow (Below.refl _ _) _) | exact below_six hk4.out (Nat.le_refl _) _ _ _ _ _ _ | exact below_six hk4.out hk2.out.size _ _ _ _ _ _ | exact hk4.out | exact hk2.out | exact boxBelow hk4.out _ | exact boxBelow hk2.out _ | exact And.right (by assumption) | exact Below.drew (And.right (by assumption)) | exact boxBelow (And.right (by assumption)) _) (first
                | (go_at_call 29
                   with_reducible refine (hwy _).mono ?_
                   rintro e w2 ⟨rfl, hb2⟩
                   have hk2 : Hid (Below W5.heap.size W5 w2) := callBelow (by first | exact Below.drew (Below.refl _ _) | exact And.right (by assumption)) hb2
                   try
                     have hN2 := Blk.below (Blk.drew hN) hb2 (by simp))
                | (go_at_call 28
                   with_reducible refine (HP.out _ hk2.out).mono ?_
                   rintro e w4 ⟨rfl, hb4⟩
                   have hk4 : Hid (Below W5.heap.size W5 w4) := callBelow hk2.out hb4
                   have hN4 := Blk.below hN2 hb4 hN2.lt
                   have n0 := (hN4.cell 0).trans (show _ = some (Value.int .i64 0) from rfl)
                   have n1 := (hN4.cell 1).trans (show _ = some (Value.string ⟨#[]⟩) from rfl)
                   have n2 := (hN4.cell 2).trans (show _ = some (Value.string ⟨#[]⟩) from rfl)
                   have n3 := (hN4.cell 3).trans (show _ = some (Value.int .i64 0) from rfl)
                   have n4 := (hN4.cell 4).trans (show _ = some (Value.int .u64 0) from rfl)
                   have n5 := (hN4.cell 5).trans (show _ = some (Value.int .u64 0) from rfl)
                   have nf0 := hN4.frozen 0
                   have nf1 := hN4.frozen 1
                   have nf2 := hN4.frozen 2
                   have nf3 := hN4.frozen 3
                   have nf4 := hN4.frozen 4
                   have nf5 := hN4.frozen 5)
                | (go_at_call 28
                   with_reducible refine (HP.out _ (boxBelow hk2.out (.cells #[.int .i64 0, .string ⟨#[]⟩, .string ⟨#[]⟩, .int .i64 0, .int .u64 0, .int .u64 0] 75))).mono ?_
                   rintro e w4 ⟨rfl, hb4⟩
                   have hk4 : Hid (Below W5.heap.size W5 w4) := callBelow (boxBelow hk2.out (.cells #[.int .i64 0, .string ⟨#[]⟩, .string ⟨#[]⟩, .int .i64 0, .int .u64 0, .int .u64 0] 75)) hb4
                   have hN4 := Blk.below (Blk.new w2 75 #[.int .i64 0, .string ⟨#[]⟩, .string ⟨#[]⟩, .int .i64 0, .int .u64 0, .int .u64 0]) hb4 (by simp)
                   have n0 := (hN4.cell 0).trans (show _ = some (Value.int .i64 0) from rfl)
                   have n1 := (hN4.cell 1).trans (show _ = some (Value.string ⟨#[]⟩) from rfl)
                   have n2 := (hN4.cell 2).trans (show _ = some (Value.string ⟨#[]⟩) from rfl)
                   have n3 := (hN4.cell 3).trans (show _ = some (Value.int .i64 0) from rfl)
                   have n4 := (hN4.cell 4).trans (show _ = some (Value.int .u64 0) from rfl)
                   have n5 := (hN4.cell 5).trans (show _ = some (Value.int .u64 0) from rfl)
                   have nf0 := hN4.frozen 0
                   have nf1 := hN4.frozen 1
                   have nf2 := hN4.frozen 2
                   have nf3 := hN4.frozen 3
                   have nf4 := hN4.frozen 4
                   have nf5 := hN4.frozen 5)
                | (go_at_call 28
                   with_reducible refine (HP.out _ hk2.out).mono ?_
                   rintro e w4 ⟨rfl, hb4⟩
                   have hk4 : Hid (Below W5.heap.size W5 w4) := callBelow hk2.out hb4))
              all_goals
                go_wp2_with fail
                go_meet
                case rel =>
                  first
                    | with_reducible exact ⟨_, rfl, rfl, Nat.le_refl _, blk_six hN4 _ _ _ _ _ _, below_six hk4.out (Nat.le_refl _) _ _ _ _ _ _⟩
                    | with_reducible exact ⟨_, rfl, rfl, hk2.out.size, blk_six hN4 _ _ _ _ _ _, below_six hk4.out hk2.out.size _ _ _ _ _ _⟩
                    | with_reducible exact ⟨_, rfl, rfl, hk4.out.size, Blk.new _ _ _, boxBelow hk4.out _⟩
            case rest =>
              clear KS HP hN hwy
              obtain ⟨g4, rfl, rfl, hg4, hO2, hq⟩ := hcut
              clear hg4 hC hD2 q0 q1 s1
              replace h5 := h5.below hq h5.lt
              replace h6 := h6.below hq h6.lt
              replace hS := hS.below hq hS.lt
              replace hB := hB.up hq
              replace hb := hb.trans (hq.mono hb.size)
              replace hN1 := hN1.below hq hN1.lt
              replace hM1 := hM1.below hq hM1.lt
              replace hO1 := hO1.below hq hO1.lt
              clear hq
              generalize hWc : wc = W6 at *
              clear hWc
              have u0 := (hN1.cell 0).trans (show _ = some (Value.int .i64 n1k) from rfl)
              have u1 := (hN1.cell 1).trans (show _ = some (Value.string (bs n1y)) from rfl)
              have u2 := (hN1.cell 2).trans (show _ = some (Value.string (bs n1v)) from rfl)
              have u3 := (hN1.cell 3).trans (show _ = some (Value.int .i64 n1p) from rfl)
              have u4 := (hN1.cell 4).trans (show _ = some (Value.int .u64 n1l) from rfl)
              have u5 := (hN1.cell 5).trans (show _ = some (Value.int .u64 n1r) from rfl)
              have v0 := (hM1.cell 0).trans (show _ = some (Value.int .i64 n1k) from rfl)
              have v1 := (hM1.cell 1).trans (show _ = some (Value.string (bs n1y)) from rfl)
              have v2 := (hM1.cell 2).trans (show _ = some (Value.string (bs n1v)) from rfl)
              have v3 := (hM1.cell 3).trans (show _ = some (Value.int .i64 n1p) from rfl)
              have v4 := (hM1.cell 4).trans (show _ = some (Value.int .u64 n1l) from rfl)
              have v5 := (hM1.cell 5).trans (show _ = some (Value.int .u64 n1r) from rfl)
              have a0 := (hO1.cell 0).trans (show _ = some (Value.int .i64 n2k) from rfl)
              have a1 := (hO1.cell 1).trans (show _ = some (Value.string (bs n2y)) from rfl)
              have a2 := (hO1.cell 2).trans (show _ = some (Value.string (bs n2v)) from rfl)
              have a3 := (hO1.cell 3).trans (show _ = some (Value.int .i64 n2p) from rfl)
              have a4 := (hO1.cell 4).trans (show _ = some (Value.int .u64 n2l) from rfl)
              have a5 := (hO1.cell 5).trans (show _ = some (Value.int .u64 n2r) from rfl)
              have b0 := (hO2.cell 0).trans (show _ = some (Value.int .i64 n2k) from rfl)
              have b1 := (hO2.cell 1).trans (show _ = some (Value.string (bs n2y)) from rfl)
              have b2 := (hO2.cell 2).trans (show _ = some (Value.string (bs n2v)) from rfl)
              have b3 := (hO2.cell 3).trans (show _ = some (Value.int .i64 n2p) from rfl)
              have b4 := (hO2.cell 4).trans (show _ = some (Value.int .u64 n2l) from rfl)
              have b5 := (hO2.cell 5).trans (show _ = some (Value.int .u64 n2r) from rfl)
              go_wp2_with fail
              go_roundw
              case rel => exact ⟨i + 1, T, b, _, by go_num, by omega, h5, h6, hB, hTl, hb⟩
              case measure => simp [intOf]; omega
        · have hC := rootT_any D t a _ hT0
          generalize hXe : rootT D t = X at hC
          unfold treeV at hC
          have o0 := (hO.cell 0).trans (show _ = some (Value.int .i64 D) from rfl)
          have o1 := (hO.cell 1).trans (show _ = some (Value.pointer a) from rfl)
          go_wp2_with fail
          refine hC.mono ?_
          rintro e wq ⟨rfl, hq⟩
          clear hC o0 o1
          replace h5 := h5.below hq h5.lt
          replace h6 := h6.below hq h6.lt
          replace hS := hS.below hq hS.lt
          replace hB := hB.up hq
          replace hb := hb.trans (hq.mono hb.size)
          replace hO := hO.below hq hO.lt
          replace h9 := h9.below hq h9.lt
          replace hT0 := hT0.up hq
          clear hq
          have hC := putB_any D x.key x.value t a _ hok0 hkl0 hT0
          have o0 := (hO.cell 0).trans (show _ = some (Value.int .i64 D) from rfl)
          have o1 := (hO.cell 1).trans (show _ = some (Value.pointer a) from rfl)
          have s5 := (hS.cell 5).trans (show _ = some (Value.string (bs x.key)) from rfl)
          have s6 := (hS.cell 6).trans (show _ = some (Value.string (bs x.value)) from rfl)
          have r0 := (h9.cell 0).trans (show _ = some (Value.int .i64 x') from rfl)
          have r1 := (h9.cell 1).trans (show _ = some (Value.pointer a') from rfl)
          go_wp2_with fail
          refine hC.mono ?_
          rintro e wq ⟨a2, z2, rfl, hpz, hq⟩
          clear hC hpz o0 o1 s5 s6 r0 r1
          replace h5 := h5.below hq h5.lt
          replace h6 := h6.below hq h6.lt
          replace hS := hS.below hq hS.lt
          replace hB := hB.up hq
          replace hb := hb.trans (hq.mono hb.size)
          replace hO := hO.below hq hO.lt
          replace h9 := h9.below hq h9.lt
          replace hT0 := hT0.up hq
          clear hq
          have r0 := (h9.cell 0).trans (show _ = some (Value.int .i64 x') from rfl)
          have r1 := (h9.cell 1).trans (show _ = some (Value.pointer a') from rfl)
          have rf := h9.frozen
          have HB := set2_both (D := z2) (a := a2) h9 hB
          have HT0 := set2_tree (D := z2) (a := a2) h9 hT0
          rw [← set2_size (W := wq) (g := G9) (D := z2) (a := a2)] at HT0
          have H5 := set2_blk (D := z2) (a := a2) h5 (show G ≠ G9 by omega)
          have H6 := set2_blk (D := z2) (a := a2) h6 (show G + 1 ≠ G9 by omega)
          have HO := set2_blk (D := z2) (a := a2) hO (show O ≠ G9 by omega)
          have Hb := set2_below (D := z2) (a := a2) (g := G9) hb (by omega)
          clear h5 h6 hO hb hB hT0 hS h9
          go_upto_region 48 with fail
          unfold set2 at *
          generalize ((wq.setCell ⟨G9, 0, none⟩ (.int .i64 z2)).setCell ⟨G9, 1, none⟩ (.pointer a2)) = wz at *
          have h5 := H5
          have h6 := H6
          have hB := HB
          have hb := Hb
          clear H5 H6 HB Hb
          have hC := rootT_any D t a _ HT0
          rw [hXe] at hC
          unfold treeV at hC
          have o0 := (HO.cell 0).trans (show _ = some (Value.int .i64 D) from rfl)
          have o1 := (HO.cell 1).trans (show _ = some (Value.pointer a) from rfl)
          go_wp2_with fail
          refine hC.mono ?_
          rintro e wq ⟨rfl, hq⟩
          clear hC o0 o1
          replace h5 := h5.below hq h5.lt
          replace h6 := h6.below hq h6.lt
          replace hB := hB.up hq
          replace hb := hb.trans (hq.mono hb.size)
          clear hq
          go_wp2_with fail
          go_roundw
          case rel => exact ⟨i + 1, T, b, _, by go_num, by omega, h5, h6, hB, hTl, hb⟩
          case measure => simp [intOf]; omega
    · have hii : ¬ (i : Int) < (l.length : Int) := by omega
      have hTB : (Tr.oitems t).length ≤ 1000000000 := by omega
      obtain ⟨vA, vc, rfl⟩ := hB.shape
      have hC := hB.root
      have p0 := (h5.cell 0).trans (show _ = some (Value.int .i64 D) from rfl)
      have p1 := (h5.cell 1).trans (show _ = some (Value.pointer a) from rfl)
      go_wp2_with fail
      refine hC.mono ?_
      rintro e wq ⟨rfl, hq⟩
      clear hC p0 p1
      replace h5 := h5.below hq h5.lt
      replace h6 := h6.below hq h6.lt
      replace hB := hB.up hq
      replace hb := hb.trans (hq.mono hb.size)
      clear hq
      have hC := hB.rroot hTB
      generalize rootT D t = X at *
      have q0 := (h6.cell 0).trans (show _ = some (Value.int .i64 D) from rfl)
      have q1 := (h6.cell 1).trans (show _ = some (Value.slice vA (Tr.oitems t).length vc) from rfl)
      go_wp2_with fail
      refine hC.mono ?_
      rintro e wq ⟨rfl, hq⟩
      clear hC q0 q1
      replace h5 := h5.below hq h5.lt
      replace h6 := h6.below hq h6.lt
      replace hB := hB.up hq
      replace hb := hb.trans (hq.mono hb.size)
      clear hq
      have hC := hB.items hTB [] (-1) (by simp)
      rw [someL_all] at hC
      have p0 := (h5.cell 0).trans (show _ = some (Value.int .i64 D) from rfl)
      have p1 := (h5.cell 1).trans (show _ = some (Value.pointer a) from rfl)
      go_wp2_with fail
      refine hC.mono ?_
      rintro e wq ⟨A1, c1, rfl, hi1, hq⟩
      clear hC p0 p1
      replace h5 := h5.below hq h5.lt
      replace h6 := h6.below hq h6.lt
      replace hB := hB.up hq
      replace hb := hb.trans (hq.mono hb.size)
      have hzq := hq.size
      clear hq
      obtain ⟨_, _, _, hi2, _⟩ := hB.parts hTB
      have hC := sameItems_any (Tr.oitems t) A1 vA c1 vc _ _ _ hi1 hi2 (by omega)
      have q0 := (h6.cell 0).trans (show _ = some (Value.int .i64 D) from rfl)
      have q1 := (h6.cell 1).trans (show _ = some (Value.slice vA (Tr.oitems t).length vc) from rfl)
      go_wp2_with fail
      refine hC.mono ?_
      rintro e wq ⟨rfl, hq⟩
      clear hC q0 q1
      replace h5 := h5.below hq h5.lt
      replace h6 := h6.below hq h6.lt
      replace hB := hB.up hq
      replace hb := hb.trans (hq.mono hb.size)
      go_wp2_with fail
      go_ret
      exact ⟨rfl, hb⟩


namespace trieExact
open Go.ChangeShapes Go.WideShapes Go.ChangeAt Go.RowKit
set_option linter.unusedVariables false
set_option maxRecDepth 100000 in
theorem walk {H : Type} (enc : TypeId × Value → H) : LawWalkB enc Try.prog Try.f4 4 := by
  intro W args ds p hA hval hlt hfz hbulk
  rw [Try.params4] at hA hval
  obtain ⟨v0, vs0, d0, ds0, p0, q0, hargs, rfl, rfl, h0, r0⟩ := trodAll_cons hA
  obtain ⟨v1, vs1, d1, ds1, p1, q1, rfl, rfl, rfl, h1, r1⟩ := trodAll_cons r0
  obtain ⟨rfl, rfl, rfl⟩ := trodAll_nil r1
  obtain rfl : args = #[v0, v1] := by cases args; simp_all
  simp only [Rows.uptoBulkAll] at hbulk
  obtain ⟨a0, rfl, _, _, wa0⟩ := open_int Try.underlying3 (hval 0 _ v0 rfl rfl) h0
  obtain ⟨A1, c1, l1, rfl, ⟨lc1, cm1, hl1, hw1⟩, hm1⟩ := openB_steps (hval 1 _ v1 rfl rfl) h1
  exact trieExact_walk a0 (wf_i64 wa0).1 l1 A1 c1 W hl1 (steps_bulk (n := 1048576) (by omega)).1 (fun x hx => (hw1 x hx).2) (steps_bulk (n := 1048576) (by omega)).2
set_option maxRecDepth 100000 in
theorem lifted (os : Os) (started : os.Started) (H : Type) (enc : TypeId × Value → H) (F : Stop.Interp) :
    ReturnsInHanded {} Try.checked os 4 .any ((Rows.OpenSpec.upto Rows.trieExactSpec).pre6 enc Try.prog Try.f4 Rows.trieExactUptoRow.domain false) (((Rows.OpenSpec.upto Rows.trieExactSpec).at F).post enc Try.prog Try.f4 false true false false) := by
  refine returnsInHanded_of_cond (C := Try.checked) (s := Rows.OpenSpec.upto Rows.trieExactSpec) (k := Rows.uptoSmall) rfl (by kernel_rfl) started (by kernel_rfl) Try.func4
    (OpenSpec.witness (enc := enc) (C := Try.checked) (s := Rows.OpenSpec.upto Rows.trieExactSpec) (k := Rows.uptoSmall) rfl false ⟨#[], #[.int .i64 0, .slice none 0 0], []⟩ 8 (by kernel_rfl) (by kernel_rfl) (by kernel_rfl)
      (x := ([.lit (.int .i64 0), .nil], [], [])) (by kernel_rfl) rfl (by kernel_rfl)) ?_
  intro W base args ds gs before hval hW _ hk _
  exact law_contract (C := Try.checked) (s := Rows.trieExactSpec) (by kernel_rfl) (by kernel_rfl) rfl rfl Try.underlying4 (fun ds h => match ds, h with | [_, _], _ => rfl) (walk enc) W args ds gs before hval hW hk
set_option maxRecDepth 100000 in
theorem funcAt : Try.pinned.checked.prog.funcNamed Rows.trieExactUptoRow.func = some 4 := by kernel_rfl
set_option maxRecDepth 100000 in
theorem closed : joinedFacts Try.pinned.checked.prog 4 Try.f4 (Rows.OpenSpec.upto Rows.trieExactSpec).bare Rows.trieExactUptoRow = true := by kernel_rfl
set_option maxRecDepth 100000 in
theorem over : Rows.trieExactUptoRow.holds Try.pinned (Rows.OpenSpec.upto Rows.trieExactSpec) :=
  OpenClaim.holds_of_cond 4 Try.f4 rfl rfl rfl rfl rfl rfl rfl ⟨rfl, rfl, rfl, rfl, rfl⟩ rfl rfl rfl rfl rfl funcAt Try.func4 closed
    (of_decide_eq_true (by kernel_rfl)) (by unfold Func.isWrapper; first | (rw [if_pos (by decide +kernel)]; kernel_rfl) | (rw [if_neg (by decide +kernel)]; exact ⟨rfl, rfl⟩))
    (fun os started H enc _ F => lifted os started H enc F)
end trieExact
/-- the statement -/
theorem trieExact_holds : Rows.TrieExactUptoSaid := trieExact.over
#print axioms trieExact_holds
end Go.Proofs.Ytjjkdmngmopjbaa

