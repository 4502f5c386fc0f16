/- How heavy messages are: it is some answer. -/
import Derived.Test.YtjmkcndjjfokiaaProg
import Derived.Test.YtjmkcndjjfokiaaHeavyS
import Derived.Test.YtjmkcndjjfokiaaHeavyM
import Derived.BigQuiet
import Derived.Deep.QuietTactic
namespace Go.Proofs.Ytjmkcndjjfokiaa
open Go.RowKit
theorem wp_region_classN {P : Program} {id : Nat} {Q : Exit → Act → World → Prop} {a : Act} {w : World} (C : World → Prop) {l : List Oper} (hm : P.follows .mixedOrders = true) (hB : Region.lexB .any l.toArray = true) (hC : C w.drew)
    (h : wpQuiet P l.toArray C (fun a' => ∀ w', C w' → Q .normal a' w') l a) : (Code.region id l.toArray true).wp P Q a w :=
  wp_region_quiet (C := C) hm hB hC (by simpa using h)
structure Hm (w : World) (B : Nat) (CS : Array Value) (b off : Nat) (l : List KnownD) (W : World) : Prop where
  box : Blk W w.heap.size 95 CS
  ks : KnownsL W B (some ⟨b, off, none⟩) l
  kd : ∀ y ∈ l, y.held W B
  low : Below w.heap.size w W
structure HmW (w : World) (B : Nat) (CS : Array Value) (b off : Nat) (l : List KnownD) where
  it : World
  two : Hm w B CS b off l it
theorem Hm.drew {w : World} {B : Nat} {CS : Array Value} {b off : Nat} {l : List KnownD} {W : World} (h : Hm w B CS b off l W) : Hm w B CS b off l W.drew :=
  ⟨Blk.drew h.box, h.ks, fun y hy => (h.kd y hy).below ((Below.refl B W).drew), h.low.drew⟩
theorem Hm.below {w : World} {B : Nat} {CS : Array Value} {b off : Nat} {l : List KnownD} {W W' : World} (h : Hm w B CS b off l W) (hb : Below W.heap.size W W') (hB : B ≤ w.heap.size) : Hm w B CS b off l W' := by
  have hs := h.low.size
  exact ⟨h.box.below hb h.box.lt, Rd.below h.ks (hb.mono (by omega)), fun y hy => (h.kd y hy).below (hb.mono (by omega)), h.low.trans (hb.mono hs)⟩
theorem Hm.at_ {w : World} {B : Nat} {CS : Array Value} {b off : Nat} {l : List KnownD} {W : World} (h : Hm w B CS b off l W) {k : Nat} (hk : k < l.length) : ∀ j u, (l[k].cells)[j]? = some u → W.cell? ⟨b, off + k * 17 + j, none⟩ = some u := by
  obtain ⟨b', off', e, _, hc⟩ := KnownsL.at_ h.ks hk
  simp only [Option.some.injEq, Addr.mk.injEq, and_true] at e
  obtain ⟨rfl, rfl⟩ := e
  exact hc
set_option maxRecDepth 100000 in
set_option maxHeartbeats 4000000 in
theorem heavyMessage_any (x : MessageD) (B : Nat) (w : World) (hx : x.held w B) (hB : B ≤ w.heap.size) :
    Calls Try.prog 46 #[x.val] w (SomeB w) := by
  obtain ⟨x1, x2, x3, vl, vA, vc, ml, mA, mc, kl, kA, kc, ts, tA, tc⟩ := x
  dsimp only [MessageD.val]
  obtain ⟨_, hxm, hxk, hxt, ⟨hs0, hs1, hs2, hs3⟩, _, hxm2, hxk2, hxt2⟩ := hx
  dsimp only at hxm hxk hxt hs0 hs1 hs2 hs3 hxm2 hxk2 hxt2
  have hsm := hs3
  unfold maxLen at hs0 hs1 hs2 hs3
  have hbel0 : Below w.heap.size w (w.alloc (.cells #[.int .i64 x1, .int .i64 x2, .int .i64 x3, .slice vA vl.length vc, .slice mA ml.length mc, .slice kA kl.length kc, .slice tA ts.length tc] 95)) := (Below.refl _ _).alloc (Nat.le_refl _) _
  have hB0 : Blk (w.alloc (.cells #[.int .i64 x1, .int .i64 x2, .int .i64 x3, .slice vA vl.length vc, .slice mA ml.length mc, .slice kA kl.length kc, .slice tA ts.length tc] 95)) w.heap.size 95 #[.int .i64 x1, .int .i64 x2, .int .i64 x3, .slice vA vl.length vc, .slice mA ml.length mc, .slice kA kl.length kc, .slice tA ts.length tc] := Blk.new _ _ _
  have hsz0 := hbel0.size
  have hv := heavy_any ts tA tc B B (w.alloc (.cells #[.int .i64 x1, .int .i64 x2, .int .i64 x3, .slice vA vl.length vc, .slice mA ml.length mc, .slice kA kl.length kc, .slice tA ts.length tc] 95)) (Rd.below hxt (hbel0.mono hB)) (by omega) (fun y hy => (hxt2 y hy).below (hbel0.mono hB)) (by omega) hsm
  go_enter Try.func46, Try.ntmps46
  go_upto_region 1 with fail
  go_cut [21] (fun z wc => ∃ q : Bool, z = .bool q ∧ Blk wc w.heap.size 95 #[.int .i64 x1, .int .i64 x2, .int .i64 x3, .slice vA vl.length vc, .slice mA ml.length mc, .slice kA kl.length kc, .slice tA ts.length tc] ∧ Below w.heap.size w wc)
  case first =>
    as_aux_lemma =>
    go_wp2_with fail
    all_goals first
      | (go_meet
         exact ⟨_, rfl, hB0, hbel0⟩)
      | (refine hv.mono ?_
         rintro e w1 ⟨q, rfl, hb1⟩
         go_wp2_with fail
         go_meet
         exact ⟨_, rfl, hB0.below hb1 hB0.lt, hbel0.trans (hb1.mono hsz0)⟩)
  case rest =>
    as_aux_lemma =>
    obtain ⟨q, rfl, hBq, hbelq⟩ := hcut
    clear hv hB0 hbel0 hsz0
    cases q
    case true =>
      go_wp2_with fail
      go_ret
      exact ⟨_, rfl, hbelq⟩
    go_wp2_with fail
    go_loopw [3] (fun i wr => ∃ j : Nat, i = .int .i64 (j : Int) ∧ j ≤ ml.length ∧ Blk wr w.heap.size 95 #[.int .i64 x1, .int .i64 x2, .int .i64 x3, .slice vA vl.length vc, .slice mA ml.length mc, .slice kA kl.length kc, .slice tA ts.length tc] ∧ Below w.heap.size w wr) (fun i _ => ml.length - (intOf i).toNat)
    case atStart => exact ⟨0, rfl, by omega, hBq, hbelq⟩
    case round =>
      obtain ⟨j, rfl, hj, hBx, hbel⟩ := hrel
      have q4 := (hBx.cell 4).trans (show _ = some (Value.slice mA ml.length mc) from rfl)
      have q5 := (hBx.cell 5).trans (show _ = some (Value.slice kA kl.length kc) from rfl)
      have hsz := hbel.size
      by_cases hlt : j < ml.length
      · as_aux_lemma =>
        have hji : (j : Int) < (ml.length : Int) := by omega
        obtain ⟨b, off, rfl, hbB, hc⟩ := MotionsL.at_ (Rd.below hxm (hbel.mono hB)) hlt
        have hx := (hxm2 ml[j] (List.getElem_mem hlt)).below (hbel.mono hB)
        generalize ml[j] = y at *
        have d0 : wr.cell? ⟨b, off + j * 14, none⟩ = some (.int .i64 y.r) := hc 0 _ rfl
        have d1 : wr.cell? ⟨b, off + j * 14 + 1, none⟩ = some (.int .i64 y.f) := hc 1 _ rfl
        have d2 : wr.cell? ⟨b, off + j * 14 + 2, none⟩ = some (.int .i64 y.block.header.c) := hc 2 _ rfl
        have d3 : wr.cell? ⟨b, off + j * 14 + 3, none⟩ = some (.int .i64 y.block.header.h) := hc 3 _ rfl
        have d4 : wr.cell? ⟨b, off + j * 14 + 4, none⟩ = some (.int .u64 y.block.header.p) := hc 4 _ rfl
        have d5 : wr.cell? ⟨b, off + j * 14 + 5, none⟩ = some (.int .u64 y.block.header.t) := hc 5 _ rfl
        have d6 : wr.cell? ⟨b, off + j * 14 + 6, none⟩ = some (.int .u64 y.block.header.g) := hc 6 _ rfl
        have d7 : wr.cell? ⟨b, off + j * 14 + 7, none⟩ = some (.int .u64 y.block.header.s) := hc 7 _ rfl
        have d8 : wr.cell? ⟨b, off + j * 14 + 8, none⟩ = some (.int .u64 y.block.header.r) := hc 8 _ rfl
        have d9 : wr.cell? ⟨b, off + j * 14 + 9, none⟩ = some (.int .u64 y.block.header.b) := hc 9 _ rfl
        have d10 : wr.cell? ⟨b, off + j * 14 + 10, none⟩ = some (.int .i64 y.block.header.o) := hc 10 _ rfl
        have d11 : wr.cell? ⟨b, off + j * 14 + 11, none⟩ = some (.slice y.block.ta y.block.txs.length y.block.tc) := hc 11 _ rfl
        have d12 : wr.cell? ⟨b, off + j * 14 + 12, none⟩ = some (.slice y.block.ga y.block.guilts.length y.block.gc) := hc 12 _ rfl
        have d13 : wr.cell? ⟨b, off + j * 14 + 13, none⟩ = some (.slice y.ba y.basis.length y.bc) := hc 13 _ rfl
        clear hc
        go_wp2_with fail
        refine (heavyMotion_any y B _ hx (by omega)).mono ?_
        rintro e w1 ⟨q, rfl, hb1⟩
        cases q
        · go_wp2_with fail
          go_roundw
          case rel => exact ⟨j + 1, by go_num, by omega, hBx.below hb1 hBx.lt, hbel.trans (hb1.mono hsz)⟩
          case measure => simp [intOf]; omega
        · go_wp2_with fail
          go_ret
          exact ⟨_, rfl, hbel.trans (hb1.mono hsz)⟩
      · as_aux_lemma =>
        have hji : ¬ (j : Int) < (ml.length : Int) := by omega
        go_wp2_with fail
        clear q4 q5
        go_loopw [4] (fun i wr => ∃ j : Nat, i = .int .i64 (j : Int) ∧ j ≤ kl.length ∧ Blk wr w.heap.size 95 #[.int .i64 x1, .int .i64 x2, .int .i64 x3, .slice vA vl.length vc, .slice mA ml.length mc, .slice kA kl.length kc, .slice tA ts.length tc] ∧ Below w.heap.size w wr) (fun i _ => kl.length - (intOf i).toNat)
        case atStart => exact ⟨0, rfl, by omega, hBx, hbel⟩
        case round =>
          obtain ⟨k, rfl, hk, hBy, hbel2⟩ := hrel
          have q5 := (hBy.cell 5).trans (show _ = some (Value.slice kA kl.length kc) from rfl)
          have hsz2 := hbel2.size
          by_cases hlt2 : k < kl.length
          · as_aux_lemma =>
            have hki : (k : Int) < (kl.length : Int) := by omega
            obtain ⟨b, off, rfl, hbB, _⟩ := KnownsL.at_ (Rd.below hxk (hbel2.mono hB)) hlt2
            have hT : Hm w B #[.int .i64 x1, .int .i64 x2, .int .i64 x3, .slice vA vl.length vc, .slice mA ml.length mc, .slice (some ⟨b, off, none⟩) kl.length kc, .slice tA ts.length tc] b off kl wr := ⟨hBy, Rd.below hxk (hbel2.mono hB), fun y hy => (hxk2 y hy).below (hbel2.mono hB), hbel2⟩
            have zc : ∀ z : HmW w B #[.int .i64 x1, .int .i64 x2, .int .i64 x3, .slice vA vl.length vc, .slice mA ml.length mc, .slice (some ⟨b, off, none⟩) kl.length kc, .slice tA ts.length tc] b off kl, z.it.cell? ⟨w.heap.size, 5, none⟩ = some (.slice (some ⟨b, off, none⟩) kl.length kc) := fun z => (z.two.box.cell 5).trans rfl
            have zk : ∀ z : HmW w B #[.int .i64 x1, .int .i64 x2, .int .i64 x3, .slice vA vl.length vc, .slice mA ml.length mc, .slice (some ⟨b, off, none⟩) kl.length kc, .slice tA ts.length tc] b off kl, ∀ j u, (kl[k].cells)[j]? = some u → z.it.cell? ⟨b, off + k * 17 + j, none⟩ = some u := fun z => z.two.at_ hlt2
            have zh : ∀ z : HmW w B #[.int .i64 x1, .int .i64 x2, .int .i64 x3, .slice vA vl.length vc, .slice mA ml.length mc, .slice (some ⟨b, off, none⟩) kl.length kc, .slice tA ts.length tc] b off kl, kl[k].held z.it B := fun z => z.two.kd _ (List.getElem_mem hlt2)
            generalize kl[k] = y at *
            have zt : ∀ z : HmW w B #[.int .i64 x1, .int .i64 x2, .int .i64 x3, .slice vA vl.length vc, .slice mA ml.length mc, .slice (some ⟨b, off, none⟩) kl.length kc, .slice tA ts.length tc] b off kl, z.it.cell? ⟨b, off + k * 17 + 6 + 9, none⟩ = some (.slice y.block.ta y.block.txs.length y.block.tc) := fun z => zk z 15 _ rfl
            have zg : ∀ z : HmW w B #[.int .i64 x1, .int .i64 x2, .int .i64 x3, .slice vA vl.length vc, .slice mA ml.length mc, .slice (some ⟨b, off, none⟩) kl.length kc, .slice tA ts.length tc] b off kl, z.it.cell? ⟨b, off + k * 17 + 6 + 10, none⟩ = some (.slice y.block.ga y.block.guilts.length y.block.gc) := fun z => zk z 16 _ rfl
            have zf : ∀ z : HmW w B #[.int .i64 x1, .int .i64 x2, .int .i64 x3, .slice vA vl.length vc, .slice mA ml.length mc, .slice (some ⟨b, off, none⟩) kl.length kc, .slice tA ts.length tc] b off kl, z.it.cell? ⟨b, off + k * 17 + 5, none⟩ = some (.slice y.cert.fa y.cert.froms.length y.cert.fc) := fun z => zk z 5 _ rfl
            have zv : ∀ z : HmW w B #[.int .i64 x1, .int .i64 x2, .int .i64 x3, .slice vA vl.length vc, .slice mA ml.length mc, .slice (some ⟨b, off, none⟩) kl.length kc, .slice tA ts.length tc] b off kl, Calls Try.prog 36 #[.slice y.block.ta y.block.txs.length y.block.tc] z.it fun e w' => e = .returned (.bool (heavyS y.block.txs)) ∧ Below z.it.heap.size z.it w' := fun z =>
              heavyS_any y.block.txs y.block.ta y.block.tc B B z.it (zh z).block.txs (Nat.le_trans hB z.two.low.size) (zh z).block.tx (Nat.le_trans hB z.two.low.size) (zh z).block.short.1
            have inst : Nonempty (HmW w B #[.int .i64 x1, .int .i64 x2, .int .i64 x3, .slice vA vl.length vc, .slice mA ml.length mc, .slice (some ⟨b, off, none⟩) kl.length kc, .slice tA ts.length tc] b off kl) := ⟨⟨_, hT⟩⟩
            clear zk zh
            cases hq : heavyS y.block.txs
            · rw [hq] at zv
              clear hq
              go_wp2_with fail
              refine wp_region_classN (fun W => ∃ z : HmW w B #[.int .i64 x1, .int .i64 x2, .int .i64 x3, .slice vA vl.length vc, .slice mA ml.length mc, .slice (some ⟨b, off, none⟩) kl.length kc, .slice tA ts.length tc] b off kl, W = z.it) (by kernel_rfl) (by kernel_rfl) ⟨⟨_, hT.drew⟩, rfl⟩ ?_
              clear hT
              repeat (go_big_quiet_step (first | (rename_i z; with_reducible refine (zv z).mono ?_; rintro e w2 ⟨rfl, hb2⟩; exact ⟨rfl, ⟨w2, z.two.below hb2 hB⟩, rfl⟩)))
              refine wpQuiet_nil ?_
              rintro w9 ⟨z, rfl⟩
              go_wp2_with fail
              · go_ret
                exact ⟨_, rfl, z.two.low⟩
              · go_roundw
                case rel => exact ⟨k + 1, by go_num, by omega, z.two.box, z.two.low⟩
                case measure => simp [intOf]; omega
            · rw [hq] at zv
              clear hq
              go_wp2_with fail
              refine wp_region_classN (fun W => ∃ z : HmW w B #[.int .i64 x1, .int .i64 x2, .int .i64 x3, .slice vA vl.length vc, .slice mA ml.length mc, .slice (some ⟨b, off, none⟩) kl.length kc, .slice tA ts.length tc] b off kl, W = z.it) (by kernel_rfl) (by kernel_rfl) ⟨⟨_, hT.drew⟩, rfl⟩ ?_
              clear hT
              repeat (go_big_quiet_step (first | (rename_i z; with_reducible refine (zv z).mono ?_; rintro e w2 ⟨rfl, hb2⟩; exact ⟨rfl, ⟨w2, z.two.below hb2 hB⟩, rfl⟩)))
              refine wpQuiet_nil ?_
              rintro w9 ⟨z, rfl⟩
              go_wp2_with fail
              go_ret
              exact ⟨_, rfl, z.two.low⟩
          · as_aux_lemma =>
            have hki : ¬ (k : Int) < (kl.length : Int) := by omega
            go_wp2_with fail
            go_ret
            exact ⟨_, rfl, hbel2⟩
end Go.Proofs.Ytjmkcndjjfokiaa
