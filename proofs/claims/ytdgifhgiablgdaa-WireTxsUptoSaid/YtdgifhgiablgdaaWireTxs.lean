/- WireTxs: package wire's and the reference's writers agree on transactions, proofs, headers and certs. The arguments are of bulk at most 1048576 together. -/
import Derived.Test.YtdgifhgiablgdaaProg
import Derived.Test.YtdgifhgiablgdaaFrameB
import Derived.Test.YtdgifhgiablgdaaOpenV
import Derived.Test.YtdgifhgiablgdaaHeavy
import Derived.Test.YtdgifhgiablgdaaWr19
namespace Go.Proofs.Ytdgifhgiablgdaa
open Go.RowKit
set_option maxRecDepth 100000 in
set_option maxHeartbeats 4000000 in
theorem wireTxs_walk (t : TxD) (p : ProofD) (h : HeaderD) (hh : h.ok) (c : CertD) (w : World) (ht : t.held w w.heap.size) (hp : p.held w w.heap.size) (hc : c.held w w.heap.size) (hbig : txM t + proofM p + certM c ≤ 1048576) :
    Calls Try.prog 13 #[t.val, p.val, h.val, c.val] w fun e w' => e = .returned (.bool true) ∧ Below w.heap.size w w' := by
  obtain ⟨t1, t2, t3, t4, t5, t6, t7, t8, al, aA, ac, ss, sA, sc, ps, pA, pc⟩ := t
  obtain ⟨us, uA, uc, p2, p3, p4⟩ := p
  obtain ⟨h1, h2, h3, h4, h5, h6, h7, h8, h9⟩ := h
  obtain ⟨c1, c2, c3, c4, c5, fs, fA, fc⟩ := c
  have hbt : txM ⟨t1, t2, t3, t4, t5, t6, t7, t8, al, aA, ac, ss, sA, sc, ps, pA, pc⟩ ≤ 1048576 := by omega
  have hbp : proofM ⟨us, uA, uc, p2, p3, p4⟩ ≤ 1048576 := by omega
  have hbc : certM ⟨c1, c2, c3, c4, c5, fs, fA, fc⟩ ≤ 1048576 := by omega
  have hsmall : us.length ≤ 1048576 ∧ p3.length ≤ 1048576 ∧ p4.length ≤ 1048576 ∧ fs.length ≤ 1048576 := by
    simp only [proofM, certM, turns_M] at hbp hbc
    omega
  clear hbig
  have f_tx := fun W g1 g2 => put_tx ⟨t1, t2, t3, t4, t5, t6, t7, t8, al, aA, ac, ss, sA, sc, ps, pA, pc⟩ w.heap.size W g1 g2 (by omega)
  have q_tx := fun W g1 g2 => rput_tx ⟨t1, t2, t3, t4, t5, t6, t7, t8, al, aA, ac, ss, sA, sc, ps, pA, pc⟩ w.heap.size W g1 g2 (by omega)
  generalize Out.empty.tx ⟨t1, t2, t3, t4, t5, t6, t7, t8, al, aA, ac, ss, sA, sc, ps, pA, pc⟩ = S_tx at f_tx q_tx
  have f_proof := fun W g1 g2 => put_proof ⟨us, uA, uc, p2, p3, p4⟩ w.heap.size W g1 g2 (by omega)
  have q_proof := fun W g1 g2 => rput_proof ⟨us, uA, uc, p2, p3, p4⟩ w.heap.size W g1 g2 (by omega)
  generalize Out.empty.proof ⟨us, uA, uc, p2, p3, p4⟩ = S_proof at f_proof q_proof
  have f_cert := fun W g1 g2 => put_cert ⟨c1, c2, c3, c4, c5, fs, fA, fc⟩ w.heap.size W g1 g2 (by omega)
  have q_cert := fun W g1 g2 => rput_cert ⟨c1, c2, c3, c4, c5, fs, fA, fc⟩ w.heap.size W g1 g2 (by omega)
  generalize Out.empty.cert ⟨c1, c2, c3, c4, c5, fs, fA, fc⟩ = S_cert at f_cert q_cert
  have f_header := fun W => put_header ⟨h1, h2, h3, h4, h5, h6, h7, h8, h9⟩ hh W
  have q_header := fun W => rput_header ⟨h1, h2, h3, h4, h5, h6, h7, h8, h9⟩ hh W
  generalize Out.empty.header ⟨h1, h2, h3, h4, h5, h6, h7, h8, h9⟩ = S_header at f_header q_header
  have HHE := fun W A c g1 g2 g3 g4 => heavy_any [⟨t1, t2, t3, t4, t5, t6, t7, t8, al, aA, ac, ss, sA, sc, ps, pA, pc⟩] A c w.heap.size (W : World).heap.size W g1 g2 g3 g4 (by simp [maxLen])
  dsimp only [TxD.val, ProofD.val, HeaderD.val, CertD.val] at *
  have hb_t : Blk (w.alloc (.cells #[.int .i64 t1, .int .i64 t2, .int .i64 t3, .int .i64 t4, .int .i64 t5, .int .i64 t6, .int .i64 t7, .string (bs t8), .slice aA al.length ac, .slice sA ss.length sc, .slice pA ps.length pc] 104)) w.heap.size 104 #[.int .i64 t1, .int .i64 t2, .int .i64 t3, .int .i64 t4, .int .i64 t5, .int .i64 t6, .int .i64 t7, .string (bs t8), .slice aA al.length ac, .slice sA ss.length sc, .slice pA ps.length pc] := Blk.new _ _ _
  have hb_p : Blk ((w.alloc (.cells #[.int .i64 t1, .int .i64 t2, .int .i64 t3, .int .i64 t4, .int .i64 t5, .int .i64 t6, .int .i64 t7, .string (bs t8), .slice aA al.length ac, .slice sA ss.length sc, .slice pA ps.length pc] 104)).alloc (.cells #[.slice uA us.length uc, .bool p2, .string (bs p3), .string (bs p4)] 107)) (w.heap.size + 1) 107 #[.slice uA us.length uc, .bool p2, .string (bs p3), .string (bs p4)] := by have hN := Blk.new (w.alloc (.cells #[.int .i64 t1, .int .i64 t2, .int .i64 t3, .int .i64 t4, .int .i64 t5, .int .i64 t6, .int .i64 t7, .string (bs t8), .slice aA al.length ac, .slice sA ss.length sc, .slice pA ps.length pc] 104)) 107 #[.slice uA us.length uc, .bool p2, .string (bs p3), .string (bs p4)]; simpa using hN
  have hb_h : Blk (((w.alloc (.cells #[.int .i64 t1, .int .i64 t2, .int .i64 t3, .int .i64 t4, .int .i64 t5, .int .i64 t6, .int .i64 t7, .string (bs t8), .slice aA al.length ac, .slice sA ss.length sc, .slice pA ps.length pc] 104)).alloc (.cells #[.slice uA us.length uc, .bool p2, .string (bs p3), .string (bs p4)] 107)).alloc (.cells #[.int .i64 h1, .int .i64 h2, .int .u64 h3, .int .u64 h4, .int .u64 h5, .int .u64 h6, .int .u64 h7, .int .u64 h8, .int .i64 h9] 109)) (w.heap.size + 2) 109 #[.int .i64 h1, .int .i64 h2, .int .u64 h3, .int .u64 h4, .int .u64 h5, .int .u64 h6, .int .u64 h7, .int .u64 h8, .int .i64 h9] := by have hN := Blk.new ((w.alloc (.cells #[.int .i64 t1, .int .i64 t2, .int .i64 t3, .int .i64 t4, .int .i64 t5, .int .i64 t6, .int .i64 t7, .string (bs t8), .slice aA al.length ac, .slice sA ss.length sc, .slice pA ps.length pc] 104)).alloc (.cells #[.slice uA us.length uc, .bool p2, .string (bs p3), .string (bs p4)] 107)) 109 #[.int .i64 h1, .int .i64 h2, .int .u64 h3, .int .u64 h4, .int .u64 h5, .int .u64 h6, .int .u64 h7, .int .u64 h8, .int .i64 h9]; simpa using hN
  have hb_c : Blk ((((w.alloc (.cells #[.int .i64 t1, .int .i64 t2, .int .i64 t3, .int .i64 t4, .int .i64 t5, .int .i64 t6, .int .i64 t7, .string (bs t8), .slice aA al.length ac, .slice sA ss.length sc, .slice pA ps.length pc] 104)).alloc (.cells #[.slice uA us.length uc, .bool p2, .string (bs p3), .string (bs p4)] 107)).alloc (.cells #[.int .i64 h1, .int .i64 h2, .int .u64 h3, .int .u64 h4, .int .u64 h5, .int .u64 h6, .int .u64 h7, .int .u64 h8, .int .i64 h9] 109)).alloc (.cells #[.int .i64 c1, .int .i64 c2, .int .i64 c3, .bool c4, .int .u64 c5, .slice fA fs.length fc] 111)) (w.heap.size + 3) 111 #[.int .i64 c1, .int .i64 c2, .int .i64 c3, .bool c4, .int .u64 c5, .slice fA fs.length fc] := by have hN := Blk.new (((w.alloc (.cells #[.int .i64 t1, .int .i64 t2, .int .i64 t3, .int .i64 t4, .int .i64 t5, .int .i64 t6, .int .i64 t7, .string (bs t8), .slice aA al.length ac, .slice sA ss.length sc, .slice pA ps.length pc] 104)).alloc (.cells #[.slice uA us.length uc, .bool p2, .string (bs p3), .string (bs p4)] 107)).alloc (.cells #[.int .i64 h1, .int .i64 h2, .int .u64 h3, .int .u64 h4, .int .u64 h5, .int .u64 h6, .int .u64 h7, .int .u64 h8, .int .i64 h9] 109)) 111 #[.int .i64 c1, .int .i64 c2, .int .i64 c3, .bool c4, .int .u64 c5, .slice fA fs.length fc]; simpa using hN
  have hB_t := (((hb_t.alloc (.cells #[.slice uA us.length uc, .bool p2, .string (bs p3), .string (bs p4)] 107)).alloc (.cells #[.int .i64 h1, .int .i64 h2, .int .u64 h3, .int .u64 h4, .int .u64 h5, .int .u64 h6, .int .u64 h7, .int .u64 h8, .int .i64 h9] 109)).alloc (.cells #[.int .i64 c1, .int .i64 c2, .int .i64 c3, .bool c4, .int .u64 c5, .slice fA fs.length fc] 111)).alloc (.cells #[.int .i64 t1, .int .i64 t2, .int .i64 t3, .int .i64 t4, .int .i64 t5, .int .i64 t6, .int .i64 t7, .string (bs t8), .slice aA al.length ac, .slice sA ss.length sc, .slice pA ps.length pc] 104)
  have hB_p := ((hb_p.alloc (.cells #[.int .i64 h1, .int .i64 h2, .int .u64 h3, .int .u64 h4, .int .u64 h5, .int .u64 h6, .int .u64 h7, .int .u64 h8, .int .i64 h9] 109)).alloc (.cells #[.int .i64 c1, .int .i64 c2, .int .i64 c3, .bool c4, .int .u64 c5, .slice fA fs.length fc] 111)).alloc (.cells #[.int .i64 t1, .int .i64 t2, .int .i64 t3, .int .i64 t4, .int .i64 t5, .int .i64 t6, .int .i64 t7, .string (bs t8), .slice aA al.length ac, .slice sA ss.length sc, .slice pA ps.length pc] 104)
  have hB_h := (hb_h.alloc (.cells #[.int .i64 c1, .int .i64 c2, .int .i64 c3, .bool c4, .int .u64 c5, .slice fA fs.length fc] 111)).alloc (.cells #[.int .i64 t1, .int .i64 t2, .int .i64 t3, .int .i64 t4, .int .i64 t5, .int .i64 t6, .int .i64 t7, .string (bs t8), .slice aA al.length ac, .slice sA ss.length sc, .slice pA ps.length pc] 104)
  have hB_c := hb_c.alloc (.cells #[.int .i64 t1, .int .i64 t2, .int .i64 t3, .int .i64 t4, .int .i64 t5, .int .i64 t6, .int .i64 t7, .string (bs t8), .slice aA al.length ac, .slice sA ss.length sc, .slice pA ps.length pc] 104)
  have hbel0 := (((((Below.refl w.heap.size w).alloc (by simp <;> omega) (.cells #[.int .i64 t1, .int .i64 t2, .int .i64 t3, .int .i64 t4, .int .i64 t5, .int .i64 t6, .int .i64 t7, .string (bs t8), .slice aA al.length ac, .slice sA ss.length sc, .slice pA ps.length pc] 104)).alloc (by simp <;> omega) (.cells #[.slice uA us.length uc, .bool p2, .string (bs p3), .string (bs p4)] 107)).alloc (by simp <;> omega) (.cells #[.int .i64 h1, .int .i64 h2, .int .u64 h3, .int .u64 h4, .int .u64 h5, .int .u64 h6, .int .u64 h7, .int .u64 h8, .int .i64 h9] 109)).alloc (by simp <;> omega) (.cells #[.int .i64 c1, .int .i64 c2, .int .i64 c3, .bool c4, .int .u64 c5, .slice fA fs.length fc] 111)).alloc (by simp <;> omega) (.cells #[.int .i64 t1, .int .i64 t2, .int .i64 t3, .int .i64 t4, .int .i64 t5, .int .i64 t6, .int .i64 t7, .string (bs t8), .slice aA al.length ac, .slice sA ss.length sc, .slice pA ps.length pc] 104)
  have hL : TxsL (((((w.alloc (.cells #[.int .i64 t1, .int .i64 t2, .int .i64 t3, .int .i64 t4, .int .i64 t5, .int .i64 t6, .int .i64 t7, .string (bs t8), .slice aA al.length ac, .slice sA ss.length sc, .slice pA ps.length pc] 104)).alloc (.cells #[.slice uA us.length uc, .bool p2, .string (bs p3), .string (bs p4)] 107)).alloc (.cells #[.int .i64 h1, .int .i64 h2, .int .u64 h3, .int .u64 h4, .int .u64 h5, .int .u64 h6, .int .u64 h7, .int .u64 h8, .int .i64 h9] 109)).alloc (.cells #[.int .i64 c1, .int .i64 c2, .int .i64 c3, .bool c4, .int .u64 c5, .slice fA fs.length fc] 111)).alloc (.cells #[.int .i64 t1, .int .i64 t2, .int .i64 t3, .int .i64 t4, .int .i64 t5, .int .i64 t6, .int .i64 t7, .string (bs t8), .slice aA al.length ac, .slice sA ss.length sc, .slice pA ps.length pc] 104)) (((((w.alloc (.cells #[.int .i64 t1, .int .i64 t2, .int .i64 t3, .int .i64 t4, .int .i64 t5, .int .i64 t6, .int .i64 t7, .string (bs t8), .slice aA al.length ac, .slice sA ss.length sc, .slice pA ps.length pc] 104)).alloc (.cells #[.slice uA us.length uc, .bool p2, .string (bs p3), .string (bs p4)] 107)).alloc (.cells #[.int .i64 h1, .int .i64 h2, .int .u64 h3, .int .u64 h4, .int .u64 h5, .int .u64 h6, .int .u64 h7, .int .u64 h8, .int .i64 h9] 109)).alloc (.cells #[.int .i64 c1, .int .i64 c2, .int .i64 c3, .bool c4, .int .u64 c5, .slice fA fs.length fc] 111)).alloc (.cells #[.int .i64 t1, .int .i64 t2, .int .i64 t3, .int .i64 t4, .int .i64 t5, .int .i64 t6, .int .i64 t7, .string (bs t8), .slice aA al.length ac, .slice sA ss.length sc, .slice pA ps.length pc] 104)).heap.size (some ⟨w.heap.size + 4, 0, none⟩) [⟨t1, t2, t3, t4, t5, t6, t7, t8, al, aA, ac, ss, sA, sc, ps, pA, pc⟩] := by
    have hN := Rd.laid ((((w.alloc (.cells #[.int .i64 t1, .int .i64 t2, .int .i64 t3, .int .i64 t4, .int .i64 t5, .int .i64 t6, .int .i64 t7, .string (bs t8), .slice aA al.length ac, .slice sA ss.length sc, .slice pA ps.length pc] 104)).alloc (.cells #[.slice uA us.length uc, .bool p2, .string (bs p3), .string (bs p4)] 107)).alloc (.cells #[.int .i64 h1, .int .i64 h2, .int .u64 h3, .int .u64 h4, .int .u64 h5, .int .u64 h6, .int .u64 h7, .int .u64 h8, .int .i64 h9] 109)).alloc (.cells #[.int .i64 c1, .int .i64 c2, .int .i64 c3, .bool c4, .int .u64 c5, .slice fA fs.length fc] 111)) #[.int .i64 t1, .int .i64 t2, .int .i64 t3, .int .i64 t4, .int .i64 t5, .int .i64 t6, .int .i64 t7, .string (bs t8), .slice aA al.length ac, .slice sA ss.length sc, .slice pA ps.length pc] 104 11 1 rfl
    have e : ((((w.alloc (.cells #[.int .i64 t1, .int .i64 t2, .int .i64 t3, .int .i64 t4, .int .i64 t5, .int .i64 t6, .int .i64 t7, .string (bs t8), .slice aA al.length ac, .slice sA ss.length sc, .slice pA ps.length pc] 104)).alloc (.cells #[.slice uA us.length uc, .bool p2, .string (bs p3), .string (bs p4)] 107)).alloc (.cells #[.int .i64 h1, .int .i64 h2, .int .u64 h3, .int .u64 h4, .int .u64 h5, .int .u64 h6, .int .u64 h7, .int .u64 h8, .int .i64 h9] 109)).alloc (.cells #[.int .i64 c1, .int .i64 c2, .int .i64 c3, .bool c4, .int .u64 c5, .slice fA fs.length fc] 111)).heap.size = w.heap.size + 4 := by simp
    rw [e] at hN
    have e2 : (((((w.alloc (.cells #[.int .i64 t1, .int .i64 t2, .int .i64 t3, .int .i64 t4, .int .i64 t5, .int .i64 t6, .int .i64 t7, .string (bs t8), .slice aA al.length ac, .slice sA ss.length sc, .slice pA ps.length pc] 104)).alloc (.cells #[.slice uA us.length uc, .bool p2, .string (bs p3), .string (bs p4)] 107)).alloc (.cells #[.int .i64 h1, .int .i64 h2, .int .u64 h3, .int .u64 h4, .int .u64 h5, .int .u64 h6, .int .u64 h7, .int .u64 h8, .int .i64 h9] 109)).alloc (.cells #[.int .i64 c1, .int .i64 c2, .int .i64 c3, .bool c4, .int .u64 c5, .slice fA fs.length fc] 111)).alloc (.cells #[.int .i64 t1, .int .i64 t2, .int .i64 t3, .int .i64 t4, .int .i64 t5, .int .i64 t6, .int .i64 t7, .string (bs t8), .slice aA al.length ac, .slice sA ss.length sc, .slice pA ps.length pc] 104)).heap.size = w.heap.size + 4 + 1 := by simp
    rw [e2]
    exact hN
  clear hb_t hb_p hb_h hb_c
  go_enter Try.func13, Try.ntmps13
  go_wp2_with fail
  refine (HHE _ _ 1 hL (Nat.le_refl _) (fun y hy => by simp at hy; subst hy; exact ht.below hbel0) (by simp <;> omega)).mono ?_
  rintro e w1 ⟨bq, rfl, hb1⟩
  replace hB_t := hB_t.below hb1 hB_t.lt
  replace hB_p := hB_p.below hb1 hB_p.lt
  replace hB_h := hB_h.below hb1 hB_h.lt
  replace hB_c := hB_c.below hb1 hB_c.lt
  have hsz1 := hb1.size
  simp at hsz1
  have hbel1 := hbel0.trans (hb1.mono (by simp <;> omega))
  clear hbel0 hL HHE hb1
  replace ht := ht.below hbel1
  replace hp := hp.below hbel1
  replace hc := hc.below hbel1
  have dt1_0 := (hB_t.cell 0).trans (show _ = some (Value.int .i64 t1) from rfl)
  have dt1_1 := (hB_t.cell 1).trans (show _ = some (Value.int .i64 t2) from rfl)
  have dt1_2 := (hB_t.cell 2).trans (show _ = some (Value.int .i64 t3) from rfl)
  have dt1_3 := (hB_t.cell 3).trans (show _ = some (Value.int .i64 t4) from rfl)
  have dt1_4 := (hB_t.cell 4).trans (show _ = some (Value.int .i64 t5) from rfl)
  have dt1_5 := (hB_t.cell 5).trans (show _ = some (Value.int .i64 t6) from rfl)
  have dt1_6 := (hB_t.cell 6).trans (show _ = some (Value.int .i64 t7) from rfl)
  have dt1_7 := (hB_t.cell 7).trans (show _ = some (Value.string (bs t8)) from rfl)
  have dt1_8 := (hB_t.cell 8).trans (show _ = some (Value.slice aA al.length ac) from rfl)
  have dt1_9 := (hB_t.cell 9).trans (show _ = some (Value.slice sA ss.length sc) from rfl)
  have dt1_10 := (hB_t.cell 10).trans (show _ = some (Value.slice pA ps.length pc) from rfl)
  have dp1_0 := (hB_p.cell 0).trans (show _ = some (Value.slice uA us.length uc) from rfl)
  have dp1_1 := (hB_p.cell 1).trans (show _ = some (Value.bool p2) from rfl)
  have dp1_2 := (hB_p.cell 2).trans (show _ = some (Value.string (bs p3)) from rfl)
  have dp1_3 := (hB_p.cell 3).trans (show _ = some (Value.string (bs p4)) from rfl)
  have dh1_0 := (hB_h.cell 0).trans (show _ = some (Value.int .i64 h1) from rfl)
  have dh1_1 := (hB_h.cell 1).trans (show _ = some (Value.int .i64 h2) from rfl)
  have dh1_2 := (hB_h.cell 2).trans (show _ = some (Value.int .u64 h3) from rfl)
  have dh1_3 := (hB_h.cell 3).trans (show _ = some (Value.int .u64 h4) from rfl)
  have dh1_4 := (hB_h.cell 4).trans (show _ = some (Value.int .u64 h5) from rfl)
  have dh1_5 := (hB_h.cell 5).trans (show _ = some (Value.int .u64 h6) from rfl)
  have dh1_6 := (hB_h.cell 6).trans (show _ = some (Value.int .u64 h7) from rfl)
  have dh1_7 := (hB_h.cell 7).trans (show _ = some (Value.int .u64 h8) from rfl)
  have dh1_8 := (hB_h.cell 8).trans (show _ = some (Value.int .i64 h9) from rfl)
  have dc1_0 := (hB_c.cell 0).trans (show _ = some (Value.int .i64 c1) from rfl)
  have dc1_1 := (hB_c.cell 1).trans (show _ = some (Value.int .i64 c2) from rfl)
  have dc1_2 := (hB_c.cell 2).trans (show _ = some (Value.int .i64 c3) from rfl)
  have dc1_3 := (hB_c.cell 3).trans (show _ = some (Value.bool c4) from rfl)
  have dc1_4 := (hB_c.cell 4).trans (show _ = some (Value.int .u64 c5) from rfl)
  have dc1_5 := (hB_c.cell 5).trans (show _ = some (Value.slice fA fs.length fc) from rfl)
  have hsum : Hid (us.length + p3.length + p4.length + fs.length ≤ 65536 ∨ 65536 < us.length + p3.length + p4.length + fs.length) := by show _ ∨ _; omega
  cases bq
  · rcases hsum.out with hs | hs
    · have hsi : ¬ (65536 : Int) < (us.length : Int) + (p3.length : Int) + (p4.length : Int) + (fs.length : Int) := by omega
      go_wp2_with fail
      refine (f_tx _ ht (by omega)).mono ?_
      rintro e w2 ⟨rfl, hb2⟩
      replace hB_t := hB_t.below hb2 hB_t.lt
      replace hB_p := hB_p.below hb2 hB_p.lt
      replace hB_h := hB_h.below hb2 hB_h.lt
      replace hB_c := hB_c.below hb2 hB_c.lt
      have hsz2 := hb2.size
      replace ht := ht.below (hb2.mono (by omega))
      replace hp := hp.below (hb2.mono (by omega))
      replace hc := hc.below (hb2.mono (by omega))
      have hbel2 := hbel1.trans (hb2.mono (by omega))
      have dt2_0 := (hB_t.cell 0).trans (show _ = some (Value.int .i64 t1) from rfl)
      have dt2_1 := (hB_t.cell 1).trans (show _ = some (Value.int .i64 t2) from rfl)
      have dt2_2 := (hB_t.cell 2).trans (show _ = some (Value.int .i64 t3) from rfl)
      have dt2_3 := (hB_t.cell 3).trans (show _ = some (Value.int .i64 t4) from rfl)
      have dt2_4 := (hB_t.cell 4).trans (show _ = some (Value.int .i64 t5) from rfl)
      have dt2_5 := (hB_t.cell 5).trans (show _ = some (Value.int .i64 t6) from rfl)
      have dt2_6 := (hB_t.cell 6).trans (show _ = some (Value.int .i64 t7) from rfl)
      have dt2_7 := (hB_t.cell 7).trans (show _ = some (Value.string (bs t8)) from rfl)
      have dt2_8 := (hB_t.cell 8).trans (show _ = some (Value.slice aA al.length ac) from rfl)
      have dt2_9 := (hB_t.cell 9).trans (show _ = some (Value.slice sA ss.length sc) from rfl)
      have dt2_10 := (hB_t.cell 10).trans (show _ = some (Value.slice pA ps.length pc) from rfl)
      go_wp2_with fail
      refine (q_tx _ ht (by omega)).mono ?_
      rintro e w3 ⟨rfl, hb3⟩
      replace hB_p := hB_p.below hb3 hB_p.lt
      replace hB_h := hB_h.below hb3 hB_h.lt
      replace hB_c := hB_c.below hb3 hB_c.lt
      have hsz3 := hb3.size
      replace hp := hp.below (hb3.mono (by omega))
      replace hc := hc.below (hb3.mono (by omega))
      have hbel3 := hbel2.trans (hb3.mono (by omega))
      have dp3_0 := (hB_p.cell 0).trans (show _ = some (Value.slice uA us.length uc) from rfl)
      have dp3_1 := (hB_p.cell 1).trans (show _ = some (Value.bool p2) from rfl)
      have dp3_2 := (hB_p.cell 2).trans (show _ = some (Value.string (bs p3)) from rfl)
      have dp3_3 := (hB_p.cell 3).trans (show _ = some (Value.string (bs p4)) from rfl)
      go_wp2_with fail
      refine (f_proof _ hp (by omega)).mono ?_
      rintro e w4 ⟨rfl, hb4⟩
      replace hB_p := hB_p.below hb4 hB_p.lt
      replace hB_h := hB_h.below hb4 hB_h.lt
      replace hB_c := hB_c.below hb4 hB_c.lt
      have hsz4 := hb4.size
      replace hp := hp.below (hb4.mono (by omega))
      replace hc := hc.below (hb4.mono (by omega))
      have hbel4 := hbel3.trans (hb4.mono (by omega))
      have dp4_0 := (hB_p.cell 0).trans (show _ = some (Value.slice uA us.length uc) from rfl)
      have dp4_1 := (hB_p.cell 1).trans (show _ = some (Value.bool p2) from rfl)
      have dp4_2 := (hB_p.cell 2).trans (show _ = some (Value.string (bs p3)) from rfl)
      have dp4_3 := (hB_p.cell 3).trans (show _ = some (Value.string (bs p4)) from rfl)
      go_wp2_with fail
      refine (q_proof _ hp (by omega)).mono ?_
      rintro e w5 ⟨rfl, hb5⟩
      replace hB_h := hB_h.below hb5 hB_h.lt
      replace hB_c := hB_c.below hb5 hB_c.lt
      have hsz5 := hb5.size
      replace hc := hc.below (hb5.mono (by omega))
      have hbel5 := hbel4.trans (hb5.mono (by omega))
      have dh5_0 := (hB_h.cell 0).trans (show _ = some (Value.int .i64 h1) from rfl)
      have dh5_1 := (hB_h.cell 1).trans (show _ = some (Value.int .i64 h2) from rfl)
      have dh5_2 := (hB_h.cell 2).trans (show _ = some (Value.int .u64 h3) from rfl)
      have dh5_3 := (hB_h.cell 3).trans (show _ = some (Value.int .u64 h4) from rfl)
      have dh5_4 := (hB_h.cell 4).trans (show _ = some (Value.int .u64 h5) from rfl)
      have dh5_5 := (hB_h.cell 5).trans (show _ = some (Value.int .u64 h6) from rfl)
      have dh5_6 := (hB_h.cell 6).trans (show _ = some (Value.int .u64 h7) from rfl)
      have dh5_7 := (hB_h.cell 7).trans (show _ = some (Value.int .u64 h8) from rfl)
      have dh5_8 := (hB_h.cell 8).trans (show _ = some (Value.int .i64 h9) from rfl)
      go_wp2_with fail
      refine (f_header _).mono ?_
      rintro e w6 ⟨rfl, hb6⟩
      replace hB_h := hB_h.below hb6 hB_h.lt
      replace hB_c := hB_c.below hb6 hB_c.lt
      have hsz6 := hb6.size
      replace hc := hc.below (hb6.mono (by omega))
      have hbel6 := hbel5.trans (hb6.mono (by omega))
      have dh6_0 := (hB_h.cell 0).trans (show _ = some (Value.int .i64 h1) from rfl)
      have dh6_1 := (hB_h.cell 1).trans (show _ = some (Value.int .i64 h2) from rfl)
      have dh6_2 := (hB_h.cell 2).trans (show _ = some (Value.int .u64 h3) from rfl)
      have dh6_3 := (hB_h.cell 3).trans (show _ = some (Value.int .u64 h4) from rfl)
      have dh6_4 := (hB_h.cell 4).trans (show _ = some (Value.int .u64 h5) from rfl)
      have dh6_5 := (hB_h.cell 5).trans (show _ = some (Value.int .u64 h6) from rfl)
      have dh6_6 := (hB_h.cell 6).trans (show _ = some (Value.int .u64 h7) from rfl)
      have dh6_7 := (hB_h.cell 7).trans (show _ = some (Value.int .u64 h8) from rfl)
      have dh6_8 := (hB_h.cell 8).trans (show _ = some (Value.int .i64 h9) from rfl)
      go_wp2_with fail
      refine (q_header _).mono ?_
      rintro e w7 ⟨rfl, hb7⟩
      replace hB_c := hB_c.below hb7 hB_c.lt
      have hsz7 := hb7.size
      replace hc := hc.below (hb7.mono (by omega))
      have hbel7 := hbel6.trans (hb7.mono (by omega))
      have dc7_0 := (hB_c.cell 0).trans (show _ = some (Value.int .i64 c1) from rfl)
      have dc7_1 := (hB_c.cell 1).trans (show _ = some (Value.int .i64 c2) from rfl)
      have dc7_2 := (hB_c.cell 2).trans (show _ = some (Value.int .i64 c3) from rfl)
      have dc7_3 := (hB_c.cell 3).trans (show _ = some (Value.bool c4) from rfl)
      have dc7_4 := (hB_c.cell 4).trans (show _ = some (Value.int .u64 c5) from rfl)
      have dc7_5 := (hB_c.cell 5).trans (show _ = some (Value.slice fA fs.length fc) from rfl)
      go_wp2_with fail
      refine (f_cert _ hc (by omega)).mono ?_
      rintro e w8 ⟨rfl, hb8⟩
      replace hB_c := hB_c.below hb8 hB_c.lt
      have hsz8 := hb8.size
      replace hc := hc.below (hb8.mono (by omega))
      have hbel8 := hbel7.trans (hb8.mono (by omega))
      have dc8_0 := (hB_c.cell 0).trans (show _ = some (Value.int .i64 c1) from rfl)
      have dc8_1 := (hB_c.cell 1).trans (show _ = some (Value.int .i64 c2) from rfl)
      have dc8_2 := (hB_c.cell 2).trans (show _ = some (Value.int .i64 c3) from rfl)
      have dc8_3 := (hB_c.cell 3).trans (show _ = some (Value.bool c4) from rfl)
      have dc8_4 := (hB_c.cell 4).trans (show _ = some (Value.int .u64 c5) from rfl)
      have dc8_5 := (hB_c.cell 5).trans (show _ = some (Value.slice fA fs.length fc) from rfl)
      go_wp2_with fail
      refine (q_cert _ hc (by omega)).mono ?_
      rintro e w9 ⟨rfl, hb9⟩
      have hsz9 := hb9.size
      have hbel9 := hbel8.trans (hb9.mono (by omega))
      go_wp2_with fail
      go_ret
      exact ⟨rfl, hbel9⟩
    · have hsi : (65536 : Int) < (us.length : Int) + (p3.length : Int) + (p4.length : Int) + (fs.length : Int) := by omega
      go_wp2_with fail
      go_ret
      exact ⟨rfl, hbel1⟩
  · go_wp2_with fail
    go_ret
    exact ⟨rfl, hbel1⟩

namespace wireTxs
open Go.ChangeShapes Go.WideShapes Go.ChangeAt Go.RowKit
set_option linter.unusedVariables false
set_option maxRecDepth 100000 in
theorem walk {H : Type} (enc : TypeId × Value → H) : LawWalkB enc Try.prog Try.f13 13 := by
  intro W args ds p hA hval hlt hfz hbulk
  rw [Try.params13] at hA hval
  obtain ⟨v0, vs0, d0, ds0, p0, q0, hargs, rfl, rfl, h0, r0⟩ := trodAll_cons hA
  obtain ⟨v1, vs1, d1, ds1, p1, q1, rfl, rfl, rfl, h1, r1⟩ := trodAll_cons r0
  obtain ⟨v2, vs2, d2, ds2, p2, q2, rfl, rfl, rfl, h2, r2⟩ := trodAll_cons r1
  obtain ⟨v3, vs3, d3, ds3, p3, q3, rfl, rfl, rfl, h3, r3⟩ := trodAll_cons r2
  obtain ⟨rfl, rfl, rfl⟩ := trodAll_nil r3
  obtain rfl : args = #[v0, v1, v2, v3] := by cases args; simp_all
  simp only [Rows.uptoBulkAll] at hbulk
  obtain ⟨x0, rfl, hx0, hm0⟩ := openB_tx (hval 0 _ v0 rfl rfl) h0
  obtain ⟨x1, rfl, hx1, hm1⟩ := openB_proof (hval 1 _ v1 rfl rfl) h1
  obtain ⟨x2, rfl, hx2, hm2⟩ := openB_header (hval 2 _ v2 rfl rfl) h2
  obtain ⟨x3, rfl, hx3, hm3⟩ := openB_cert (hval 3 _ v3 rfl rfl) h3
  exact wireTxs_walk x0 x1 x2 hx2.2 x3 W hx0.2 hx1.2 hx3.2 (by omega)
set_option maxRecDepth 100000 in
theorem lifted (os : Os) (started : os.Started) (H : Type) (enc : TypeId × Value → H) (F : Stop.Interp) :
    ReturnsInHanded {} Try.checked os 13 .any ((Rows.OpenSpec.upto Rows.wireTxsSpec).pre6 enc Try.prog Try.f13 Rows.wireTxsUptoRow.domain false) (((Rows.OpenSpec.upto Rows.wireTxsSpec).at F).post enc Try.prog Try.f13 false true false false) := by
  refine returnsInHanded_of_cond (C := Try.checked) (s := Rows.OpenSpec.upto Rows.wireTxsSpec) (k := Rows.uptoSmall) rfl (by kernel_rfl) started (by kernel_rfl) Try.func13
    (OpenSpec.witness (enc := enc) (C := Try.checked) (s := Rows.OpenSpec.upto Rows.wireTxsSpec) (k := Rows.uptoSmall) rfl false ⟨#[], #[.agg #[.int .i64 0, .int .i64 0, .int .i64 0, .int .i64 0, .int .i64 0, .int .i64 0, .int .i64 0, .string ⟨#[]⟩, .slice none 0 0, .slice none 0 0, .slice none 0 0], .agg #[.slice none 0 0, .bool false, .string ⟨#[]⟩, .string ⟨#[]⟩], .agg #[.int .i64 0, .int .i64 0, .int .u64 0, .int .u64 0, .int .u64 0, .int .u64 0, .int .u64 0, .int .u64 0, .int .i64 0], .agg #[.int .i64 0, .int .i64 0, .int .i64 0, .bool false, .int .u64 0, .slice none 0 0]], []⟩ 8 (by kernel_rfl) (by kernel_rfl) (by kernel_rfl)
      (x := ([.agg [.lit (.int .i64 0), .lit (.int .i64 0), .lit (.int .i64 0), .lit (.int .i64 0), .lit (.int .i64 0), .lit (.int .i64 0), .lit (.int .i64 0), .lit (.string []), .nil, .nil, .nil], .agg [.nil, .lit (.bool false), .lit (.string []), .lit (.string [])], .agg [.lit (.int .i64 0), .lit (.int .i64 0), .lit (.int .u64 0), .lit (.int .u64 0), .lit (.int .u64 0), .lit (.int .u64 0), .lit (.int .u64 0), .lit (.int .u64 0), .lit (.int .i64 0)], .agg [.lit (.int .i64 0), .lit (.int .i64 0), .lit (.int .i64 0), .lit (.bool false), .lit (.int .u64 0), .nil]], [], [])) (by kernel_rfl) rfl (by kernel_rfl)) ?_
  intro W base args ds gs before hval hW _ hk _
  exact law_contract (C := Try.checked) (s := Rows.wireTxsSpec) (by kernel_rfl) (by kernel_rfl) rfl rfl Try.underlying4 (fun ds h => match ds, h with | [_, _, _, _], _ => rfl) (walk enc) W args ds gs before hval hW hk
set_option maxRecDepth 100000 in
theorem over : Rows.wireTxsUptoRow.holds Try.pinned (Rows.OpenSpec.upto Rows.wireTxsSpec) :=
  OpenClaim.holds_of_cond 13 Try.f13 rfl rfl rfl rfl rfl rfl rfl ⟨rfl, rfl, rfl, rfl, rfl⟩ rfl rfl rfl rfl rfl (by kernel_rfl) Try.func13 (by kernel_rfl)
    (of_decide_eq_true (by kernel_rfl)) (by unfold Func.isWrapper; first | (rw [if_pos (by decide +kernel)]; kernel_rfl) | (rw [if_neg (by decide +kernel)]; exact ⟨rfl, rfl⟩))
    (fun os started H enc _ F => lifted os started H enc F)
end wireTxs
/-- the statement -/
theorem wireTxs_holds : Rows.WireTxsUptoSaid := wireTxs.over
#print axioms wireTxs_holds
end Go.Proofs.Ytdgifhgiablgdaa
