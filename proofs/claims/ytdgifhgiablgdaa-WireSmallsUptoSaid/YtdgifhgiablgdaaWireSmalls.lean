/- WireSmalls: package wire's and the reference's writers agree on numbers, votes, guilts, benches, parcels, accounts, views and results. The arguments are of bulk at most 1048576 together. -/
import Derived.Test.YtdgifhgiablgdaaProg
import Derived.Test.YtdgifhgiablgdaaFrameB
import Derived.Test.YtdgifhgiablgdaaOpenW
import Derived.Test.YtdgifhgiablgdaaWr10
import Derived.Test.YtdgifhgiablgdaaWr12
namespace Go.Proofs.Ytdgifhgiablgdaa
open Go.RowKit
set_option maxRecDepth 100000 in
set_option maxHeartbeats 4000000 in
theorem wireSmalls_walk (n : Int) (v : VoteD) (hv : v.ok) (g : GuiltD) (hg : g.ok) (l : List Seat) (lA : Option Addr) (lc : Nat) (p : ParcelD) (a : AccountD) (u : ViewD) (hu : u.ok) (r : ResultD) (w : World) (hlr : SeatsL w w.heap.size lA l) (hur : SeatsL w w.heap.size u.sa u.seats) (hrr : NotesL w w.heap.size r.na r.notes) (hbig : l.length + u.seats.length + r.notes.length ≤ 1048576) :
    Calls Try.prog 9 #[.int .i64 n, v.val, g.val, .slice lA l.length lc, p.val, a.val, u.val, r.val] w fun e w' => e = .returned (.bool true) ∧ Below w.heap.size w w' := by
  obtain ⟨v1, v2, v3, v4, v5, v6⟩ := v
  obtain ⟨⟨g1, g2, g3, g4, g5, g6⟩, ⟨k1, k2, k3, k4, k5, k6⟩⟩ := g
  obtain ⟨p1, p2, p3⟩ := p
  obtain ⟨a1, a2, a3, a4, a5, a6, a7⟩ := a
  obtain ⟨u1, u2, u3, u4, u5, us, uA, uc⟩ := u
  obtain ⟨r1, r2, r3, rs, rA, rc⟩ := r
  dsimp only at hur hrr hbig
  have f_num := fun W => put_num n W
  have q_num := fun W => rput_num n W
  generalize Out.empty.num n = S_num at f_num q_num
  have f_vote := fun W => put_vote ⟨v1, v2, v3, v4, v5, v6⟩ hv W
  have q_vote := fun W => rput_vote ⟨v1, v2, v3, v4, v5, v6⟩ hv W
  generalize Out.empty.vote ⟨v1, v2, v3, v4, v5, v6⟩ = S_vote at f_vote q_vote
  have f_guilt := fun W => put_guilt ⟨⟨g1, g2, g3, g4, g5, g6⟩, ⟨k1, k2, k3, k4, k5, k6⟩⟩ hg W
  have q_guilt := fun W => rput_guilt ⟨⟨g1, g2, g3, g4, g5, g6⟩, ⟨k1, k2, k3, k4, k5, k6⟩⟩ hg W
  generalize Out.empty.guilt ⟨⟨g1, g2, g3, g4, g5, g6⟩, ⟨k1, k2, k3, k4, k5, k6⟩⟩ = S_guilt at f_guilt q_guilt
  have f_parcel := fun W => put_parcel ⟨p1, p2, p3⟩ W
  have q_parcel := fun W => rput_parcel ⟨p1, p2, p3⟩ W
  generalize Out.empty.parcel ⟨p1, p2, p3⟩ = S_parcel at f_parcel q_parcel
  have f_account := fun W => put_account ⟨a1, a2, a3, a4, a5, a6, a7⟩ W
  have q_account := fun W => rput_account ⟨a1, a2, a3, a4, a5, a6, a7⟩ W
  generalize Out.empty.account ⟨a1, a2, a3, a4, a5, a6, a7⟩ = S_account at f_account q_account
  have f_bench := fun W h1 h2 h3 => put_bench l lA lc w.heap.size W h1 h2 h3
  have q_bench := fun W h1 h2 h3 => rput_bench l lA lc w.heap.size W h1 h2 h3
  generalize Out.empty.bench l = S_bench at f_bench q_bench
  have f_view := fun W h1 h2 h3 => put_view ⟨u1, u2, u3, u4, u5, us, uA, uc⟩ hu w.heap.size W h1 h2 h3
  have q_view := fun W h1 h2 h3 => rput_view ⟨u1, u2, u3, u4, u5, us, uA, uc⟩ hu w.heap.size W h1 h2 h3
  generalize Out.empty.view ⟨u1, u2, u3, u4, u5, us, uA, uc⟩ = S_view at f_view q_view
  have f_result := fun W h1 h2 h3 => put_result ⟨r1, r2, r3, rs, rA, rc⟩ w.heap.size W h1 h2 h3
  have q_result := fun W h1 h2 h3 => rput_result ⟨r1, r2, r3, rs, rA, rc⟩ w.heap.size W h1 h2 h3
  generalize Out.empty.result ⟨r1, r2, r3, rs, rA, rc⟩ = S_result at f_result q_result
  dsimp only [VoteD.val, GuiltD.val, ParcelD.val, AccountD.val, ViewD.val, ResultD.val] at *
  have hb_v : Blk (w.alloc (.cells #[.int .i64 v1, .int .i64 v2, .int .i64 v3, .bool v4, .int .u64 v5, .int .i64 v6] 65)) w.heap.size 65 #[.int .i64 v1, .int .i64 v2, .int .i64 v3, .bool v4, .int .u64 v5, .int .i64 v6] := Blk.new _ _ _
  have hb_g : Blk ((w.alloc (.cells #[.int .i64 v1, .int .i64 v2, .int .i64 v3, .bool v4, .int .u64 v5, .int .i64 v6] 65)).alloc (.cells #[.int .i64 g1, .int .i64 g2, .int .i64 g3, .bool g4, .int .u64 g5, .int .i64 g6, .int .i64 k1, .int .i64 k2, .int .i64 k3, .bool k4, .int .u64 k5, .int .i64 k6] 67)) (w.heap.size + 1) 67 #[.int .i64 g1, .int .i64 g2, .int .i64 g3, .bool g4, .int .u64 g5, .int .i64 g6, .int .i64 k1, .int .i64 k2, .int .i64 k3, .bool k4, .int .u64 k5, .int .i64 k6] := by have hN := Blk.new (w.alloc (.cells #[.int .i64 v1, .int .i64 v2, .int .i64 v3, .bool v4, .int .u64 v5, .int .i64 v6] 65)) 67 #[.int .i64 g1, .int .i64 g2, .int .i64 g3, .bool g4, .int .u64 g5, .int .i64 g6, .int .i64 k1, .int .i64 k2, .int .i64 k3, .bool k4, .int .u64 k5, .int .i64 k6]; simpa using hN
  have hb_p : Blk (((w.alloc (.cells #[.int .i64 v1, .int .i64 v2, .int .i64 v3, .bool v4, .int .u64 v5, .int .i64 v6] 65)).alloc (.cells #[.int .i64 g1, .int .i64 g2, .int .i64 g3, .bool g4, .int .u64 g5, .int .i64 g6, .int .i64 k1, .int .i64 k2, .int .i64 k3, .bool k4, .int .u64 k5, .int .i64 k6] 67)).alloc (.cells #[.int .i64 p1, .int .i64 p2, .int .i64 p3] 69)) (w.heap.size + 2) 69 #[.int .i64 p1, .int .i64 p2, .int .i64 p3] := by have hN := Blk.new ((w.alloc (.cells #[.int .i64 v1, .int .i64 v2, .int .i64 v3, .bool v4, .int .u64 v5, .int .i64 v6] 65)).alloc (.cells #[.int .i64 g1, .int .i64 g2, .int .i64 g3, .bool g4, .int .u64 g5, .int .i64 g6, .int .i64 k1, .int .i64 k2, .int .i64 k3, .bool k4, .int .u64 k5, .int .i64 k6] 67)) 69 #[.int .i64 p1, .int .i64 p2, .int .i64 p3]; simpa using hN
  have hb_a : Blk ((((w.alloc (.cells #[.int .i64 v1, .int .i64 v2, .int .i64 v3, .bool v4, .int .u64 v5, .int .i64 v6] 65)).alloc (.cells #[.int .i64 g1, .int .i64 g2, .int .i64 g3, .bool g4, .int .u64 g5, .int .i64 g6, .int .i64 k1, .int .i64 k2, .int .i64 k3, .bool k4, .int .u64 k5, .int .i64 k6] 67)).alloc (.cells #[.int .i64 p1, .int .i64 p2, .int .i64 p3] 69)).alloc (.cells #[.int .i64 a1, .int .i64 a2, .int .i64 a3, .int .i64 a4, .int .i64 a5, .int .i64 a6, .bool a7] 71)) (w.heap.size + 3) 71 #[.int .i64 a1, .int .i64 a2, .int .i64 a3, .int .i64 a4, .int .i64 a5, .int .i64 a6, .bool a7] := by have hN := Blk.new (((w.alloc (.cells #[.int .i64 v1, .int .i64 v2, .int .i64 v3, .bool v4, .int .u64 v5, .int .i64 v6] 65)).alloc (.cells #[.int .i64 g1, .int .i64 g2, .int .i64 g3, .bool g4, .int .u64 g5, .int .i64 g6, .int .i64 k1, .int .i64 k2, .int .i64 k3, .bool k4, .int .u64 k5, .int .i64 k6] 67)).alloc (.cells #[.int .i64 p1, .int .i64 p2, .int .i64 p3] 69)) 71 #[.int .i64 a1, .int .i64 a2, .int .i64 a3, .int .i64 a4, .int .i64 a5, .int .i64 a6, .bool a7]; simpa using hN
  have hb_w : Blk (((((w.alloc (.cells #[.int .i64 v1, .int .i64 v2, .int .i64 v3, .bool v4, .int .u64 v5, .int .i64 v6] 65)).alloc (.cells #[.int .i64 g1, .int .i64 g2, .int .i64 g3, .bool g4, .int .u64 g5, .int .i64 g6, .int .i64 k1, .int .i64 k2, .int .i64 k3, .bool k4, .int .u64 k5, .int .i64 k6] 67)).alloc (.cells #[.int .i64 p1, .int .i64 p2, .int .i64 p3] 69)).alloc (.cells #[.int .i64 a1, .int .i64 a2, .int .i64 a3, .int .i64 a4, .int .i64 a5, .int .i64 a6, .bool a7] 71)).alloc (.cells #[.int .i64 u1, .int .i64 u2, .int .i64 u3, .int .i64 u4, .int .u64 u5, .slice uA us.length uc] 73)) (w.heap.size + 4) 73 #[.int .i64 u1, .int .i64 u2, .int .i64 u3, .int .i64 u4, .int .u64 u5, .slice uA us.length uc] := by have hN := Blk.new ((((w.alloc (.cells #[.int .i64 v1, .int .i64 v2, .int .i64 v3, .bool v4, .int .u64 v5, .int .i64 v6] 65)).alloc (.cells #[.int .i64 g1, .int .i64 g2, .int .i64 g3, .bool g4, .int .u64 g5, .int .i64 g6, .int .i64 k1, .int .i64 k2, .int .i64 k3, .bool k4, .int .u64 k5, .int .i64 k6] 67)).alloc (.cells #[.int .i64 p1, .int .i64 p2, .int .i64 p3] 69)).alloc (.cells #[.int .i64 a1, .int .i64 a2, .int .i64 a3, .int .i64 a4, .int .i64 a5, .int .i64 a6, .bool a7] 71)) 73 #[.int .i64 u1, .int .i64 u2, .int .i64 u3, .int .i64 u4, .int .u64 u5, .slice uA us.length uc]; simpa using hN
  have hb_r : Blk ((((((w.alloc (.cells #[.int .i64 v1, .int .i64 v2, .int .i64 v3, .bool v4, .int .u64 v5, .int .i64 v6] 65)).alloc (.cells #[.int .i64 g1, .int .i64 g2, .int .i64 g3, .bool g4, .int .u64 g5, .int .i64 g6, .int .i64 k1, .int .i64 k2, .int .i64 k3, .bool k4, .int .u64 k5, .int .i64 k6] 67)).alloc (.cells #[.int .i64 p1, .int .i64 p2, .int .i64 p3] 69)).alloc (.cells #[.int .i64 a1, .int .i64 a2, .int .i64 a3, .int .i64 a4, .int .i64 a5, .int .i64 a6, .bool a7] 71)).alloc (.cells #[.int .i64 u1, .int .i64 u2, .int .i64 u3, .int .i64 u4, .int .u64 u5, .slice uA us.length uc] 73)).alloc (.cells #[.int .i64 r1, .int .i64 r2, .int .i64 r3, .slice rA rs.length rc] 76)) (w.heap.size + 5) 76 #[.int .i64 r1, .int .i64 r2, .int .i64 r3, .slice rA rs.length rc] := by have hN := Blk.new (((((w.alloc (.cells #[.int .i64 v1, .int .i64 v2, .int .i64 v3, .bool v4, .int .u64 v5, .int .i64 v6] 65)).alloc (.cells #[.int .i64 g1, .int .i64 g2, .int .i64 g3, .bool g4, .int .u64 g5, .int .i64 g6, .int .i64 k1, .int .i64 k2, .int .i64 k3, .bool k4, .int .u64 k5, .int .i64 k6] 67)).alloc (.cells #[.int .i64 p1, .int .i64 p2, .int .i64 p3] 69)).alloc (.cells #[.int .i64 a1, .int .i64 a2, .int .i64 a3, .int .i64 a4, .int .i64 a5, .int .i64 a6, .bool a7] 71)).alloc (.cells #[.int .i64 u1, .int .i64 u2, .int .i64 u3, .int .i64 u4, .int .u64 u5, .slice uA us.length uc] 73)) 76 #[.int .i64 r1, .int .i64 r2, .int .i64 r3, .slice rA rs.length rc]; simpa using hN
  have hB_v := (((((hb_v.alloc (.cells #[.int .i64 g1, .int .i64 g2, .int .i64 g3, .bool g4, .int .u64 g5, .int .i64 g6, .int .i64 k1, .int .i64 k2, .int .i64 k3, .bool k4, .int .u64 k5, .int .i64 k6] 67)).alloc (.cells #[.int .i64 p1, .int .i64 p2, .int .i64 p3] 69)).alloc (.cells #[.int .i64 a1, .int .i64 a2, .int .i64 a3, .int .i64 a4, .int .i64 a5, .int .i64 a6, .bool a7] 71)).alloc (.cells #[.int .i64 u1, .int .i64 u2, .int .i64 u3, .int .i64 u4, .int .u64 u5, .slice uA us.length uc] 73)).alloc (.cells #[.int .i64 r1, .int .i64 r2, .int .i64 r3, .slice rA rs.length rc] 76))
  have hB_g := ((((hb_g.alloc (.cells #[.int .i64 p1, .int .i64 p2, .int .i64 p3] 69)).alloc (.cells #[.int .i64 a1, .int .i64 a2, .int .i64 a3, .int .i64 a4, .int .i64 a5, .int .i64 a6, .bool a7] 71)).alloc (.cells #[.int .i64 u1, .int .i64 u2, .int .i64 u3, .int .i64 u4, .int .u64 u5, .slice uA us.length uc] 73)).alloc (.cells #[.int .i64 r1, .int .i64 r2, .int .i64 r3, .slice rA rs.length rc] 76))
  have hB_p := (((hb_p.alloc (.cells #[.int .i64 a1, .int .i64 a2, .int .i64 a3, .int .i64 a4, .int .i64 a5, .int .i64 a6, .bool a7] 71)).alloc (.cells #[.int .i64 u1, .int .i64 u2, .int .i64 u3, .int .i64 u4, .int .u64 u5, .slice uA us.length uc] 73)).alloc (.cells #[.int .i64 r1, .int .i64 r2, .int .i64 r3, .slice rA rs.length rc] 76))
  have hB_a := ((hb_a.alloc (.cells #[.int .i64 u1, .int .i64 u2, .int .i64 u3, .int .i64 u4, .int .u64 u5, .slice uA us.length uc] 73)).alloc (.cells #[.int .i64 r1, .int .i64 r2, .int .i64 r3, .slice rA rs.length rc] 76))
  have hB_w := (hb_w.alloc (.cells #[.int .i64 r1, .int .i64 r2, .int .i64 r3, .slice rA rs.length rc] 76))
  have hB_r := hb_r
  have hbel0 := (((((((Below.refl w.heap.size w).alloc (by simp) (.cells #[.int .i64 v1, .int .i64 v2, .int .i64 v3, .bool v4, .int .u64 v5, .int .i64 v6] 65)).alloc (by simp <;> omega) (.cells #[.int .i64 g1, .int .i64 g2, .int .i64 g3, .bool g4, .int .u64 g5, .int .i64 g6, .int .i64 k1, .int .i64 k2, .int .i64 k3, .bool k4, .int .u64 k5, .int .i64 k6] 67)).alloc (by simp <;> omega) (.cells #[.int .i64 p1, .int .i64 p2, .int .i64 p3] 69)).alloc (by simp <;> omega) (.cells #[.int .i64 a1, .int .i64 a2, .int .i64 a3, .int .i64 a4, .int .i64 a5, .int .i64 a6, .bool a7] 71)).alloc (by simp <;> omega) (.cells #[.int .i64 u1, .int .i64 u2, .int .i64 u3, .int .i64 u4, .int .u64 u5, .slice uA us.length uc] 73)).alloc (by simp <;> omega) (.cells #[.int .i64 r1, .int .i64 r2, .int .i64 r3, .slice rA rs.length rc] 76))
  clear hb_v hb_g hb_p hb_a hb_w hb_r
  by_cases hbb : l.length + us.length + rs.length ≤ 65536
  · have hbi : ¬ (65536 : Int) < (l.length : Int) + (us.length : Int) + (rs.length : Int) := by omega
    go_enter Try.func9, Try.ntmps9
    go_wp2_with fail
    refine (f_num _).mono ?_
    rintro e w1 ⟨rfl, hb1⟩
    replace hB_v := hB_v.below hb1 hB_v.lt
    replace hB_g := hB_g.below hb1 hB_g.lt
    replace hB_p := hB_p.below hb1 hB_p.lt
    replace hB_a := hB_a.below hb1 hB_a.lt
    replace hB_w := hB_w.below hb1 hB_w.lt
    replace hB_r := hB_r.below hb1 hB_r.lt
    have hsz1 := hb1.size
    simp at hsz1
    have hbel1 := hbel0.trans (hb1.mono (by simp <;> omega))
    replace hlr := Rd.below hlr hbel1
    replace hur := Rd.below hur hbel1
    replace hrr := Rd.below hrr hbel1
    clear hbel0
    go_wp2_with fail
    refine (q_num _).mono ?_
    rintro e w2 ⟨rfl, hb2⟩
    replace hB_v := hB_v.below hb2 hB_v.lt
    replace hB_g := hB_g.below hb2 hB_g.lt
    replace hB_p := hB_p.below hb2 hB_p.lt
    replace hB_a := hB_a.below hb2 hB_a.lt
    replace hB_w := hB_w.below hb2 hB_w.lt
    replace hB_r := hB_r.below hb2 hB_r.lt
    have hsz2 := hb2.size
    replace hlr := Rd.below hlr (hb2.mono (by omega))
    replace hur := Rd.below hur (hb2.mono (by omega))
    replace hrr := Rd.below hrr (hb2.mono (by omega))
    have hbel2 := hbel1.trans (hb2.mono (by omega))
    have d2_0 := (hB_v.cell 0).trans (show _ = some (.int .i64 v1) from rfl)
    have d2_1 := (hB_v.cell 1).trans (show _ = some (.int .i64 v2) from rfl)
    have d2_2 := (hB_v.cell 2).trans (show _ = some (.int .i64 v3) from rfl)
    have d2_3 := (hB_v.cell 3).trans (show _ = some (.bool v4) from rfl)
    have d2_4 := (hB_v.cell 4).trans (show _ = some (.int .u64 v5) from rfl)
    have d2_5 := (hB_v.cell 5).trans (show _ = some (.int .i64 v6) from rfl)
    go_wp2_with fail
    refine (f_vote _).mono ?_
    rintro e w3 ⟨rfl, hb3⟩
    replace hB_v := hB_v.below hb3 hB_v.lt
    replace hB_g := hB_g.below hb3 hB_g.lt
    replace hB_p := hB_p.below hb3 hB_p.lt
    replace hB_a := hB_a.below hb3 hB_a.lt
    replace hB_w := hB_w.below hb3 hB_w.lt
    replace hB_r := hB_r.below hb3 hB_r.lt
    have hsz3 := hb3.size
    replace hlr := Rd.below hlr (hb3.mono (by omega))
    replace hur := Rd.below hur (hb3.mono (by omega))
    replace hrr := Rd.below hrr (hb3.mono (by omega))
    have hbel3 := hbel2.trans (hb3.mono (by omega))
    have d3_0 := (hB_v.cell 0).trans (show _ = some (.int .i64 v1) from rfl)
    have d3_1 := (hB_v.cell 1).trans (show _ = some (.int .i64 v2) from rfl)
    have d3_2 := (hB_v.cell 2).trans (show _ = some (.int .i64 v3) from rfl)
    have d3_3 := (hB_v.cell 3).trans (show _ = some (.bool v4) from rfl)
    have d3_4 := (hB_v.cell 4).trans (show _ = some (.int .u64 v5) from rfl)
    have d3_5 := (hB_v.cell 5).trans (show _ = some (.int .i64 v6) from rfl)
    go_wp2_with fail
    refine (q_vote _).mono ?_
    rintro e w4 ⟨rfl, hb4⟩
    replace hB_g := hB_g.below hb4 hB_g.lt
    replace hB_p := hB_p.below hb4 hB_p.lt
    replace hB_a := hB_a.below hb4 hB_a.lt
    replace hB_w := hB_w.below hb4 hB_w.lt
    replace hB_r := hB_r.below hb4 hB_r.lt
    have hsz4 := hb4.size
    replace hlr := Rd.below hlr (hb4.mono (by omega))
    replace hur := Rd.below hur (hb4.mono (by omega))
    replace hrr := Rd.below hrr (hb4.mono (by omega))
    have hbel4 := hbel3.trans (hb4.mono (by omega))
    have d4_0 := (hB_g.cell 0).trans (show _ = some (.int .i64 g1) from rfl)
    have d4_1 := (hB_g.cell 1).trans (show _ = some (.int .i64 g2) from rfl)
    have d4_2 := (hB_g.cell 2).trans (show _ = some (.int .i64 g3) from rfl)
    have d4_3 := (hB_g.cell 3).trans (show _ = some (.bool g4) from rfl)
    have d4_4 := (hB_g.cell 4).trans (show _ = some (.int .u64 g5) from rfl)
    have d4_5 := (hB_g.cell 5).trans (show _ = some (.int .i64 g6) from rfl)
    have d4_6 := (hB_g.cell 6).trans (show _ = some (.int .i64 k1) from rfl)
    have d4_7 := (hB_g.cell 7).trans (show _ = some (.int .i64 k2) from rfl)
    have d4_8 := (hB_g.cell 8).trans (show _ = some (.int .i64 k3) from rfl)
    have d4_9 := (hB_g.cell 9).trans (show _ = some (.bool k4) from rfl)
    have d4_10 := (hB_g.cell 10).trans (show _ = some (.int .u64 k5) from rfl)
    have d4_11 := (hB_g.cell 11).trans (show _ = some (.int .i64 k6) from rfl)
    go_wp2_with fail
    refine (f_guilt _).mono ?_
    rintro e w5 ⟨rfl, hb5⟩
    replace hB_g := hB_g.below hb5 hB_g.lt
    replace hB_p := hB_p.below hb5 hB_p.lt
    replace hB_a := hB_a.below hb5 hB_a.lt
    replace hB_w := hB_w.below hb5 hB_w.lt
    replace hB_r := hB_r.below hb5 hB_r.lt
    have hsz5 := hb5.size
    replace hlr := Rd.below hlr (hb5.mono (by omega))
    replace hur := Rd.below hur (hb5.mono (by omega))
    replace hrr := Rd.below hrr (hb5.mono (by omega))
    have hbel5 := hbel4.trans (hb5.mono (by omega))
    have d5_0 := (hB_g.cell 0).trans (show _ = some (.int .i64 g1) from rfl)
    have d5_1 := (hB_g.cell 1).trans (show _ = some (.int .i64 g2) from rfl)
    have d5_2 := (hB_g.cell 2).trans (show _ = some (.int .i64 g3) from rfl)
    have d5_3 := (hB_g.cell 3).trans (show _ = some (.bool g4) from rfl)
    have d5_4 := (hB_g.cell 4).trans (show _ = some (.int .u64 g5) from rfl)
    have d5_5 := (hB_g.cell 5).trans (show _ = some (.int .i64 g6) from rfl)
    have d5_6 := (hB_g.cell 6).trans (show _ = some (.int .i64 k1) from rfl)
    have d5_7 := (hB_g.cell 7).trans (show _ = some (.int .i64 k2) from rfl)
    have d5_8 := (hB_g.cell 8).trans (show _ = some (.int .i64 k3) from rfl)
    have d5_9 := (hB_g.cell 9).trans (show _ = some (.bool k4) from rfl)
    have d5_10 := (hB_g.cell 10).trans (show _ = some (.int .u64 k5) from rfl)
    have d5_11 := (hB_g.cell 11).trans (show _ = some (.int .i64 k6) from rfl)
    go_wp2_with fail
    refine (q_guilt _).mono ?_
    rintro e w6 ⟨rfl, hb6⟩
    replace hB_p := hB_p.below hb6 hB_p.lt
    replace hB_a := hB_a.below hb6 hB_a.lt
    replace hB_w := hB_w.below hb6 hB_w.lt
    replace hB_r := hB_r.below hb6 hB_r.lt
    have hsz6 := hb6.size
    replace hlr := Rd.below hlr (hb6.mono (by omega))
    replace hur := Rd.below hur (hb6.mono (by omega))
    replace hrr := Rd.below hrr (hb6.mono (by omega))
    have hbel6 := hbel5.trans (hb6.mono (by omega))
    go_wp2_with fail
    refine (f_bench _ hlr (by omega) (by omega)).mono ?_
    rintro e w7 ⟨rfl, hb7⟩
    replace hB_p := hB_p.below hb7 hB_p.lt
    replace hB_a := hB_a.below hb7 hB_a.lt
    replace hB_w := hB_w.below hb7 hB_w.lt
    replace hB_r := hB_r.below hb7 hB_r.lt
    have hsz7 := hb7.size
    replace hlr := Rd.below hlr (hb7.mono (by omega))
    replace hur := Rd.below hur (hb7.mono (by omega))
    replace hrr := Rd.below hrr (hb7.mono (by omega))
    have hbel7 := hbel6.trans (hb7.mono (by omega))
    go_wp2_with fail
    refine (q_bench _ hlr (by omega) (by omega)).mono ?_
    rintro e w8 ⟨rfl, hb8⟩
    replace hB_p := hB_p.below hb8 hB_p.lt
    replace hB_a := hB_a.below hb8 hB_a.lt
    replace hB_w := hB_w.below hb8 hB_w.lt
    replace hB_r := hB_r.below hb8 hB_r.lt
    have hsz8 := hb8.size
    replace hur := Rd.below hur (hb8.mono (by omega))
    replace hrr := Rd.below hrr (hb8.mono (by omega))
    have hbel8 := hbel7.trans (hb8.mono (by omega))
    have d8_0 := (hB_p.cell 0).trans (show _ = some (.int .i64 p1) from rfl)
    have d8_1 := (hB_p.cell 1).trans (show _ = some (.int .i64 p2) from rfl)
    have d8_2 := (hB_p.cell 2).trans (show _ = some (.int .i64 p3) from rfl)
    go_wp2_with fail
    refine (f_parcel _).mono ?_
    rintro e w9 ⟨rfl, hb9⟩
    replace hB_p := hB_p.below hb9 hB_p.lt
    replace hB_a := hB_a.below hb9 hB_a.lt
    replace hB_w := hB_w.below hb9 hB_w.lt
    replace hB_r := hB_r.below hb9 hB_r.lt
    have hsz9 := hb9.size
    replace hur := Rd.below hur (hb9.mono (by omega))
    replace hrr := Rd.below hrr (hb9.mono (by omega))
    have hbel9 := hbel8.trans (hb9.mono (by omega))
    have d9_0 := (hB_p.cell 0).trans (show _ = some (.int .i64 p1) from rfl)
    have d9_1 := (hB_p.cell 1).trans (show _ = some (.int .i64 p2) from rfl)
    have d9_2 := (hB_p.cell 2).trans (show _ = some (.int .i64 p3) from rfl)
    go_wp2_with fail
    refine (q_parcel _).mono ?_
    rintro e w10 ⟨rfl, hb10⟩
    replace hB_a := hB_a.below hb10 hB_a.lt
    replace hB_w := hB_w.below hb10 hB_w.lt
    replace hB_r := hB_r.below hb10 hB_r.lt
    have hsz10 := hb10.size
    replace hur := Rd.below hur (hb10.mono (by omega))
    replace hrr := Rd.below hrr (hb10.mono (by omega))
    have hbel10 := hbel9.trans (hb10.mono (by omega))
    have d10_0 := (hB_a.cell 0).trans (show _ = some (.int .i64 a1) from rfl)
    have d10_1 := (hB_a.cell 1).trans (show _ = some (.int .i64 a2) from rfl)
    have d10_2 := (hB_a.cell 2).trans (show _ = some (.int .i64 a3) from rfl)
    have d10_3 := (hB_a.cell 3).trans (show _ = some (.int .i64 a4) from rfl)
    have d10_4 := (hB_a.cell 4).trans (show _ = some (.int .i64 a5) from rfl)
    have d10_5 := (hB_a.cell 5).trans (show _ = some (.int .i64 a6) from rfl)
    have d10_6 := (hB_a.cell 6).trans (show _ = some (.bool a7) from rfl)
    go_wp2_with fail
    refine (f_account _).mono ?_
    rintro e w11 ⟨rfl, hb11⟩
    replace hB_a := hB_a.below hb11 hB_a.lt
    replace hB_w := hB_w.below hb11 hB_w.lt
    replace hB_r := hB_r.below hb11 hB_r.lt
    have hsz11 := hb11.size
    replace hur := Rd.below hur (hb11.mono (by omega))
    replace hrr := Rd.below hrr (hb11.mono (by omega))
    have hbel11 := hbel10.trans (hb11.mono (by omega))
    have d11_0 := (hB_a.cell 0).trans (show _ = some (.int .i64 a1) from rfl)
    have d11_1 := (hB_a.cell 1).trans (show _ = some (.int .i64 a2) from rfl)
    have d11_2 := (hB_a.cell 2).trans (show _ = some (.int .i64 a3) from rfl)
    have d11_3 := (hB_a.cell 3).trans (show _ = some (.int .i64 a4) from rfl)
    have d11_4 := (hB_a.cell 4).trans (show _ = some (.int .i64 a5) from rfl)
    have d11_5 := (hB_a.cell 5).trans (show _ = some (.int .i64 a6) from rfl)
    have d11_6 := (hB_a.cell 6).trans (show _ = some (.bool a7) from rfl)
    go_wp2_with fail
    refine (q_account _).mono ?_
    rintro e w12 ⟨rfl, hb12⟩
    replace hB_w := hB_w.below hb12 hB_w.lt
    replace hB_r := hB_r.below hb12 hB_r.lt
    have hsz12 := hb12.size
    replace hur := Rd.below hur (hb12.mono (by omega))
    replace hrr := Rd.below hrr (hb12.mono (by omega))
    have hbel12 := hbel11.trans (hb12.mono (by omega))
    have d12_0 := (hB_w.cell 0).trans (show _ = some (.int .i64 u1) from rfl)
    have d12_1 := (hB_w.cell 1).trans (show _ = some (.int .i64 u2) from rfl)
    have d12_2 := (hB_w.cell 2).trans (show _ = some (.int .i64 u3) from rfl)
    have d12_3 := (hB_w.cell 3).trans (show _ = some (.int .i64 u4) from rfl)
    have d12_4 := (hB_w.cell 4).trans (show _ = some (.int .u64 u5) from rfl)
    have d12_5 := (hB_w.cell 5).trans (show _ = some (.slice uA us.length uc) from rfl)
    go_wp2_with fail
    refine (f_view _ hur (by omega) (by omega)).mono ?_
    rintro e w13 ⟨rfl, hb13⟩
    replace hB_w := hB_w.below hb13 hB_w.lt
    replace hB_r := hB_r.below hb13 hB_r.lt
    have hsz13 := hb13.size
    replace hur := Rd.below hur (hb13.mono (by omega))
    replace hrr := Rd.below hrr (hb13.mono (by omega))
    have hbel13 := hbel12.trans (hb13.mono (by omega))
    have d13_0 := (hB_w.cell 0).trans (show _ = some (.int .i64 u1) from rfl)
    have d13_1 := (hB_w.cell 1).trans (show _ = some (.int .i64 u2) from rfl)
    have d13_2 := (hB_w.cell 2).trans (show _ = some (.int .i64 u3) from rfl)
    have d13_3 := (hB_w.cell 3).trans (show _ = some (.int .i64 u4) from rfl)
    have d13_4 := (hB_w.cell 4).trans (show _ = some (.int .u64 u5) from rfl)
    have d13_5 := (hB_w.cell 5).trans (show _ = some (.slice uA us.length uc) from rfl)
    go_wp2_with fail
    refine (q_view _ hur (by omega) (by omega)).mono ?_
    rintro e w14 ⟨rfl, hb14⟩
    replace hB_r := hB_r.below hb14 hB_r.lt
    have hsz14 := hb14.size
    replace hrr := Rd.below hrr (hb14.mono (by omega))
    have hbel14 := hbel13.trans (hb14.mono (by omega))
    have d14_0 := (hB_r.cell 0).trans (show _ = some (.int .i64 r1) from rfl)
    have d14_1 := (hB_r.cell 1).trans (show _ = some (.int .i64 r2) from rfl)
    have d14_2 := (hB_r.cell 2).trans (show _ = some (.int .i64 r3) from rfl)
    have d14_3 := (hB_r.cell 3).trans (show _ = some (.slice rA rs.length rc) from rfl)
    go_wp2_with fail
    refine (f_result _ hrr (by omega) (by omega)).mono ?_
    rintro e w15 ⟨rfl, hb15⟩
    replace hB_r := hB_r.below hb15 hB_r.lt
    have hsz15 := hb15.size
    replace hrr := Rd.below hrr (hb15.mono (by omega))
    have hbel15 := hbel14.trans (hb15.mono (by omega))
    have d15_0 := (hB_r.cell 0).trans (show _ = some (.int .i64 r1) from rfl)
    have d15_1 := (hB_r.cell 1).trans (show _ = some (.int .i64 r2) from rfl)
    have d15_2 := (hB_r.cell 2).trans (show _ = some (.int .i64 r3) from rfl)
    have d15_3 := (hB_r.cell 3).trans (show _ = some (.slice rA rs.length rc) from rfl)
    go_wp2_with fail
    refine (q_result _ hrr (by omega) (by omega)).mono ?_
    rintro e w16 ⟨rfl, hb16⟩
    have hsz16 := hb16.size
    have hbel16 := hbel15.trans (hb16.mono (by omega))
    go_wp2_with fail
    go_ret
    exact ⟨rfl, hbel16⟩
  · have hbi : (65536 : Int) < (l.length : Int) + (us.length : Int) + (rs.length : Int) := by omega
    go_enter Try.func9, Try.ntmps9
    go_wp2_with fail
    go_ret
    exact ⟨rfl, hbel0⟩

namespace wireSmalls
open Go.ChangeShapes Go.WideShapes Go.ChangeAt Go.RowKit
set_option linter.unusedVariables false
set_option maxRecDepth 100000 in
theorem walk {H : Type} (enc : TypeId × Value → H) : LawWalkB enc Try.prog Try.f9 9 := by
  intro W args ds p hA hval hlt hfz hbulk
  rw [Try.params9] at hA hval
  obtain ⟨v0, vs0, d0, ds0, p0, q0, hargs, rfl, rfl, h0, r0⟩ := trodAll_cons hA
  obtain ⟨v1, vs1, d1, ds1, p1, q1, rfl, rfl, rfl, h1, r1⟩ := trodAll_cons r0
  obtain ⟨v2, vs2, d2, ds2, p2, q2, rfl, rfl, rfl, h2, r2⟩ := trodAll_cons r1
  obtain ⟨v3, vs3, d3, ds3, p3, q3, rfl, rfl, rfl, h3, r3⟩ := trodAll_cons r2
  obtain ⟨v4, vs4, d4, ds4, p4, q4, rfl, rfl, rfl, h4, r4⟩ := trodAll_cons r3
  obtain ⟨v5, vs5, d5, ds5, p5, q5, rfl, rfl, rfl, h5, r5⟩ := trodAll_cons r4
  obtain ⟨v6, vs6, d6, ds6, p6, q6, rfl, rfl, rfl, h6, r6⟩ := trodAll_cons r5
  obtain ⟨v7, vs7, d7, ds7, p7, q7, rfl, rfl, rfl, h7, r7⟩ := trodAll_cons r6
  obtain ⟨rfl, rfl, rfl⟩ := trodAll_nil r7
  obtain rfl : args = #[v0, v1, v2, v3, v4, v5, v6, v7] := by cases args; simp_all
  simp only [Rows.uptoBulkAll] at hbulk
  obtain ⟨a0, rfl, _, _, wa0⟩ := open_int Try.underlying3 (hval 0 _ v0 rfl rfl) h0
  obtain ⟨x1, rfl, hx1, hm1⟩ := openB_vote (hval 1 _ v1 rfl rfl) h1
  obtain ⟨x2, rfl, hx2, hm2⟩ := openB_guilt (hval 2 _ v2 rfl rfl) h2
  obtain ⟨A3, c3, l3, rfl, ⟨lc3, cm3, hl3, hw3⟩, hm3⟩ := openB_seats (hval 3 _ v3 rfl rfl) h3
  obtain ⟨x4, rfl, hx4, hm4⟩ := openB_parcel (hval 4 _ v4 rfl rfl) h4
  obtain ⟨x5, rfl, hx5, hm5⟩ := openB_account (hval 5 _ v5 rfl rfl) h5
  obtain ⟨x6, rfl, hx6, hm6⟩ := openB_view (hval 6 _ v6 rfl rfl) h6
  obtain ⟨x7, rfl, hx7, hm7⟩ := openB_result (hval 7 _ v7 rfl rfl) h7
  exact wireSmalls_walk a0 x1 hx1.2 x2 hx2.2 l3 A3 c3 x4 x5 x6 hx6.2.1 x7 W hl3 hx6.2.2.2.2 hx7.2.2.2 (by have e3 := sumL_len seatM (fun _ => by simp [seatM]) l3; have e6 := sumL_len seatM (fun _ => by simp [seatM]) x6.seats; have e7 := sumL_len noteM (fun _ => by simp [noteM]) x7.notes; simp only [viewM, resultM] at hm6 hm7; omega)
set_option maxRecDepth 100000 in
theorem lifted (os : Os) (started : os.Started) (H : Type) (enc : TypeId × Value → H) (F : Stop.Interp) :
    ReturnsInHanded {} Try.checked os 9 .any ((Rows.OpenSpec.upto Rows.wireSmallsSpec).pre6 enc Try.prog Try.f9 Rows.wireSmallsUptoRow.domain false) (((Rows.OpenSpec.upto Rows.wireSmallsSpec).at F).post enc Try.prog Try.f9 false true false false) := by
  refine returnsInHanded_of_cond (C := Try.checked) (s := Rows.OpenSpec.upto Rows.wireSmallsSpec) (k := Rows.uptoSmall) rfl (by kernel_rfl) started (by kernel_rfl) Try.func9
    (OpenSpec.witness (enc := enc) (C := Try.checked) (s := Rows.OpenSpec.upto Rows.wireSmallsSpec) (k := Rows.uptoSmall) rfl false ⟨#[], #[.int .i64 0, .agg #[.int .i64 0, .int .i64 0, .int .i64 0, .bool false, .int .u64 0, .int .i64 0], .agg #[.int .i64 0, .int .i64 0, .int .i64 0, .bool false, .int .u64 0, .int .i64 0, .int .i64 0, .int .i64 0, .int .i64 0, .bool false, .int .u64 0, .int .i64 0], .slice none 0 0, .agg #[.int .i64 0, .int .i64 0, .int .i64 0], .agg #[.int .i64 0, .int .i64 0, .int .i64 0, .int .i64 0, .int .i64 0, .int .i64 0, .bool false], .agg #[.int .i64 0, .int .i64 0, .int .i64 0, .int .i64 0, .int .u64 0, .slice none 0 0], .agg #[.int .i64 0, .int .i64 0, .int .i64 0, .slice none 0 0]], []⟩ 8 (by kernel_rfl) (by kernel_rfl) (by kernel_rfl)
      (x := ([.lit (.int .i64 0), .agg [.lit (.int .i64 0), .lit (.int .i64 0), .lit (.int .i64 0), .lit (.bool false), .lit (.int .u64 0), .lit (.int .i64 0)], .agg [.agg [.lit (.int .i64 0), .lit (.int .i64 0), .lit (.int .i64 0), .lit (.bool false), .lit (.int .u64 0), .lit (.int .i64 0)], .agg [.lit (.int .i64 0), .lit (.int .i64 0), .lit (.int .i64 0), .lit (.bool false), .lit (.int .u64 0), .lit (.int .i64 0)]], .nil, .agg [.lit (.int .i64 0), .lit (.int .i64 0), .lit (.int .i64 0)], .agg [.lit (.int .i64 0), .lit (.int .i64 0), .lit (.int .i64 0), .lit (.int .i64 0), .lit (.int .i64 0), .lit (.int .i64 0), .lit (.bool false)], .agg [.lit (.int .i64 0), .lit (.int .i64 0), .lit (.int .i64 0), .lit (.int .i64 0), .lit (.int .u64 0), .nil], .agg [.lit (.int .i64 0), .lit (.int .i64 0), .lit (.int .i64 0), .nil]], [], [])) (by kernel_rfl) rfl (by kernel_rfl)) ?_
  intro W base args ds gs before hval hW _ hk _
  exact law_contract (C := Try.checked) (s := Rows.wireSmallsSpec) (by kernel_rfl) (by kernel_rfl) rfl rfl Try.underlying4 (fun ds h => match ds, h with | [_, _, _, _, _, _, _, _], _ => rfl) (walk enc) W args ds gs before hval hW hk
set_option maxRecDepth 100000 in
theorem over : Rows.wireSmallsUptoRow.holds Try.pinned (Rows.OpenSpec.upto Rows.wireSmallsSpec) :=
  OpenClaim.holds_of_cond 9 Try.f9 rfl rfl rfl rfl rfl rfl rfl ⟨rfl, rfl, rfl, rfl, rfl⟩ rfl rfl rfl rfl rfl (by kernel_rfl) Try.func9 (by kernel_rfl)
    (of_decide_eq_true (by kernel_rfl)) (by unfold Func.isWrapper; first | (rw [if_pos (by decide +kernel)]; kernel_rfl) | (rw [if_neg (by decide +kernel)]; exact ⟨rfl, rfl⟩))
    (fun os started H enc _ F => lifted os started H enc F)
end wireSmalls
/-- the statement -/
theorem wireSmalls_holds : Rows.WireSmallsUptoSaid := wireSmalls.over
#print axioms wireSmalls_holds
end Go.Proofs.Ytdgifhgiablgdaa
