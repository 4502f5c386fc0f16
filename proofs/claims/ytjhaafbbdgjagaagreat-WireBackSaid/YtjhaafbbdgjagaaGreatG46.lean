/- Of the texts Kd6, Kd7, Kd8, Bk0, Bk1. -/
import Derived.Test.YtjhaafbbdgjagaaGreatG45
set_option linter.unusedSimpArgs false
set_option linter.unusedVariables false
namespace Go.Proofs.YtjhaafbbdgjagaaGreat
open Go.RowKit Vc
set_option maxRecDepth 100000
def cfg_wgvote : Cfg := { con := [(71, 0)] }
def vcd_wgvote : { v : VC // vcOf Tryz.prog cfg_wgvote 26 = v } := by refine ⟨?v, ?h⟩; rotate_left; conv => lhs; reduce
theorem vce_wgvote : vcOf Tryz.prog cfg_wgvote 26 = vcd_wgvote.1 := vcd_wgvote.2
theorem wgetvote_ok : Keeps Tryz.prog 26 (GetC voteK (fun y => (voteK.out y).re) voteZ0) := by
 refine keeps_v Tryz.func26 cfg_wgvote vce_wgvote [.s] (GetC voteK (fun y => (voteK.out y).re) voteZ0) [(71, ReadC voteK voteZ0 72 73)] ⟨rdvote_ok, trivial⟩ (by kernel_rfl) (fun _ _ _ h _ => h) ?_; intro s w hp; refine ⟨[], vc_use ?Q ?h ?g⟩
 case h => intro O C s I b; conv => lhs; reduce
 dsimp only [std]; simp only [ctrOf, invOf, List.lookup, Nat.reduceBEq, Option.getD_some, Int.reduceOfNat, Int.reduceNegSucc]; have hs : Small s := hp; exact ⟨fun _ _ => ⟨hs, rfl, rfl⟩, fun l0 l1 l2 l3 l4 l5 e h => ⟨h, fun w ⟨_, f⟩ => f⟩⟩
def cfg_wgcert : Cfg := { con := [(77, 0)] }
def vcd_wgcert : { v : VC // vcOf Tryz.prog cfg_wgcert 30 = v } := by refine ⟨?v, ?h⟩; rotate_left; conv => lhs; reduce
theorem vce_wgcert : vcOf Tryz.prog cfg_wgcert 30 = vcd_wgcert.1 := vcd_wgcert.2
theorem wgetcert_ok : Keeps Tryz.prog 30 (GetC certK (fun y => (certK.out y).re) certZ0) := by
 refine keeps_v Tryz.func30 cfg_wgcert vce_wgcert [.s] (GetC certK (fun y => (certK.out y).re) certZ0) [(77, ReadC certK certZ0 78 79)] ⟨rdcert_ok, trivial⟩ (by kernel_rfl) (fun _ _ _ h _ => h) ?_; intro s w hp; refine ⟨[], vc_use ?Q ?h ?g⟩
 case h => intro O C s I b; conv => lhs; reduce
 dsimp only [std]; simp only [ctrOf, invOf, List.lookup, Nat.reduceBEq, Option.getD_some, Int.reduceOfNat, Int.reduceNegSucc]; have hs : Small s := hp; exact ⟨fun _ _ => ⟨hs, rfl, rfl⟩, fun l0 l1 l2 l3 l4 l5 l6 l7 e h => ⟨h, fun w ⟨_, f⟩ => f⟩⟩
def cfg_wgbench : Cfg := { con := [(83, 0)] }
def vcd_wgbench : { v : VC // vcOf Tryz.prog cfg_wgbench 34 = v } := by refine ⟨?v, ?h⟩; rotate_left; conv => lhs; reduce
theorem vce_wgbench : vcOf Tryz.prog cfg_wgbench 34 = vcd_wgbench.1 := vcd_wgbench.2
theorem wgetbench_ok : Keeps Tryz.prog 34 (GetC benchK (fun y => (benchK.out y).re) benchZ0) := by
 refine keeps_v Tryz.func34 cfg_wgbench vce_wgbench [.s] (GetC benchK (fun y => (benchK.out y).re) benchZ0) [(83, ReadC benchK benchZ0 84 85)] ⟨rdbench_ok, trivial⟩ (by kernel_rfl) (fun _ _ _ h _ => h) ?_; intro s w hp; refine ⟨[], vc_use ?Q ?h ?g⟩
 case h => intro O C s I b; conv => lhs; reduce
 dsimp only [std]; simp only [ctrOf, invOf, List.lookup, Nat.reduceBEq, Option.getD_some, Int.reduceOfNat, Int.reduceNegSucc]; have hs : Small s := hp; exact ⟨fun _ _ => ⟨hs, rfl, rfl⟩, fun l0 l1 l2 e h => ⟨h, fun w ⟨_, f⟩ => f⟩⟩
def cfg_wgheader : Cfg := { con := [(89, 0)] }
def vcd_wgheader : { v : VC // vcOf Tryz.prog cfg_wgheader 38 = v } := by refine ⟨?v, ?h⟩; rotate_left; conv => lhs; reduce
theorem vce_wgheader : vcOf Tryz.prog cfg_wgheader 38 = vcd_wgheader.1 := vcd_wgheader.2
theorem wgetheader_ok : Keeps Tryz.prog 38 (GetC headerK (fun y => (headerK.out y).re) headerZ0) := by
 refine keeps_v Tryz.func38 cfg_wgheader vce_wgheader [.s] (GetC headerK (fun y => (headerK.out y).re) headerZ0) [(89, ReadC headerK headerZ0 90 91)] ⟨rdheader_ok, trivial⟩ (by kernel_rfl) (fun _ _ _ h _ => h) ?_; intro s w hp; refine ⟨[], vc_use ?Q ?h ?g⟩
 case h => intro O C s I b; conv => lhs; reduce
 dsimp only [std]; simp only [ctrOf, invOf, List.lookup, Nat.reduceBEq, Option.getD_some, Int.reduceOfNat, Int.reduceNegSucc]; have hs : Small s := hp; exact ⟨fun _ _ => ⟨hs, rfl, rfl⟩, fun l0 l1 l2 l3 l4 l5 l6 l7 l8 e h => ⟨h, fun w ⟨_, f⟩ => f⟩⟩
def cfg_wgproof : Cfg := { con := [(95, 0)] }
def vcd_wgproof : { v : VC // vcOf Tryz.prog cfg_wgproof 42 = v } := by refine ⟨?v, ?h⟩; rotate_left; conv => lhs; reduce
theorem vce_wgproof : vcOf Tryz.prog cfg_wgproof 42 = vcd_wgproof.1 := vcd_wgproof.2
theorem wgetproof_ok : Keeps Tryz.prog 42 (GetC proofK (fun y => (proofK.out y).re) proofZ0) := by
 refine keeps_v Tryz.func42 cfg_wgproof vce_wgproof [.s] (GetC proofK (fun y => (proofK.out y).re) proofZ0) [(95, ReadC proofK proofZ0 96 97)] ⟨rdproof_ok, trivial⟩ (by kernel_rfl) (fun _ _ _ h _ => h) ?_; intro s w hp; refine ⟨[], vc_use ?Q ?h ?g⟩
 case h => intro O C s I b; conv => lhs; reduce
 dsimp only [std]; simp only [ctrOf, invOf, List.lookup, Nat.reduceBEq, Option.getD_some, Int.reduceOfNat, Int.reduceNegSucc]; have hs : Small s := hp; exact ⟨fun _ _ => ⟨hs, rfl, rfl⟩, fun l0 l1 l2 l3 l4 l5 e h => ⟨h, fun w ⟨_, f⟩ => f⟩⟩
def cfg_wgtx : Cfg := { con := [(101, 0)] }
def vcd_wgtx : { v : VC // vcOf Tryz.prog cfg_wgtx 46 = v } := by refine ⟨?v, ?h⟩; rotate_left; conv => lhs; reduce
theorem vce_wgtx : vcOf Tryz.prog cfg_wgtx 46 = vcd_wgtx.1 := vcd_wgtx.2
theorem wgettx_ok : Keeps Tryz.prog 46 (GetC txK (fun y => (txK.out y).re) txZ0) := by
 refine keeps_v Tryz.func46 cfg_wgtx vce_wgtx [.s] (GetC txK (fun y => (txK.out y).re) txZ0) [(101, ReadC txK txZ0 102 103)] ⟨rdtx_ok, trivial⟩ (by kernel_rfl) (fun _ _ _ h _ => h) ?_; intro s w hp; refine ⟨[], vc_use ?Q ?h ?g⟩
 case h => intro O C s I b; conv => lhs; reduce
 dsimp only [std]; simp only [ctrOf, invOf, List.lookup, Nat.reduceBEq, Option.getD_some, Int.reduceOfNat, Int.reduceNegSucc]; have hs : Small s := hp; exact ⟨fun _ _ => ⟨hs, rfl, rfl⟩, fun l0 l1 l2 l3 l4 l5 l6 l7 l8 l9 l10 l11 l12 l13 l14 l15 l16 e h => ⟨h, fun w ⟨_, f⟩ => f⟩⟩
def cfg_wgguilt : Cfg := { con := [(107, 0)] }
def vcd_wgguilt : { v : VC // vcOf Tryz.prog cfg_wgguilt 50 = v } := by refine ⟨?v, ?h⟩; rotate_left; conv => lhs; reduce
theorem vce_wgguilt : vcOf Tryz.prog cfg_wgguilt 50 = vcd_wgguilt.1 := vcd_wgguilt.2
theorem wgetguilt_ok : Keeps Tryz.prog 50 (GetC guiltK (fun y => (guiltK.out y).re) guiltZ0) := by
 refine keeps_v Tryz.func50 cfg_wgguilt vce_wgguilt [.s] (GetC guiltK (fun y => (guiltK.out y).re) guiltZ0) [(107, ReadC guiltK guiltZ0 108 109)] ⟨rdguilt_ok, trivial⟩ (by kernel_rfl) (fun _ _ _ h _ => h) ?_; intro s w hp; refine ⟨[], vc_use ?Q ?h ?g⟩
 case h => intro O C s I b; conv => lhs; reduce
 dsimp only [std]; simp only [ctrOf, invOf, List.lookup, Nat.reduceBEq, Option.getD_some, Int.reduceOfNat, Int.reduceNegSucc]; have hs : Small s := hp; exact ⟨fun _ _ => ⟨hs, rfl, rfl⟩, fun l0 l1 l2 l3 l4 l5 l6 l7 l8 l9 l10 l11 e h => ⟨h, fun w ⟨_, f⟩ => f⟩⟩
def cfg_wgblock : Cfg := { con := [(191, 0)] }
def vcd_wgblock : { v : VC // vcOf Tryz.prog cfg_wgblock 112 = v } := by refine ⟨?v, ?h⟩; rotate_left; conv => lhs; reduce
theorem vce_wgblock : vcOf Tryz.prog cfg_wgblock 112 = vcd_wgblock.1 := vcd_wgblock.2
theorem wgetblock_ok : Keeps Tryz.prog 112 (GetC blockK (fun y => (blockK.out y).re) blockZ0) := by
 refine keeps_v Tryz.func112 cfg_wgblock vce_wgblock [.s] (GetC blockK (fun y => (blockK.out y).re) blockZ0) [(191, ReadC blockK blockZ0 192 193)] ⟨rdblock_ok, trivial⟩ (by kernel_rfl) (fun _ _ _ h _ => h) ?_; intro s w hp; refine ⟨[], vc_use ?Q ?h ?g⟩
 case h => intro O C s I b; conv => lhs; reduce
 dsimp only [std]; simp only [ctrOf, invOf, List.lookup, Nat.reduceBEq, Option.getD_some, Int.reduceOfNat, Int.reduceNegSucc]; have hs : Small s := hp; exact ⟨fun _ _ => ⟨hs, rfl, rfl⟩, fun l0 l1 l2 l3 l4 l5 l6 l7 l8 l9 l10 l11 l12 l13 l14 e h => ⟨h, fun w ⟨_, f⟩ => f⟩⟩
def cfg_wgmessage : Cfg := { con := [(197, 0)] }
def vcd_wgmessage : { v : VC // vcOf Tryz.prog cfg_wgmessage 116 = v } := by refine ⟨?v, ?h⟩; rotate_left; conv => lhs; reduce
theorem vce_wgmessage : vcOf Tryz.prog cfg_wgmessage 116 = vcd_wgmessage.1 := vcd_wgmessage.2
theorem wgetmessage_ok : Keeps Tryz.prog 116 (GetC messageK (fun y => (messageK.out y).re) messageZ0) := by
 refine keeps_v Tryz.func116 cfg_wgmessage vce_wgmessage [.s] (GetC messageK (fun y => (messageK.out y).re) messageZ0) [(197, ReadC messageK messageZ0 198 199)] ⟨rdmessage_ok, trivial⟩ (by kernel_rfl) (fun _ _ _ h _ => h) ?_; intro s w hp; refine ⟨[], vc_use ?Q ?h ?g⟩
 case h => intro O C s I b; conv => lhs; reduce
 dsimp only [std]; simp only [ctrOf, invOf, List.lookup, Nat.reduceBEq, Option.getD_some, Int.reduceOfNat, Int.reduceNegSucc]; have hs : Small s := hp; exact ⟨fun _ _ => ⟨hs, rfl, rfl⟩, fun l0 l1 l2 l3 l4 l5 l6 l7 l8 l9 l10 l11 l12 l13 l14 e h => ⟨h, fun w ⟨_, f⟩ => f⟩⟩
def cfg_wgrecord : Cfg := { con := [(203, 0)] }
def vcd_wgrecord : { v : VC // vcOf Tryz.prog cfg_wgrecord 120 = v } := by refine ⟨?v, ?h⟩; rotate_left; conv => lhs; reduce
theorem vce_wgrecord : vcOf Tryz.prog cfg_wgrecord 120 = vcd_wgrecord.1 := vcd_wgrecord.2
theorem wgetrecord_ok : Keeps Tryz.prog 120 (GetC recordK (fun y => (recordK.out y).re) recordZ0) := by
 refine keeps_v Tryz.func120 cfg_wgrecord vce_wgrecord [.s] (GetC recordK (fun y => (recordK.out y).re) recordZ0) [(203, ReadC recordK recordZ0 204 144)] ⟨rdrecord_ok, trivial⟩ (by kernel_rfl) (fun _ _ _ h _ => h) ?_; intro s w hp; refine ⟨[], vc_use ?Q ?h ?g⟩
 case h => intro O C s I b; conv => lhs; reduce
 dsimp only [std]; simp only [ctrOf, invOf, List.lookup, Nat.reduceBEq, Option.getD_some, Int.reduceOfNat, Int.reduceNegSucc]; have hs : Small s := hp; exact ⟨fun _ _ => ⟨hs, rfl, rfl⟩, fun l0 l1 l2 l3 l4 l5 l6 l7 l8 l9 l10 l11 l12 l13 l14 l15 l16 l17 l18 l19 l20 l21 l22 l23 l24 l25 l26 l27 l28 l29 l30 l31 l32 l33 l34 l35 l36 l37 l38 l39 l40 l41 l42 l43 l44 l45 l46 l47 l48 l49 e h => ⟨h, fun w ⟨_, f⟩ => f⟩⟩
def cfg_wgaccount : Cfg := { con := [(205, 0)] }
def vcd_wgaccount : { v : VC // vcOf Tryz.prog cfg_wgaccount 121 = v } := by refine ⟨?v, ?h⟩; rotate_left; conv => lhs; reduce
theorem vce_wgaccount : vcOf Tryz.prog cfg_wgaccount 121 = vcd_wgaccount.1 := vcd_wgaccount.2
theorem wgetaccount_ok : Keeps Tryz.prog 121 (GetC accountK (fun y => (accountK.out y).re) accountZ0) := by
 refine keeps_v Tryz.func121 cfg_wgaccount vce_wgaccount [.s] (GetC accountK (fun y => (accountK.out y).re) accountZ0) [(205, ReadC accountK accountZ0 206 207)] ⟨rdaccount_ok, trivial⟩ (by kernel_rfl) (fun _ _ _ h _ => h) ?_; intro s w hp; refine ⟨[], vc_use ?Q ?h ?g⟩
 case h => intro O C s I b; conv => lhs; reduce
 dsimp only [std]; simp only [ctrOf, invOf, List.lookup, Nat.reduceBEq, Option.getD_some, Int.reduceOfNat, Int.reduceNegSucc]; have hs : Small s := hp; exact ⟨fun _ _ => ⟨hs, rfl, rfl⟩, fun l0 l1 l2 l3 l4 l5 l6 e h => ⟨h, fun w ⟨_, f⟩ => f⟩⟩
def cfg_wgparcel : Cfg := { con := [(211, 0)] }
def vcd_wgparcel : { v : VC // vcOf Tryz.prog cfg_wgparcel 125 = v } := by refine ⟨?v, ?h⟩; rotate_left; conv => lhs; reduce
theorem vce_wgparcel : vcOf Tryz.prog cfg_wgparcel 125 = vcd_wgparcel.1 := vcd_wgparcel.2
theorem wgetparcel_ok : Keeps Tryz.prog 125 (GetC parcelK (fun y => (parcelK.out y).re) parcelZ0) := by
 refine keeps_v Tryz.func125 cfg_wgparcel vce_wgparcel [.s] (GetC parcelK (fun y => (parcelK.out y).re) parcelZ0) [(211, ReadC parcelK parcelZ0 212 213)] ⟨rdparcel_ok, trivial⟩ (by kernel_rfl) (fun _ _ _ h _ => h) ?_; intro s w hp; refine ⟨[], vc_use ?Q ?h ?g⟩
 case h => intro O C s I b; conv => lhs; reduce
 dsimp only [std]; simp only [ctrOf, invOf, List.lookup, Nat.reduceBEq, Option.getD_some, Int.reduceOfNat, Int.reduceNegSucc]; have hs : Small s := hp; exact ⟨fun _ _ => ⟨hs, rfl, rfl⟩, fun l0 l1 l2 e h => ⟨h, fun w ⟨_, f⟩ => f⟩⟩
def cfg_wgview : Cfg := { con := [(216, 0)] }
def vcd_wgview : { v : VC // vcOf Tryz.prog cfg_wgview 129 = v } := by refine ⟨?v, ?h⟩; rotate_left; conv => lhs; reduce
theorem vce_wgview : vcOf Tryz.prog cfg_wgview 129 = vcd_wgview.1 := vcd_wgview.2
theorem wgetview_ok : Keeps Tryz.prog 129 (GetC viewK (fun y => (viewK.out y).re) viewZ0) := by
 refine keeps_v Tryz.func129 cfg_wgview vce_wgview [.s] (GetC viewK (fun y => (viewK.out y).re) viewZ0) [(216, ReadC viewK viewZ0 217 218)] ⟨rdview_ok, trivial⟩ (by kernel_rfl) (fun _ _ _ h _ => h) ?_; intro s w hp; refine ⟨[], vc_use ?Q ?h ?g⟩
 case h => intro O C s I b; conv => lhs; reduce
 dsimp only [std]; simp only [ctrOf, invOf, List.lookup, Nat.reduceBEq, Option.getD_some, Int.reduceOfNat, Int.reduceNegSucc]; have hs : Small s := hp; exact ⟨fun _ _ => ⟨hs, rfl, rfl⟩, fun l0 l1 l2 l3 l4 l5 l6 l7 e h => ⟨h, fun w ⟨_, f⟩ => f⟩⟩
def cfg_wgresult : Cfg := { con := [(222, 0)] }
def vcd_wgresult : { v : VC // vcOf Tryz.prog cfg_wgresult 133 = v } := by refine ⟨?v, ?h⟩; rotate_left; conv => lhs; reduce
theorem vce_wgresult : vcOf Tryz.prog cfg_wgresult 133 = vcd_wgresult.1 := vcd_wgresult.2
theorem wgetresult_ok : Keeps Tryz.prog 133 (GetC resultK (fun y => (resultK.out y).re) resultZ0) := by
 refine keeps_v Tryz.func133 cfg_wgresult vce_wgresult [.s] (GetC resultK (fun y => (resultK.out y).re) resultZ0) [(222, ReadC resultK resultZ0 223 224)] ⟨rdresult_ok, trivial⟩ (by kernel_rfl) (fun _ _ _ h _ => h) ?_; intro s w hp; refine ⟨[], vc_use ?Q ?h ?g⟩
 case h => intro O C s I b; conv => lhs; reduce
 dsimp only [std]; simp only [ctrOf, invOf, List.lookup, Nat.reduceBEq, Option.getD_some, Int.reduceOfNat, Int.reduceNegSucc]; have hs : Small s := hp; exact ⟨fun _ _ => ⟨hs, rfl, rfl⟩, fun l0 l1 l2 l3 l4 l5 e h => ⟨h, fun w ⟨_, f⟩ => f⟩⟩
def cfg_wgnum : Cfg := { con := [(57, 0)] }
def vcd_wgnum : { v : VC // vcOf Tryz.prog cfg_wgnum 9 = v } := by refine ⟨?v, ?h⟩; rotate_left; conv => lhs; reduce
theorem vce_wgnum : vcOf Tryz.prog cfg_wgnum 9 = vcd_wgnum.1 := vcd_wgnum.2
theorem wgetnum_ok : Keeps Tryz.prog 9 (GetC numK (fun y => (numK.out y).re) numZ0) := by
 refine keeps_v Tryz.func9 cfg_wgnum vce_wgnum [.s] (GetC numK (fun y => (numK.out y).re) numZ0) [(57, RdNumS)] ⟨rdnum_ok, trivial⟩ (by kernel_rfl) (fun _ _ _ h _ => h) ?_; intro s w hp; refine ⟨[], vc_use ?Q ?h ?g⟩
 case h => intro O C s I b; conv => lhs; reduce
 dsimp only [std]; simp only [ctrOf, invOf, List.lookup, Nat.reduceBEq, Option.getD_some, Int.reduceOfNat, Int.reduceNegSucc]; have hs : Small s := hp; refine ⟨fun _ _ => ⟨hs, rfl, rfl⟩, fun x e h => ?_⟩; have h : [U.i x, .i e] = gotU (pWhole numK.R.p (fun y => (numK.out y).re) s) (fun x => [.i x]) [.i 0] := h; have h' : ∃ r, pWhole numK.R.p (fun y => (numK.out y).re) s = r := ⟨_, rfl⟩
 obtain ⟨r, hr⟩ := h'; rw [hr] at h; cases r with
 | ok v =>
  simp only [gotU, List.cons_append, List.nil_append, List.cons.injEq, U.i.injEq, and_true] at h; obtain ⟨rfl, rfl⟩ := h; refine ⟨(by show some _ = some (U.i (errOf (pWhole numK.R.p _ s))); rw [hr]; rfl), fun w _ => ⟨x, by rw [hr]; rfl, trivial, trivial, by rw [hr]; rfl⟩⟩
 | error c =>
  simp only [gotU, List.cons_append, List.nil_append, List.cons.injEq, U.i.injEq, and_true] at h; obtain ⟨rfl, rfl⟩ := h; refine ⟨(by show some _ = some (U.i (errOf (pWhole numK.R.p _ s))); rw [hr]; rfl), fun w _ => ⟨0, by rw [hr]; rfl, trivial, trivial, by rw [hr]; rfl⟩⟩
theorem pWhole_put {α : Type} {p : ByteArray → Got α} {put : α → Int} (h : Lim p fun y => put y = 0) (s : ByteArray) : pWhole p put s = pWhole p (fun _ => 0) s := by
 unfold pWhole; cases hp : p s with
 | error e => rfl
 | ok q =>
  obtain ⟨x, r⟩ := q; dsimp only; rw [h s x r hp]
theorem Lim.num : Lim pNum fun n => farN n = false := by
 intro s n r h; have h1 : n ≤ 1099511627775 := Lim.upto _ s n r h; have h0 : 0 ≤ n := by
  unfold pNum pUpTo at h; split at h
  ·cases h
  ·split at h
   ·cases h
   ·split at h
    ·cases h
    ·split at h
     ·cases h
     ·split at h
      ·cases h
      ·simp only [Except.ok.injEq, Prod.mk.injEq] at h; omega
 simp [farN]; omega
theorem num_fine : Lim pNum fun y => (numK.out y).re = 0 := by
 intro s n r h; have := Lim.num s n r h; show Out.re _ = 0; simp [Out.re, Out.num, Out.empty, this, numK]
theorem account_fine : Lim pAccount fun y => (accountK.out y).re = 0 := by
 unfold pAccount; exact Lim.num.bind fun _ h1 => Lim.num.bind fun _ h2 => Lim.num.bind fun _ h3 => Lim.num.bind fun _ h4 => Lim.num.bind fun _ h5 => Lim.num.bind fun _ h6 => (Lim.any _).bind fun _ _ => Lim.ok (by
  show Out.re _ = 0; simp [Out.re, Out.account, Out.nums, Out.num, Out.flag, Out.empty, accountK, h1, h2, h3, h4, h5, h6])
theorem header_fine : Lim pHeader fun y => (headerK.out y).re = 0 := by
 unfold pHeader; exact Lim.num.bind fun _ h1 => Lim.num.bind fun _ h2 => (Lim.any _).bind fun _ _ => (Lim.any _).bind fun _ _ => (Lim.any _).bind fun _ _ => (Lim.any _).bind fun _ _ => (Lim.any _).bind fun _ _ => (Lim.any _).bind fun _ _ => Lim.num.bind fun _ h3 => Lim.ok (by
  show Out.re _ = 0; simp [Out.re, Out.header, Out.digs, Out.dig, Out.nums, Out.num, Out.empty, headerK, h1, h2, h3])
def Fine (S : Out) : Prop := S.far = false ∧ S.odd = false
theorem Fine.re {S : Out} (h : Fine S) : S.re = 0 := by simp [Out.re, h.1, h.2]
theorem Fine.num {S : Out} {n : Int} (h : Fine S) (hn : farN n = false) : Fine (S.num n) := ⟨by simp [Out.num, h.1, hn], h.2⟩
theorem Fine.fold {α : Type} {f : Out → α → Out} : ∀ {l : List α} {S : Out}, (∀ S x, x ∈ l → Fine S → Fine (f S x)) → Fine S → Fine (l.foldl f S)
 | [], _, _, h => h
 | x :: l, S, hf, h => Fine.fold (l := l) (fun S y hy => hf S y (by simp [hy])) (hf S x (by simp) h)
theorem Fine.list {α : Type} {f : Out → α → Out} {l : List α} {S : Out} {n : Int} (hf : ∀ S x, x ∈ l → Fine S → Fine (f S x)) (hl : (l.length : Int) ≤ n) (hn : n ≤ 1000000) (h : Fine S) : Fine (S.list l n f) := by
 unfold Out.list; refine Fine.fold hf (Fine.num ⟨?_, h.2⟩ ?_)
 ·simp [Out.lim, h.1]; omega
 ·simp [farN]; omega
theorem result_fine : Lim pResult fun y => (resultK.out y).re = 0 := by
 unfold pResult; have hn : Lim pNote fun x => farN x.who = false ∧ farN x.n = false := by
  unfold pNote; exact Lim.num.bind fun _ h1 => Lim.num.bind fun _ h2 => Lim.ok ⟨h1, h2⟩
 exact Lim.num.bind fun _ h1 => Lim.num.bind fun _ h2 => Lim.num.bind fun _ h3 => (Lim.list 64 (by decide) hn).bind fun l hl => Lim.ok (Fine.re (by
  show Fine (Out.result _ _); unfold Out.result; exact Fine.list (fun S x hx h => (h.num (hl.2 x hx).1).num (hl.2 x hx).2) hl.1 (by decide) (((Fine.num ⟨rfl, rfl⟩ h1).num h2).num h3)))
def Bk {α : Type} (p : ByteArray → Got α) (Q : α → List UInt8 → Prop) : Prop := ∀ s x r, p s = .ok (x, r) → ∃ l, s.data.toList = l ++ r.data.toList ∧ Q x l
theorem Bk.ok {α : Type} {Q : α → List UInt8 → Prop} {v : α} (h : Q v []) : Bk (fun z => .ok (v, z)) Q := by
 intro s x r hs; simp only [Except.ok.injEq, Prod.mk.injEq] at hs; obtain ⟨rfl, rfl⟩ := hs; exact ⟨[], by simp, h⟩
theorem Bk.bind {α β : Type} {p : ByteArray → Got α} {f : α → ByteArray → Got β} {Q1 : α → List UInt8 → Prop} {Q : β → List UInt8 → Prop} (h : Bk p Q1) (k : ∀ x l, Q1 x l → Bk (f x) fun y m => Q y (l ++ m)) : Bk (pBind p f) Q := by
 intro s y r hs; unfold pBind at hs; split at hs
 ·cases hs
 ·next x t hx =>
  obtain ⟨l, e, q⟩ := h s x t hx; obtain ⟨m, e2, q2⟩ := k x l q t y r hs; exact ⟨l ++ m, by rw [e, e2, List.append_assoc], q2⟩
theorem Bk.mono {α : Type} {p : ByteArray → Got α} {Q R : α → List UInt8 → Prop} (h : Bk p Q) (k : ∀ x l, Q x l → R x l) : Bk p R := by
 intro s x r hs; obtain ⟨l, e, q⟩ := h s x r hs; exact ⟨l, e, k x l q⟩
theorem pTake_bk {n : Int} {s x r : ByteArray} (h : pTake n s = .ok (x, r)) : s.data.toList = x.data.toList ++ r.data.toList ∧ x.data.toList.length = n.toNat := by
 unfold pTake at h; split at h
 ·cases h
 ·next hn =>
  injection h with h; injection h with h1 h2; subst h1; subst h2
  have hs := size_list s; constructor
  ·simp only [ByteArray.data_extract, Array.toList_extract, List.extract_eq_take_drop, Nat.sub_zero, List.drop_zero]; rw [List.take_of_length_le (i := s.size - n.toNat) (by rw [List.length_drop, hs]; omega), List.take_append_drop]
  ·simp only [ByteArray.data_extract, Array.toList_extract, List.extract_eq_take_drop, Nat.sub_zero, List.drop_zero, List.length_take]; omega
theorem be_snoc (n : Int) : ∀ k : Nat, be n (k + 1) = be (n / 256) k ++ [UInt8.ofNat (n % 256).toNat]
 | 0 => by simp [be]
 | k + 1 => by
  show UInt8.ofNat (n / 256 ^ (k + 1) % 256).toNat :: be n (k + 1) = (UInt8.ofNat (n / 256 / 256 ^ k % 256).toNat :: be (n / 256) k) ++ _; rw [be_snoc n k, Int.ediv_ediv_of_nonneg (by decide), Int.pow_succ, Int.mul_comm (256 ^ k) 256]; rfl
theorem numOf_rev {P : List UInt8 → Prop} (h0 : P []) (h1 : ∀ l c, P l → P (l ++ [c])) (l : List UInt8) : P l := by
 have : ∀ n : Nat, ∀ l : List UInt8, l.length = n → P l := by
  intro n
  induction n with
  | zero => intro l h; rw [List.length_eq_zero_iff.1 h]; exact h0
  | succ n ih =>
   intro l h; have hn : l ≠ [] := by intro h'; rw [h'] at h; cases h
   rw [← List.dropLast_concat_getLast hn]; exact h1 _ _ (ih _ (by rw [List.length_dropLast, h]; rfl))
 exact this l.length l rfl
theorem u8_of (c : UInt8) : UInt8.ofNat c.toNat = c := by simp
theorem be_numOf (l : List UInt8) : be (numOf l : Int) l.length = l := by
 refine numOf_rev (P := fun l => be (numOf l : Int) l.length = l) rfl ?_ l; intro l c ih; have hc := c.toNat_lt; rw [List.length_append, List.length_singleton, be_snoc, numOf_snoc]; have e1 : ((numOf l * 256 + c.toNat : Nat) : Int) / 256 = (numOf l : Int) := by omega
 have e2 : (((numOf l * 256 + c.toNat : Nat) : Int) % 256).toNat = c.toNat := by omega
 rw [e1, e2, ih, u8_of]
theorem numOf_pos : ∀ (l : List UInt8), l ≠ [] → ¬ (l.getD 0 0).toNat = 0 → 0 < numOf l := by
 refine numOf_rev (fun h => absurd rfl h) ?_; intro l c ih _ h; rw [numOf_snoc]; cases l with
 | nil => simp at h; simp [numOf]; omega
 | cons d l =>
  have := ih (by simp) (by simpa using h); omega
theorem blen_numOf : ∀ (l : List UInt8) (f : Nat), l.length ≤ f → (l ≠ [] → ¬ (l.getD 0 0).toNat = 0) → blenF f (numOf l : Int) = l.length := by
 refine numOf_rev ?_ ?_
 ·intro f _ _; cases f <;> simp [blenF, numOf]
 ·intro l c ih f hf h; have hc := c.toNat_lt; have hp := numOf_pos (l ++ [c]) (by simp) (h (by simp)); rw [List.length_append, List.length_singleton] at hf ⊢
  obtain ⟨f, rfl⟩ : ∃ g, f = g + 1 := ⟨f - 1, by omega⟩
  unfold blenF; rw [if_pos (by omega), numOf_snoc, show ((numOf l * 256 + c.toNat : Nat) : Int) / 256 = (numOf l : Int) by omega, ih f (by omega)]; intro hl; have := h (by simp); cases l with
  | nil => exact absurd rfl hl
  | cons d l => simpa using this
theorem Bk.upto (n : Int) : Bk (pUpTo n) fun x l => 0 ≤ x ∧ ∀ S : Out, (S.num x).b = S.b ++ l := by
 intro s x r h; unfold pUpTo at h; split at h
 ·cases h
 ·next k s1 h1 =>
  split at h
  ·cases h
  ·next hk =>
   split at h
   ·cases h
   ·next b s2 h2 =>
    split at h
    ·cases h
    ·next hz =>
     split at h
     ·cases h
     ·injection h with h; injection h with e1 e2; subst e1; subst e2
      obtain ⟨a1, b1⟩ := pTake_bk h1; obtain ⟨a2, b2⟩ := pTake_bk h2; refine ⟨k.data.toList ++ b.data.toList, by rw [a1, a2, List.append_assoc], by omega, fun S => ?_⟩; have hb : b.data.toList.length = byteAt k 0 := by rw [b2]; rfl
      have hlt := numOf_lt _ b.data.toList rfl; have hle : (256 : Nat) ^ b.data.toList.length ≤ 256 ^ 5 := Nat.pow_le_pow_right (by decide) (by omega); have hf : farN (numOf b.data.toList : Int) = false := by
       unfold farN; rw [decide_eq_false_iff_not]; have : (256 : Nat) ^ 5 = 1099511627776 := by decide
       omega
      show S.b ++ numB (numV _) = _; unfold numV numB; rw [hf]; have hbl := blen_numOf b.data.toList 5 (by omega) (fun hne => by
       have hsz := size_list b; intro h0; refine hz ⟨?_, h0⟩; rw [← hsz]; exact List.length_pos_iff.2 hne)
      simp only [Bool.false_eq_true, if_false]; rw [hbl, be_numOf]; have hk1 : k.data.toList = [UInt8.ofNat b.data.toList.length] := by
       have e : k.data.toList.length = 1 := by rw [b1]; rfl
       rw [hb]; unfold byteAt
       match hkk : k.data.toList, e with
       | [c], _ => simp
      rw [hk1]; rfl
theorem Bk.num : Bk pNum fun x l => ∀ S : Out, (S.num x).b = S.b ++ l := (Bk.upto _).mono fun _ _ h => h.2
theorem Bk.dig : Bk pDig fun x l => ∀ S : Out, (S.dig x).b = S.b ++ l := by
 intro s x r h; unfold pDig at h; cases ht : pTake 8 s with
 | error e => rw [ht] at h; cases h
 | ok q =>
  obtain ⟨b, s1⟩ := q; rw [ht] at h; simp only [Except.map, Except.ok.injEq, Prod.mk.injEq] at h; obtain ⟨rfl, rfl⟩ := h; obtain ⟨a1, b1⟩ := pTake_bk ht; refine ⟨b.data.toList, a1, fun S => ?_⟩; show S.b ++ be _ 8 = _; have := be_numOf b.data.toList; rw [b1] at this; rw [show (8 : Nat) = (8 : Int).toNat from rfl, this]
theorem Bk.flag : Bk pFlag fun x l => ∀ S : Out, (S.flag x).b = S.b ++ l := by
 intro s x r h; unfold pFlag at h; split at h
 ·cases h
 ·next b s1 ht =>
  obtain ⟨a1, b1⟩ := pTake_bk ht; have hb : b.data.toList = [UInt8.ofNat (byteAt b 0)] := by
   unfold byteAt
   match hkk : b.data.toList, b1 with
   | [c], _ => simp
  split at h
  ·next h0 =>
   injection h with h; injection h with e1 e2; subst e1; subst e2
   exact ⟨b.data.toList, a1, fun S => by rw [hb, h0]; rfl⟩
  ·split at h
   ·next h0 =>
    injection h with h; injection h with e1 e2; subst e1; subst e2
    exact ⟨b.data.toList, a1, fun S => by rw [hb, h0]; rfl⟩
   ·cases h
theorem Bk.text (n : Int) : Bk (pText n) fun t l => ∀ S : Out, (S.text t.data.toList n).b = S.b ++ l := by
 refine (Bk.upto n).bind fun k l hk => ?_
 intro s x r h; obtain ⟨a1, b1⟩ := pTake_bk h; refine ⟨x.data.toList, a1, fun S => ?_⟩; unfold Out.text Out.raw; show (Out.num _ _).b ++ _ = _; rw [show ((x.data.toList.length : Nat) : Int) = k by have := hk.1; omega, hk.2]; simp [Out.lim]
theorem Bk.rep {α : Type} {p : ByteArray → Got α} {g : Out → α → Out} (h : Bk p fun x l => ∀ S : Out, (g S x).b = S.b ++ l) : ∀ k, Bk (pRep p k) fun xs l => xs.length = k ∧ ∀ S : Out, (xs.foldl g S).b = S.b ++ l
 | 0 => by
  intro s xs r hs; simp only [pRep, Except.ok.injEq, Prod.mk.injEq] at hs; obtain ⟨rfl, rfl⟩ := hs; exact ⟨[], by simp, rfl, fun S => by simp⟩
 | k + 1 => by
  intro s xs r hs; unfold pRep at hs; split at hs
  ·cases hs
  ·next x s1 hx =>
   split at hs
   ·cases hs
   ·next l' s2 hl =>
    simp only [Except.ok.injEq, Prod.mk.injEq] at hs; obtain ⟨rfl, rfl⟩ := hs; obtain ⟨l, e1, q1⟩ := h s x s1 hx; obtain ⟨m, e2, q2, q3⟩ := Bk.rep h k s1 l' s2 hl; refine ⟨l ++ m, by rw [e1, e2, List.append_assoc], by rw [List.length_cons, q2], fun S => ?_⟩; rw [List.foldl_cons, q3, q1, List.append_assoc]
theorem Bk.list {α : Type} {p : ByteArray → Got α} {g : Out → α → Out} (n : Int) (h : Bk p fun x l => ∀ S : Out, (g S x).b = S.b ++ l) : Bk (pList n p) fun xs l => ∀ S : Out, (S.list xs n g).b = S.b ++ l := by
 rw [pList_eq]; refine (Bk.upto n).bind fun k l hk => (Bk.rep h k.toNat).mono fun xs m hm S => ?_
 unfold Out.list; rw [hm.2, show ((xs.length : Nat) : Int) = k by have := hk.1; have := hm.1; omega, hk.2]; simp [Out.lim]
theorem need_b (S : Out) (f : Bool) : (S.need f).b = S.b := rfl
theorem lim_b (S : Out) (n m : Int) : (S.lim n m).b = S.b := rfl
theorem Bk.whole {D : Type} {K : Knd D} (h : Bk K.R.p fun x l => (K.out x).b = l) {s : ByteArray} {x : D} (hp : pWhole K.R.p (fun y => (K.out y).re) s = .ok x) : (K.out x).re = 0 ∧ bs (K.out x).rs = s := by
 unfold pWhole at hp; split at hp
 ·cases hp
 ·next y r hy =>
  split at hp
  ·cases hp
  ·next hr =>
   split at hp
   ·next hz =>
    injection hp with hp; subst hp
    refine ⟨hz, ?_⟩; obtain ⟨l, e, q⟩ := h s y r hy; have hr0 : r.data.toList = [] := List.eq_nil_of_length_eq_zero (by rw [size_list]; omega); rw [hr0, List.append_nil] at e; have hq : (K.out y).b = s.data.toList := by rw [q, e]
    have hrs : (K.out y).rs = (K.out y).b := by
     dsimp only at hz; unfold Out.re at hz; unfold Out.rs; cases h1 : (K.out y).far
     ·cases h2 : (K.out y).odd
      ·rfl
      ·rw [h1, h2] at hz; cases hz
     ·rw [h1] at hz; cases hz
    rw [hrs, hq]; apply ByteArray.ext; simp [bs]
   ·cases hp
theorem bk_vote : Bk pVote fun x l => ∀ S : Out, (S.vote x).b = S.b ++ l := by
 unfold pVote; exact Bk.num.bind fun _ _ h0 => Bk.num.bind fun _ _ h1 => Bk.num.bind fun _ _ h2 => Bk.flag.bind fun _ _ h3 => Bk.dig.bind fun _ _ h4 => Bk.num.bind fun _ _ h5 => Bk.ok fun S => by
  simp only [Out.vote, Out.nums, Out.digs, List.foldl_cons, List.foldl_nil, need_b, lim_b, List.append_assoc, List.append_nil, h0, h1, h2, h3, h4, h5]
theorem bk_header : Bk pHeader fun x l => ∀ S : Out, (S.header x).b = S.b ++ l := by
 unfold pHeader; exact Bk.num.bind fun _ _ h0 => Bk.num.bind fun _ _ h1 => Bk.dig.bind fun _ _ h2 => Bk.dig.bind fun _ _ h3 => Bk.dig.bind fun _ _ h4 => Bk.dig.bind fun _ _ h5 => Bk.dig.bind fun _ _ h6 => Bk.dig.bind fun _ _ h7 => Bk.num.bind fun _ _ h8 => Bk.ok fun S => by
  simp only [Out.header, Out.nums, Out.digs, List.foldl_cons, List.foldl_nil, need_b, lim_b, List.append_assoc, List.append_nil, h0, h1, h2, h3, h4, h5, h6, h7, h8]
theorem bk_turn : Bk pTurn fun x l => ∀ S : Out, (S.turn x).b = S.b ++ l := by
 unfold pTurn; exact ((Bk.upto 287).mono fun _ _ h => h.2).bind fun _ _ h0 => Bk.dig.bind fun _ _ h1 => Bk.ok fun S => by
  simp only [Out.turn, Out.nums, Out.digs, List.foldl_cons, List.foldl_nil, need_b, lim_b, List.append_assoc, List.append_nil, h0, h1]
theorem bk_seat : Bk pSeat fun x l => ∀ S : Out, (S.seat x).b = S.b ++ l := by
 unfold pSeat; exact Bk.num.bind fun _ _ h0 => Bk.num.bind fun _ _ h1 => Bk.ok fun S => by
  simp only [Out.seat, Out.nums, Out.digs, List.foldl_cons, List.foldl_nil, need_b, lim_b, List.append_assoc, List.append_nil, h0, h1]
theorem bk_note : Bk pNote fun x l => ∀ S : Out, (S.note x).b = S.b ++ l := by
 unfold pNote; exact Bk.num.bind fun _ _ h0 => Bk.num.bind fun _ _ h1 => Bk.ok fun S => by
  simp only [Out.note, Out.nums, Out.digs, List.foldl_cons, List.foldl_nil, need_b, lim_b, List.append_assoc, List.append_nil, h0, h1]
theorem bk_guilt : Bk pGuilt fun x l => ∀ S : Out, (S.guilt x).b = S.b ++ l := by
 unfold pGuilt; exact bk_vote.bind fun _ _ h0 => bk_vote.bind fun _ _ h1 => Bk.ok fun S => by
  simp only [Out.guilt, Out.nums, Out.digs, List.foldl_cons, List.foldl_nil, need_b, lim_b, List.append_assoc, List.append_nil, h0, h1]
theorem bk_parcel : Bk pParcel fun x l => ∀ S : Out, (S.parcel x).b = S.b ++ l := by
 unfold pParcel; exact Bk.num.bind fun _ _ h0 => Bk.num.bind fun _ _ h1 => Bk.num.bind fun _ _ h2 => Bk.ok fun S => by
  simp only [Out.parcel, Out.nums, Out.digs, List.foldl_cons, List.foldl_nil, need_b, lim_b, List.append_assoc, List.append_nil, h0, h1, h2]
theorem bk_cert : Bk pCert fun x l => ∀ S : Out, (S.cert x).b = S.b ++ l := by
 unfold pCert; exact Bk.num.bind fun _ _ h0 => Bk.num.bind fun _ _ h1 => Bk.num.bind fun _ _ h2 => Bk.flag.bind fun _ _ h3 => Bk.dig.bind fun _ _ h4 => (Bk.list 7 Bk.num).bind fun _ _ h5 => Bk.ok fun S => by
  simp only [Out.cert, Out.nums, Out.digs, List.foldl_cons, List.foldl_nil, need_b, lim_b, List.append_assoc, List.append_nil, h0, h1, h2, h3, h4, h5]
theorem bk_bench : Bk pBench fun x l => ∀ S : Out, (S.bench x.l).b = S.b ++ l := by
 unfold pBench; exact (Bk.list 7 bk_seat).bind fun _ _ h0 => Bk.ok fun S => by
  simp only [Out.bench, Out.nums, Out.digs, List.foldl_cons, List.foldl_nil, need_b, lim_b, List.append_assoc, List.append_nil, h0]
theorem bk_proof : Bk pProof fun x l => ∀ S : Out, (S.proof x).b = S.b ++ l := by
 unfold pProof; exact (Bk.list 288 bk_turn).bind fun _ _ h0 => Bk.flag.bind fun _ _ h1 => (Bk.text 32).bind fun _ _ h2 => (Bk.text 4096).bind fun _ _ h3 => Bk.ok fun S => by
  simp only [Out.proof, Out.nums, Out.digs, List.foldl_cons, List.foldl_nil, need_b, lim_b, List.append_assoc, List.append_nil, h0, h1, h2, h3]
theorem bk_sight : Bk pSight fun x l => ∀ S : Out, (S.sight x).b = S.b ++ l := by
 unfold pSight; exact bk_header.bind fun _ _ h0 => bk_cert.bind fun _ _ h1 => bk_bench.bind fun _ _ h2 => Bk.ok fun S => by
  simp only [Out.sight, Out.nums, Out.digs, List.foldl_cons, List.foldl_nil, need_b, lim_b, List.append_assoc, List.append_nil, h0, h1, h2]
theorem bk_view : Bk pView fun x l => ∀ S : Out, (S.view x).b = S.b ++ l := by
 unfold pView; exact Bk.num.bind fun _ _ h0 => Bk.num.bind fun _ _ h1 => Bk.num.bind fun _ _ h2 => Bk.num.bind fun _ _ h3 => Bk.dig.bind fun _ _ h4 => bk_bench.bind fun _ _ h5 => Bk.ok fun S => by
  simp only [Out.view, Out.nums, Out.digs, List.foldl_cons, List.foldl_nil, need_b, lim_b, List.append_assoc, List.append_nil, h0, h1, h2, h3, h4, h5]
theorem bk_result : Bk pResult fun x l => ∀ S : Out, (S.result x).b = S.b ++ l := by
 unfold pResult; exact Bk.num.bind fun _ _ h0 => Bk.num.bind fun _ _ h1 => Bk.num.bind fun _ _ h2 => (Bk.list 64 bk_note).bind fun _ _ h3 => Bk.ok fun S => by
  simp only [Out.result, Out.nums, Out.digs, List.foldl_cons, List.foldl_nil, need_b, lim_b, List.append_assoc, List.append_nil, h0, h1, h2, h3]
theorem bk_account : Bk pAccount fun x l => ∀ S : Out, (S.account x).b = S.b ++ l := by
 unfold pAccount; exact Bk.num.bind fun _ _ h0 => Bk.num.bind fun _ _ h1 => Bk.num.bind fun _ _ h2 => Bk.num.bind fun _ _ h3 => Bk.num.bind fun _ _ h4 => Bk.num.bind fun _ _ h5 => Bk.flag.bind fun _ _ h6 => Bk.ok fun S => by
  simp only [Out.account, Out.nums, Out.digs, List.foldl_cons, List.foldl_nil, need_b, lim_b, List.append_assoc, List.append_nil, h0, h1, h2, h3, h4, h5, h6]
theorem bk_tx : Bk pTx fun x l => ∀ S : Out, (S.tx x).b = S.b ++ l := by
 unfold pTx; exact Bk.num.bind fun _ _ h0 => Bk.num.bind fun _ _ h1 => Bk.num.bind fun _ _ h2 => Bk.num.bind fun _ _ h3 => Bk.num.bind fun _ _ h4 => Bk.num.bind fun _ _ h5 => Bk.num.bind fun _ _ h6 => (Bk.text 2048).bind fun _ _ h7 => (Bk.list 8 Bk.num).bind fun _ _ h8 => (Bk.list 1 bk_sight).bind fun _ _ h9 => (Bk.list 1 bk_proof).bind fun _ _ h10 => Bk.ok fun S => by
  simp only [Out.tx, Out.nums, Out.digs, List.foldl_cons, List.foldl_nil, need_b, lim_b, List.append_assoc, List.append_nil, h0, h1, h2, h3, h4, h5, h6, h7, h8, h9, h10]
theorem bk_block : Bk pBlock fun x l => ∀ S : Out, (S.block x).b = S.b ++ l := by
 unfold pBlock; exact bk_header.bind fun _ _ h0 => (Bk.list 16 bk_tx).bind fun _ _ h1 => (Bk.list 4 bk_guilt).bind fun _ _ h2 => Bk.ok fun S => by
  simp only [Out.block, Out.nums, Out.digs, List.foldl_cons, List.foldl_nil, need_b, lim_b, List.append_assoc, List.append_nil, h0, h1, h2]
theorem bk_motion : Bk pMotion fun x l => ∀ S : Out, (S.motion x).b = S.b ++ l := by
 unfold pMotion; exact Bk.num.bind fun _ _ h0 => Bk.num.bind fun _ _ h1 => bk_block.bind fun _ _ h2 => (Bk.list 1 bk_cert).bind fun _ _ h3 => Bk.ok fun S => by
  simp only [Out.motion, Out.nums, Out.digs, List.foldl_cons, List.foldl_nil, need_b, lim_b, List.append_assoc, List.append_nil, h0, h1, h2, h3]
theorem bk_known : Bk pKnown fun x l => ∀ S : Out, (S.known x).b = S.b ++ l := by
 unfold pKnown; exact bk_cert.bind fun _ _ h0 => bk_block.bind fun _ _ h1 => Bk.ok fun S => by
  simp only [Out.known, Out.nums, Out.digs, List.foldl_cons, List.foldl_nil, need_b, lim_b, List.append_assoc, List.append_nil, h0, h1]
theorem bk_message : Bk pMessage fun x l => ∀ S : Out, (S.message x).b = S.b ++ l := by
 unfold pMessage; exact Bk.num.bind fun _ _ h0 => Bk.num.bind fun _ _ h1 => Bk.num.bind fun _ _ h2 => (Bk.list 512 bk_vote).bind fun _ _ h3 => (Bk.list 2 bk_motion).bind fun _ _ h4 => (Bk.list 2 bk_known).bind fun _ _ h5 => (Bk.list 16 bk_tx).bind fun _ _ h6 => Bk.ok fun S => by
  simp only [Out.message, Out.nums, Out.digs, List.foldl_cons, List.foldl_nil, need_b, lim_b, List.append_assoc, List.append_nil, h0, h1, h2, h3, h4, h5, h6]
theorem bk_record : Bk pRecord fun x l => ∀ S : Out, (S.record x).b = S.b ++ l := by
 unfold pRecord; refine Bk.num.bind fun k _ h0 => ?_
 split
 ·next hk => exact bk_vote.bind fun _ _ h1 => Bk.ok fun S => by simp only [Out.record, Out.what, need_b, if_pos hk, List.append_assoc, List.append_nil, h0, h1]
 ·next hk =>
  split
  ·next hk2 => exact bk_motion.bind fun _ _ h1 => Bk.ok fun S => by simp only [Out.record, Out.what, need_b, if_neg hk, if_pos hk2, List.append_assoc, List.append_nil, h0, h1]
  ·next hk2 =>
   split
   ·next hk3 => exact bk_known.bind fun _ _ h1 => Bk.ok fun S => by simp only [Out.record, Out.what, need_b, if_neg hk, if_neg hk2, if_pos hk3, List.append_assoc, List.append_nil, h0, h1]
   ·next hk3 => exact Bk.ok fun S => by simp only [Out.record, Out.what, need_b, if_neg hk, if_neg hk2, if_neg hk3, List.append_assoc, List.append_nil, h0]
theorem back_num {s : ByteArray} {x} (h : pWhole numK.R.p (fun y => (numK.out y).re) s = .ok x) : (numK.out x).re = 0 ∧ bs (numK.out x).rs = s := Bk.whole (Bk.num.mono fun _ _ h => h Out.empty) h
theorem back_vote {s : ByteArray} {x} (h : pWhole voteK.R.p (fun y => (voteK.out y).re) s = .ok x) : (voteK.out x).re = 0 ∧ bs (voteK.out x).rs = s := Bk.whole (bk_vote.mono fun _ _ h => h Out.empty) h
theorem back_header {s : ByteArray} {x} (h : pWhole headerK.R.p (fun y => (headerK.out y).re) s = .ok x) : (headerK.out x).re = 0 ∧ bs (headerK.out x).rs = s := Bk.whole (bk_header.mono fun _ _ h => h Out.empty) h
theorem back_guilt {s : ByteArray} {x} (h : pWhole guiltK.R.p (fun y => (guiltK.out y).re) s = .ok x) : (guiltK.out x).re = 0 ∧ bs (guiltK.out x).rs = s := Bk.whole (bk_guilt.mono fun _ _ h => h Out.empty) h
theorem back_parcel {s : ByteArray} {x} (h : pWhole parcelK.R.p (fun y => (parcelK.out y).re) s = .ok x) : (parcelK.out x).re = 0 ∧ bs (parcelK.out x).rs = s := Bk.whole (bk_parcel.mono fun _ _ h => h Out.empty) h
theorem back_cert {s : ByteArray} {x} (h : pWhole certK.R.p (fun y => (certK.out y).re) s = .ok x) : (certK.out x).re = 0 ∧ bs (certK.out x).rs = s := Bk.whole (bk_cert.mono fun _ _ h => h Out.empty) h
theorem back_bench {s : ByteArray} {x} (h : pWhole benchK.R.p (fun y => (benchK.out y).re) s = .ok x) : (benchK.out x).re = 0 ∧ bs (benchK.out x).rs = s := Bk.whole (bk_bench.mono fun _ _ h => h Out.empty) h
theorem back_proof {s : ByteArray} {x} (h : pWhole proofK.R.p (fun y => (proofK.out y).re) s = .ok x) : (proofK.out x).re = 0 ∧ bs (proofK.out x).rs = s := Bk.whole (bk_proof.mono fun _ _ h => h Out.empty) h
theorem back_view {s : ByteArray} {x} (h : pWhole viewK.R.p (fun y => (viewK.out y).re) s = .ok x) : (viewK.out x).re = 0 ∧ bs (viewK.out x).rs = s := Bk.whole (bk_view.mono fun _ _ h => h Out.empty) h
theorem back_result {s : ByteArray} {x} (h : pWhole resultK.R.p (fun y => (resultK.out y).re) s = .ok x) : (resultK.out x).re = 0 ∧ bs (resultK.out x).rs = s := Bk.whole (bk_result.mono fun _ _ h => h Out.empty) h
theorem back_account {s : ByteArray} {x} (h : pWhole accountK.R.p (fun y => (accountK.out y).re) s = .ok x) : (accountK.out x).re = 0 ∧ bs (accountK.out x).rs = s := Bk.whole (bk_account.mono fun _ _ h => h Out.empty) h
theorem back_tx {s : ByteArray} {x} (h : pWhole txK.R.p (fun y => (txK.out y).re) s = .ok x) : (txK.out x).re = 0 ∧ bs (txK.out x).rs = s := Bk.whole (bk_tx.mono fun _ _ h => h Out.empty) h
theorem back_block {s : ByteArray} {x} (h : pWhole blockK.R.p (fun y => (blockK.out y).re) s = .ok x) : (blockK.out x).re = 0 ∧ bs (blockK.out x).rs = s := Bk.whole (bk_block.mono fun _ _ h => h Out.empty) h
theorem back_message {s : ByteArray} {x} (h : pWhole messageK.R.p (fun y => (messageK.out y).re) s = .ok x) : (messageK.out x).re = 0 ∧ bs (messageK.out x).rs = s := Bk.whole (bk_message.mono fun _ _ h => h Out.empty) h
theorem back_record {s : ByteArray} {x} (h : pWhole recordK.R.p (fun y => (recordK.out y).re) s = .ok x) : (recordK.out x).re = 0 ∧ bs (recordK.out x).rs = s := Bk.whole (bk_record.mono fun _ _ h => h Out.empty) h
end Go.Proofs.YtjhaafbbdgjagaaGreat
