/- Of the texts Kd0, Kd1, Kd2, Kd3. -/
import Derived.Test.YtjhaafbbdgjagaaGreatG41
import Derived.Test.YtjhaafbbdgjagaaGreatG43
import Derived.Test.YtjhaafbbdgjagaaGreatG42
import Derived.Test.YtjhaafbbdgjagaaGreatG35
import Derived.Test.YtjhaafbbdgjagaaGreatG36
import Derived.Test.YtjhaafbbdgjagaaGreatG24
import Derived.Test.YtjhaafbbdgjagaaGreatG26
import Derived.Test.YtjhaafbbdgjagaaGreatProg
set_option linter.unusedSimpArgs false
set_option linter.unusedVariables false
namespace Go.Proofs.YtjhaafbbdgjagaaGreat
open Go.RowKit Vc
set_option maxRecDepth 100000
structure Knd (D : Type) where
 R : Rdr D
 lim : D → Prop
 out : D → Out
def PutC {D : Type} (K : Knd D) : Ctr where
 gh := 1
 pre us w := ∃ (x : D) (o : Option D), us = K.R.us x ++ [.g o] ∧ K.R.held w x ∧ K.lim x ∧ ∀ y, o = some y → K.R.strip x = y
 post us os := ∃ (o : Option D) (s : ByteArray) (e : Int), us.getLast? = some (.g o) ∧ os = [.s s, .i e] ∧ ∀ y, o = some y → s = bs (K.out y).rs ∧ e = (K.out y).re
 fact _ _ _ := True
def WriteC {D : Type} (K : Knd D) (f : Nat) : Ctr where
 gh := 1
 pre us w := ∃ (x : D) (o : Option D), us = K.R.us x ++ [.v (fnV f), .g o] ∧ K.R.held w x ∧ K.lim x ∧ ∀ y, o = some y → K.R.strip x = y
 post us os := ∃ (o : Option D) (s : ByteArray) (e : Int), us.getLast? = some (.g o) ∧ os = [.s s, .i e] ∧ ∀ y, o = some y → s = bs (K.out y).rs ∧ e = (K.out y).re
 fact _ _ _ := True
theorem last_g {D : Type} {l : List U} (o : Option D) : (l ++ [U.g o]).getLast? = some (U.g o) := by simp
theorem put_keeps {D : Type} {P : Program} {f : Nat} {fn : Func} {pin : List Sh} (K : Knd D) (val : D → Value) (hfn : P.funcs[f]? = some fn) (hpin : shsOf P fn.params = some pin) (hpout : shsOf P fn.resultTypes = some [.one .str, .one (.int .i64)])
  (hv : ∀ (x : D) (o : Option D), (shsV (K.R.us x ++ [.g o]) 0 pin).toArray = #[val x]) (hs : ∀ x, K.out (K.R.strip x) = K.out x)
  (h : ∀ (x : D) (w : World), K.R.held w x → K.lim x → Calls P f #[val x] w fun e w' => e = .returned (.tuple #[.string (bs (K.out x).rs), .int .i64 (K.out x).re]) ∧ Below w.heap.size w w') : Keeps P f (PutC K) := by
 intro fn' pin' pout' h1 h2 h3 us w _ hp; rw [hfn] at h1; injection h1 with h1; subst h1
 rw [hpin] at h2; injection h2 with h2; subst h2
 rw [hpout] at h3; injection h3 with h3; subst h3
 obtain ⟨x, o, rfl, hh, hl, hy⟩ := hp; rw [hv]; refine (h x w hh hl).mono ?_; rintro e w' ⟨rfl, hb⟩; exact ⟨[.s _, .i _], rfl, rfl, ⟨o, _, _, last_g o, rfl, fun y h => by rw [← hy y h, hs]; exact ⟨rfl, rfl⟩⟩, fun _ _ _ => trivial, hb⟩
theorem write_keeps {D : Type} {P : Program} {f F : Nat} {fn : Func} {pin : List Sh} (K : Knd D) (val : D → Value) (hfn : P.funcs[f]? = some fn) (hpin : shsOf P fn.params = some pin) (hpout : shsOf P fn.resultTypes = some [.one .str, .one (.int .i64)])
  (hv : ∀ (x : D) (o : Option D), (shsV (K.R.us x ++ [.v (fnV F), .g o]) 0 pin).toArray = #[val x, fnV F]) (hs : ∀ x, K.out (K.R.strip x) = K.out x)
  (h : ∀ (x : D) (w : World), K.R.held w x → K.lim x → Calls P f #[val x, fnV F] w fun e w' => e = .returned (.tuple #[.string (bs (K.out x).rs), .int .i64 (K.out x).re]) ∧ Below w.heap.size w w') : Keeps P f (WriteC K F) := by
 intro fn' pin' pout' h1 h2 h3 us w _ hp; rw [hfn] at h1; injection h1 with h1; subst h1
 rw [hpin] at h2; injection h2 with h2; subst h2
 rw [hpout] at h3; injection h3 with h3; subst h3
 obtain ⟨x, o, rfl, hh, hl, hy⟩ := hp; rw [hv]; refine (h x w hh hl).mono ?_; rintro e w' ⟨rfl, hb⟩; exact ⟨[.s _, .i _], rfl, rfl, ⟨o, _, _, by simp, rfl, fun y h => by rw [← hy y h, hs]; exact ⟨rfl, rfl⟩⟩, fun _ _ _ => trivial, hb⟩
def errOf {α : Type} : Except Int α → Int
 | .ok _ => 0
 | .error e => e
def gotOf {α : Type} (z : α) : Except Int α → α
 | .ok x => x
 | .error _ => z
def GetC {D : Type} (K : Knd D) (put : D → Int) (z : D) : Ctr where
 pre us _ := match us with
  | [.s s] => Small s
  | _ => False
 post us os := match us with
  | [.s s] => os.getLast? = some (.i (errOf (pWhole K.R.p put s)))
  | _ => False
 fact us os w := match us with
  | [.s s] => ∃ x, os = K.R.us x ++ [.i (errOf (pWhole K.R.p put s))] ∧ K.R.held w x ∧ K.lim x ∧ K.R.strip x = gotOf z (pWhole K.R.p put s)
  | _ => False
theorem Rel.whole (s : ByteArray) : Rel s 0 0 = .ok s := by
 rw [Rel.zero rfl]
 congr 1
 apply ByteArray.ext; simp
theorem reads_det {α : Type} {p : ByteArray → Got α} {q : Except Int ByteArray} {s : ByteArray} {x y : α} (h : Reads q p (.ok s) x) (g : Reads q p (.ok s) y) : x = y := by
 unfold Reads at h g; rw [h] at g; simpa [Except.map] using g
theorem get_end {α : Type} {p : ByteArray → Got α} {put : α → Int} {s : ByteArray} {a e c e3 : Int} {y : α} (h : Reads (Rel s 0 0) p (Rel s a e) y) (ho : okR s a) (h3 : e3 = if e = 0 then (if a < s.size then 4 else c) else e) (hc : e = 0 → c = put y) :
  (¬ e3 = 0 → pWhole p put s = .error e3) ∧ (e3 = 0 → pWhole p put s = .ok y ∧ e = 0) := by
 obtain ⟨o1, o2, _⟩ := ho; rw [Rel.whole] at h; unfold Reads at h; change p s = _ at h
 by_cases he : e = 0
 ·rw [Rel.zero he] at h; change p s = .ok (y, s.extract a.toNat s.size) at h; have hz : (s.extract a.toNat s.size).size = s.size - a.toNat := by simp [ByteArray.size_extract]
  rw [if_pos he] at h3; unfold pWhole; rw [h]; dsimp only; rw [hz]
  by_cases hl : a < s.size
  ·rw [if_pos hl] at h3; rw [if_pos (by omega), h3]; exact ⟨fun _ => rfl, fun h => absurd h (by decide)⟩
  ·rw [if_neg hl] at h3; rw [if_neg (by omega), h3, ← hc he]; exact ⟨fun h => by rw [if_neg h], fun h => ⟨by rw [if_pos h], he⟩⟩
 ·rw [Rel.bad he] at h; change p s = .error e at h; rw [if_neg he] at h3; unfold pWhole; rw [h, h3]; exact ⟨fun _ => rfl, fun h => absurd h he⟩
def rendO : List U → List U
 | [.p _, .i c, .s b, .i a, .i e] => let r := if e = 0 then (if a < b.size then 4 else c) else e; [.i r, .s b, .i a, .i r]
 | _ => []
def REndS : Ctr := { pre := fun _ _ => True, post := fun us os => os = rendO us, fact := fun _ _ _ => True }
def cfg_rend : Cfg := { mine := [(0, 122)] }
def vcd_rend : { v : VC // vcOfP Tryz.prog cfg_rend [(1, [1000006, 27, 1006011, 999999, 26, 30, 34, 38, 42, 46, 50, 54, 58, 62, 64])] 68 = v } := by refine ⟨?v, ?h⟩; rotate_left; conv => lhs; reduce
theorem vce_rend : vcOf Tryz.prog cfg_rend 68 = vcd_rend.1 := by kernel_rfl
theorem rend_ok : KeepsL Tryz.prog 68 REndS cfg_rend.mine := by
 refine keepsL_v Tryz.func68 cfg_rend vce_rend [.p, .i, .s, .i, .i] REndS [] trivial (by kernel_rfl) (fun _ _ _ h => h) ?_; intro x0 c s a e w hp; refine ⟨[], vc_use ?Q ?h ?g⟩
 case h => intro O C s I b; conv => lhs; reduce
 dsimp only [std]; simp only [Int.reduceOfNat, Int.reduceNegSucc]; refine ⟨fun h1 => ⟨fun h2 => ⟨?_, fun _ _ => trivial⟩, fun h2 => ⟨?_, fun _ _ => trivial⟩⟩, fun h1 => ⟨?_, fun _ _ => trivial⟩⟩
 ·show _ = rendO _; simp only [rendO, if_pos h1, if_pos h2]
 ·show _ = rendO _; simp only [rendO, if_pos h1, if_neg h2]
 ·show _ = rendO _; simp only [rendO, if_neg h1]
def lim_parcel : ParcelD → Prop := fun _ => True
def numK : Knd Int := { R := numR, lim := lim_num, out := fun x => Out.empty.num x }
theorem kputnum_ok : Keeps Tryz.prog 8 (PutC numK) := put_keeps numK (fun x => Value.int .i64 x) Tryz.func8 rfl (by kernel_rfl) (fun _ _ => rfl) (fun _ => rfl) (fun x w _ _ => put_num x w)
theorem krputnum_ok : Keeps Tryz.prog 25 (PutC numK) := put_keeps numK (fun x => Value.int .i64 x) Tryz.func25 rfl (by kernel_rfl) (fun _ _ => rfl) (fun _ => rfl) (fun x w _ _ => rput_num x w)
def voteK : Knd VoteD := { R := voteR, lim := lim_vote, out := fun x => Out.empty.vote x }
theorem kputvote_ok : Keeps Tryz.prog 28 (PutC voteK) := put_keeps voteK (fun x => x.val) Tryz.func28 rfl (by kernel_rfl) (fun _ _ => rfl) (fun _ => rfl) (fun x w h _ => put_vote x h w)
theorem krputvote_ok : Keeps Tryz.prog 29 (PutC voteK) := put_keeps voteK (fun x => x.val) Tryz.func29 rfl (by kernel_rfl) (fun _ _ => rfl) (fun _ => rfl) (fun x w h _ => rput_vote x h w)
theorem kwritevote_ok : Keeps Tryz.prog 75 (WriteC voteK 73) := write_keeps voteK (fun x => x.val) Tryz.func75 rfl (by kernel_rfl) (fun _ _ => rfl) (fun _ => rfl) (fun x w h _ => write_vote x h w)
def certK : Knd CertD := { R := certR, lim := lim_cert, out := fun x => Out.empty.cert x }
theorem kputcert_ok : Keeps Tryz.prog 32 (PutC certK) := put_keeps certK (fun x => x.val) Tryz.func32 rfl (by kernel_rfl) (fun _ _ => rfl) (fun _ => rfl) (fun x w h l => put_cert x w.heap.size w h (Nat.le_refl _) (Nat.le_trans l (by decide)))
theorem krputcert_ok : Keeps Tryz.prog 33 (PutC certK) := put_keeps certK (fun x => x.val) Tryz.func33 rfl (by kernel_rfl) (fun _ _ => rfl) (fun _ => rfl) (fun x w h l => rput_cert x w.heap.size w h (Nat.le_refl _) (Nat.le_trans l (by decide)))
theorem kwritecert_ok : Keeps Tryz.prog 81 (WriteC certK 79) := write_keeps certK (fun x => x.val) Tryz.func81 rfl (by kernel_rfl) (fun _ _ => rfl) (fun _ => rfl) (fun x w h l => write_cert x w.heap.size w h (Nat.le_refl _) (Nat.le_trans l (by decide)))
def benchK : Knd BenD := { R := benchR, lim := lim_bench, out := fun x => Out.empty.bench x.l }
theorem kputbench_ok : Keeps Tryz.prog 36 (PutC benchK) := put_keeps benchK (fun x => Value.slice x.a x.l.length x.c) Tryz.func36 rfl (by kernel_rfl) (fun _ _ => rfl) (fun _ => rfl) (fun x w h l => put_bench x.l x.a x.c w.heap.size w h.1 (Nat.le_refl _) (Nat.le_trans (show x.l.length ≤ 7 from l) (by decide)))
theorem krputbench_ok : Keeps Tryz.prog 37 (PutC benchK) := put_keeps benchK (fun x => Value.slice x.a x.l.length x.c) Tryz.func37 rfl (by kernel_rfl) (fun _ _ => rfl) (fun _ => rfl) (fun x w h l => rput_bench x.l x.a x.c w.heap.size w h.1 (Nat.le_refl _) (Nat.le_trans (show x.l.length ≤ 7 from l) (by decide)))
theorem kwritebench_ok : Keeps Tryz.prog 87 (WriteC benchK 85) := write_keeps benchK (fun x => Value.slice x.a x.l.length x.c) Tryz.func87 rfl (by kernel_rfl) (fun _ _ => rfl) (fun _ => rfl) (fun x w h l => write_bench x.l x.a x.c w.heap.size w h.1 (Nat.le_refl _) (Nat.le_trans (show x.l.length ≤ 7 from l) (by decide)))
def headerK : Knd HeaderD := { R := headerR, lim := lim_header, out := fun x => Out.empty.header x }
theorem kputheader_ok : Keeps Tryz.prog 40 (PutC headerK) := put_keeps headerK (fun x => x.val) Tryz.func40 rfl (by kernel_rfl) (fun _ _ => rfl) (fun _ => rfl) (fun x w h _ => put_header x h w)
theorem krputheader_ok : Keeps Tryz.prog 41 (PutC headerK) := put_keeps headerK (fun x => x.val) Tryz.func41 rfl (by kernel_rfl) (fun _ _ => rfl) (fun _ => rfl) (fun x w h _ => rput_header x h w)
theorem kwriteheader_ok : Keeps Tryz.prog 93 (WriteC headerK 91) := write_keeps headerK (fun x => x.val) Tryz.func93 rfl (by kernel_rfl) (fun _ _ => rfl) (fun _ => rfl) (fun x w h _ => write_header x h w)
def proofK : Knd ProofD := { R := proofR, lim := lim_proof, out := fun x => Out.empty.proof x }
theorem kputproof_ok : Keeps Tryz.prog 44 (PutC proofK) := put_keeps proofK (fun x => x.val) Tryz.func44 rfl (by kernel_rfl) (fun _ _ => rfl) (fun _ => rfl) (fun x w h l => put_proof x w.heap.size w h (Nat.le_refl _) (Nat.le_trans l (by decide)))
theorem krputproof_ok : Keeps Tryz.prog 45 (PutC proofK) := put_keeps proofK (fun x => x.val) Tryz.func45 rfl (by kernel_rfl) (fun _ _ => rfl) (fun _ => rfl) (fun x w h l => rput_proof x w.heap.size w h (Nat.le_refl _) (Nat.le_trans l (by decide)))
theorem kwriteproof_ok : Keeps Tryz.prog 99 (WriteC proofK 97) := write_keeps proofK (fun x => x.val) Tryz.func99 rfl (by kernel_rfl) (fun _ _ => rfl) (fun _ => rfl) (fun x w h l => write_proof x w.heap.size w h (Nat.le_refl _) (Nat.le_trans l (by decide)))
def txK : Knd TxD := { R := txR, lim := lim_tx, out := fun x => Out.empty.tx x }
theorem kputtx_ok : Keeps Tryz.prog 48 (PutC txK) := put_keeps txK (fun x => x.val) Tryz.func48 rfl (by kernel_rfl) (fun _ _ => rfl) (fun x => tx_strip _ x) (fun x w h l => put_tx x w.heap.size w h (Nat.le_refl _) (Nat.le_trans l (by decide)))
theorem krputtx_ok : Keeps Tryz.prog 49 (PutC txK) := put_keeps txK (fun x => x.val) Tryz.func49 rfl (by kernel_rfl) (fun _ _ => rfl) (fun x => tx_strip _ x) (fun x w h l => rput_tx x w.heap.size w h (Nat.le_refl _) (Nat.le_trans l (by decide)))
theorem kwritetx_ok : Keeps Tryz.prog 105 (WriteC txK 103) := write_keeps txK (fun x => x.val) Tryz.func105 rfl (by kernel_rfl) (fun _ _ => rfl) (fun x => tx_strip _ x) (fun x w h l => write_tx x w.heap.size w h (Nat.le_refl _) (Nat.le_trans l (by decide)))
def guiltK : Knd GuiltD := { R := guiltR, lim := lim_guilt, out := fun x => Out.empty.guilt x }
theorem kputguilt_ok : Keeps Tryz.prog 52 (PutC guiltK) := put_keeps guiltK (fun x => x.val) Tryz.func52 rfl (by kernel_rfl) (fun _ _ => rfl) (fun _ => rfl) (fun x w h _ => put_guilt x h w)
theorem krputguilt_ok : Keeps Tryz.prog 53 (PutC guiltK) := put_keeps guiltK (fun x => x.val) Tryz.func53 rfl (by kernel_rfl) (fun _ _ => rfl) (fun _ => rfl) (fun x w h _ => rput_guilt x h w)
theorem kwriteguilt_ok : Keeps Tryz.prog 111 (WriteC guiltK 109) := write_keeps guiltK (fun x => x.val) Tryz.func111 rfl (by kernel_rfl) (fun _ _ => rfl) (fun _ => rfl) (fun x w h _ => write_guilt x h w)
def blockK : Knd BlockD := { R := blockR, lim := lim_block, out := fun x => Out.empty.block x }
theorem kputblock_ok : Keeps Tryz.prog 114 (PutC blockK) := put_keeps blockK (fun x => x.val) Tryz.func114 rfl (by kernel_rfl) (fun _ _ => rfl) (fun x => block_strip _ x) (fun x w h l => put_block x w.heap.size w h (Nat.le_refl _) (Nat.le_trans l (by decide)))
theorem krputblock_ok : Keeps Tryz.prog 115 (PutC blockK) := put_keeps blockK (fun x => x.val) Tryz.func115 rfl (by kernel_rfl) (fun _ _ => rfl) (fun x => block_strip _ x) (fun x w h l => rput_block x w.heap.size w h (Nat.le_refl _) (Nat.le_trans l (by decide)))
theorem kwriteblock_ok : Keeps Tryz.prog 195 (WriteC blockK 193) := write_keeps blockK (fun x => x.val) Tryz.func195 rfl (by kernel_rfl) (fun _ _ => rfl) (fun x => block_strip _ x) (fun x w h l => write_block x w.heap.size w h (Nat.le_refl _) (Nat.le_trans l (by decide)))
def messageK : Knd MessageD := { R := messageR, lim := lim_message, out := fun x => Out.empty.message x }
theorem kputmessage_ok : Keeps Tryz.prog 118 (PutC messageK) := put_keeps messageK (fun x => x.val) Tryz.func118 rfl (by kernel_rfl) (fun _ _ => rfl) (fun x => message_strip _ x) (fun x w h l => put_message x w.heap.size w h (Nat.le_refl _) (Nat.le_trans l (by decide)))
theorem krputmessage_ok : Keeps Tryz.prog 119 (PutC messageK) := put_keeps messageK (fun x => x.val) Tryz.func119 rfl (by kernel_rfl) (fun _ _ => rfl) (fun x => message_strip _ x) (fun x w h l => rput_message x w.heap.size w h (Nat.le_refl _) (Nat.le_trans l (by decide)))
theorem kwritemessage_ok : Keeps Tryz.prog 201 (WriteC messageK 199) := write_keeps messageK (fun x => x.val) Tryz.func201 rfl (by kernel_rfl) (fun _ _ => rfl) (fun x => message_strip _ x) (fun x w h l => write_message x w.heap.size w h (Nat.le_refl _) (Nat.le_trans l (by decide)))
def recordK : Knd RecordD := { R := recordR, lim := lim_record, out := fun x => Out.empty.record x }
theorem kputrecord_ok : Keeps Tryz.prog 65 (PutC recordK) := put_keeps recordK (fun x => x.val) Tryz.func65 rfl (by kernel_rfl) (fun _ _ => rfl) (fun x => record_strip _ x) (fun x w h l => put_record x w.heap.size w h (Nat.le_refl _) (Nat.le_trans l (by decide)))
theorem krputrecord_ok : Keeps Tryz.prog 64 (PutC recordK) := put_keeps recordK (fun x => x.val) Tryz.func64 rfl (by kernel_rfl) (fun _ _ => rfl) (fun x => record_strip _ x) (fun x w h l => rput_record x w.heap.size w h (Nat.le_refl _) (Nat.le_trans l (by decide)))
theorem kwriterecord_ok : Keeps Tryz.prog 143 (WriteC recordK 144) := write_keeps recordK (fun x => x.val) Tryz.func143 rfl (by kernel_rfl) (fun _ _ => rfl) (fun x => record_strip _ x) (fun x w h l => write_record x w.heap.size w h (Nat.le_refl _) (Nat.le_trans l (by decide)))
def accountK : Knd AccountD := { R := accountR, lim := lim_account, out := fun x => Out.empty.account x }
theorem kputaccount_ok : Keeps Tryz.prog 123 (PutC accountK) := put_keeps accountK (fun x => x.val) Tryz.func123 rfl (by kernel_rfl) (fun _ _ => rfl) (fun _ => rfl) (fun x w _ _ => put_account x w)
theorem krputaccount_ok : Keeps Tryz.prog 124 (PutC accountK) := put_keeps accountK (fun x => x.val) Tryz.func124 rfl (by kernel_rfl) (fun _ _ => rfl) (fun _ => rfl) (fun x w _ _ => rput_account x w)
theorem kwriteaccount_ok : Keeps Tryz.prog 209 (WriteC accountK 207) := write_keeps accountK (fun x => x.val) Tryz.func209 rfl (by kernel_rfl) (fun _ _ => rfl) (fun _ => rfl) (fun x w _ _ => write_account x w)
def parcelK : Knd ParcelD := { R := parcelR, lim := lim_parcel, out := fun x => Out.empty.parcel x }
theorem kputparcel_ok : Keeps Tryz.prog 127 (PutC parcelK) := put_keeps parcelK (fun x => x.val) Tryz.func127 rfl (by kernel_rfl) (fun _ _ => rfl) (fun _ => rfl) (fun x w _ _ => put_parcel x w)
theorem krputparcel_ok : Keeps Tryz.prog 128 (PutC parcelK) := put_keeps parcelK (fun x => x.val) Tryz.func128 rfl (by kernel_rfl) (fun _ _ => rfl) (fun _ => rfl) (fun x w _ _ => rput_parcel x w)
theorem kwriteparcel_ok : Keeps Tryz.prog 214 (WriteC parcelK 213) := write_keeps parcelK (fun x => x.val) Tryz.func214 rfl (by kernel_rfl) (fun _ _ => rfl) (fun _ => rfl) (fun x w _ _ => write_parcel x w)
def viewK : Knd ViewD := { R := viewR, lim := lim_view, out := fun x => Out.empty.view x }
theorem kputview_ok : Keeps Tryz.prog 131 (PutC viewK) := put_keeps viewK (fun x => x.val) Tryz.func131 rfl (by kernel_rfl) (fun _ _ => rfl) (fun _ => rfl) (fun x w h l => put_view x h.1 w.heap.size w h.2.1 (Nat.le_refl _) (by have l1 : viewM x ≤ 40 := l; have l2 := sumL_len seatM (fun _ => (by decide : 1 ≤ 3)) x.seats; unfold viewM at l1; omega))
theorem krputview_ok : Keeps Tryz.prog 132 (PutC viewK) := put_keeps viewK (fun x => x.val) Tryz.func132 rfl (by kernel_rfl) (fun _ _ => rfl) (fun _ => rfl) (fun x w h l => rput_view x h.1 w.heap.size w h.2.1 (Nat.le_refl _) (by have l1 : viewM x ≤ 40 := l; have l2 := sumL_len seatM (fun _ => (by decide : 1 ≤ 3)) x.seats; unfold viewM at l1; omega))
theorem kwriteview_ok : Keeps Tryz.prog 220 (WriteC viewK 218) := write_keeps viewK (fun x => x.val) Tryz.func220 rfl (by kernel_rfl) (fun _ _ => rfl) (fun _ => rfl) (fun x w h l => write_view x h.1 w.heap.size w h.2.1 (Nat.le_refl _) (by have l1 : viewM x ≤ 40 := l; have l2 := sumL_len seatM (fun _ => (by decide : 1 ≤ 3)) x.seats; unfold viewM at l1; omega))
def resultK : Knd ResultD := { R := resultR, lim := lim_result, out := fun x => Out.empty.result x }
theorem kputresult_ok : Keeps Tryz.prog 135 (PutC resultK) := put_keeps resultK (fun x => x.val) Tryz.func135 rfl (by kernel_rfl) (fun _ _ => rfl) (fun _ => rfl) (fun x w h l => put_result x w.heap.size w h.1 (Nat.le_refl _) (by have l1 : resultM x ≤ 300 := l; have l2 := sumL_len noteM (fun _ => (by decide : 1 ≤ 3)) x.notes; unfold resultM at l1; omega))
theorem krputresult_ok : Keeps Tryz.prog 136 (PutC resultK) := put_keeps resultK (fun x => x.val) Tryz.func136 rfl (by kernel_rfl) (fun _ _ => rfl) (fun _ => rfl) (fun x w h l => rput_result x w.heap.size w h.1 (Nat.le_refl _) (by have l1 : resultM x ≤ 300 := l; have l2 := sumL_len noteM (fun _ => (by decide : 1 ≤ 3)) x.notes; unfold resultM at l1; omega))
theorem kwriteresult_ok : Keeps Tryz.prog 226 (WriteC resultK 224) := write_keeps resultK (fun x => x.val) Tryz.func226 rfl (by kernel_rfl) (fun _ _ => rfl) (fun _ => rfl) (fun x w h l => write_result x w.heap.size w h.1 (Nat.le_refl _) (by have l1 : resultM x ≤ 300 := l; have l2 := sumL_len noteM (fun _ => (by decide : 1 ≤ 3)) x.notes; unfold resultM at l1; omega))
theorem take3 {A : List U} {x y z : U} {l : List U} (h : (A ++ [x, y, z]).reverse.take 3 = l) : l = [z, y, x] := by subst h; simp
theorem ghost_put {D : Type} {K : Knd D} {y : Option D} {A : List U} {b : ByteArray} {f : Int} (h : (PutC K).post (A ++ [.g y]) [.s b, .i f]) : ∀ x, y = some x → b = bs (K.out x).rs ∧ f = (K.out x).re := by
 obtain ⟨o, s, e, h1, h2, h3⟩ := h; rw [last_g] at h1; simp only [Option.some.injEq, U.g.injEq, heq_eq_eq, true_and] at h1; simp only [List.cons.injEq, U.s.injEq, U.i.injEq, and_true] at h2; obtain ⟨rfl, rfl⟩ := h2; exact fun x hx => h3 x (h1.symm.trans hx)
section
variable {D : Type} {K : Knd D} {put : D → Int} {z : D} {s : ByteArray} {p1 : Option Addr} {A : List U} {s1 : ByteArray} {a e : Int}
theorem rg_put (h : (refC K.R K.lim).post [.p p1, .s s, .i 0, .i 0] (A ++ [.s s1, .i a, .i e])) :
  ∃ o : Option D, (∀ w, (refC K.R K.lim).fact [.p p1, .s s, .i 0, .i 0] (A ++ [.s s1, .i a, .i e]) w → (PutC K).pre (A ++ [.g o]) w) ∧ ∀ q c, (PutC K).post (A ++ [.g o]) [.s q, .i c] → e = 0 → ∀ y, Reads (Rel s 0 0) K.R.p (Rel s a e) y → c = (K.out y).re := by
 obtain ⟨y, a', e', ho, ok, W⟩ := h; have ho := take3 ho; simp only [List.cons.injEq, U.i.injEq, U.s.injEq, and_true] at ho; obtain ⟨rfl, rfl, rfl⟩ := ho; refine ⟨if e' = 0 then some y else none, fun w hw => ?_, fun q c hc h0 y' W' => ?_⟩
 ·obtain ⟨x, a2, e2, hq, P, L, H⟩ := hw; obtain ⟨rfl, hq1⟩ := List.append_inj' hq rfl; cases hq1; refine ⟨x, _, rfl, H, L, fun y1 hy => ?_⟩; split at hy
  ·next he =>
   cases hy; rw [Rel.zero he] at P W; exact reads_det P W
  ·cases hy
 ·have := (ghost_put hc y (by rw [if_pos h0])).2; rw [Rel.zero h0] at W W'; rw [this, reads_det W W']
theorem rg_end (hz : ∀ w, K.R.held w z) (lz : K.lim z) (zst : K.R.strip z = z) (h : (refC K.R K.lim).post [.p p1, .s s, .i 0, .i 0] (A ++ [.s s1, .i a, .i e])) {c : Int} (hc : e = 0 → ∀ y, Reads (Rel s 0 0) K.R.p (Rel s a e) y → c = put y) {p2 : Option Addr} {e3 : Int} {s3 : ByteArray} {a3 e4 : Int} (hr : REndS.post [.p p2, .i c, .s s1, .i a, .i e] [.i e3, .s s3, .i a3, .i e4]) :
  (¬ e3 = 0 → (GetC K put z).post [.s s] (K.R.us z ++ [.i e3]) ∧ ∀ w, (GetC K put z).fact [.s s] (K.R.us z ++ [.i e3]) w) ∧ (e3 = 0 → (GetC K put z).post [.s s] (A ++ [.i e3]) ∧ ∀ w, (refC K.R K.lim).fact [.p p1, .s s, .i 0, .i 0] (A ++ [.s s1, .i a, .i e]) w → (GetC K put z).fact [.s s] (A ++ [.i e3]) w) := by
 obtain ⟨y, a', e', ho, ok, W⟩ := h; have ho := take3 ho; simp only [List.cons.injEq, U.i.injEq, U.s.injEq, and_true] at ho; obtain ⟨rfl, rfl, rfl⟩ := ho; have hr : _ = rendO _ := hr; simp only [rendO, List.cons.injEq, U.i.injEq, and_true] at hr; obtain ⟨n1, n2⟩ := get_end (p := K.R.p) (put := put) W ok hr.1 fun h => hc h y W
 refine ⟨fun h => ?_, fun h => ?_⟩
 ·have E := n1 h; refine ⟨?_, fun w => ⟨z, ?_, hz w, lz, ?_⟩⟩
  ·show (K.R.us z ++ [U.i e3]).getLast? = some (U.i (errOf (pWhole K.R.p put s))); rw [E]; simp [errOf]
  ·rw [E]; rfl
  ·rw [E]; exact zst
 ·obtain ⟨E, he⟩ := n2 h; refine ⟨?_, fun w hw => ?_⟩
  ·show (A ++ [U.i e3]).getLast? = some (U.i (errOf (pWhole K.R.p put s))); rw [E, h]; simp [errOf]
  ·obtain ⟨x, a2, e2, hq, P, L, H⟩ := hw; obtain ⟨rfl, hq1⟩ := List.append_inj' hq rfl; cases hq1; rw [Rel.zero he] at P W; have sx := reads_det P W; exact ⟨x, by rw [E, h]; rfl, H, L, by rw [E]; exact sx⟩
end
def numZ0 : Int := 0
theorem numZ0_held (w : World) : numR.held w numZ0 := trivial
def cfg_rgnum : Cfg := { con := [(67, 0), (68, 0)], lents := [(67, [(0, 122)]), (68, [(0, 122)])] }
def vcd_rgnum : { v : VC // vcOf Tryz.prog cfg_rgnum 24 = v } := by refine ⟨?v, ?h⟩; rotate_left; conv => lhs; reduce
theorem vce_rgnum : vcOf Tryz.prog cfg_rgnum 24 = vcd_rgnum.1 := vcd_rgnum.2
theorem rgetnum_ok : Keeps Tryz.prog 24 (GetC numK (fun _ => 0) numZ0) := by
 refine keeps_v Tryz.func24 cfg_rgnum vce_rgnum [.s] (GetC numK (fun _ => 0) numZ0) [(67, RNumS), (68, REndS)] ⟨rnum_ok, rend_ok, trivial⟩ (by kernel_rfl) (fun _ _ _ h _ => h) ?_; intro s w hp; refine ⟨[], vc_use ?Q ?h ?g⟩
 case h => intro O C s I b; conv => lhs; reduce
 dsimp only [std]; simp only [ctrOf, invOf, List.lookup, Nat.reduceBEq, Option.getD_some, Int.reduceOfNat, Int.reduceNegSucc]; have hs : Small s := hp; intro p1; refine ⟨fun _ _ => ⟨by decide, by omega, hs⟩, fun y s1 a e ⟨y1, a1, e1, ho, ok, W, L⟩ => ?_⟩; simp only [List.cons_append, List.nil_append, List.cons.injEq, U.i.injEq, U.b.injEq, U.s.injEq, U.p.injEq, U.n.injEq, and_true, true_and] at ho; obtain ⟨rfl, rfl, rfl, rfl⟩ := ho; have hc : e = 0 → (0 : Int) = 0 := fun _ => rfl
 intro p2; refine ⟨fun _ _ => trivial, fun e3 s3 a3 e4 hr => ?_⟩; have hr : _ = rendO _ := hr; simp only [rendO, List.cons_append, List.nil_append, List.cons.injEq, U.i.injEq, U.b.injEq, U.s.injEq, U.p.injEq, U.n.injEq, and_true, true_and] at hr; obtain ⟨h3, _, _, _⟩ := hr; obtain ⟨n1, n2⟩ := get_end (p := numR.p) (put := (fun _ => 0)) W ok h3 hc; refine ⟨fun h => ?_, fun h => ?_⟩
 ·have E : pWhole numK.R.p _ s1 = _ := n1 h; refine ⟨?_, fun w _ => ⟨numZ0, ?_, numZ0_held w, trivial, ?_⟩⟩
  ·show some _ = some (U.i (errOf (pWhole numK.R.p _ s1))); rw [E]; rfl
  ·rw [E]; rfl
  ·rw [E]; rfl
 ·obtain ⟨E, he⟩ := n2 h; have E : pWhole numK.R.p _ s1 = _ := E; refine ⟨?_, fun w hw => ?_⟩
  ·show some _ = some (U.i (errOf (pWhole numK.R.p _ s1))); rw [E, h]; rfl
  ·exact ⟨y, by rw [E, h]; rfl, trivial, trivial, by rw [E]; rfl⟩
def voteZ0 : VoteD := voteZ
theorem voteZ0_held (w : World) : voteR.held w voteZ0 := voteZ_ok
def cfg_rgvote : Cfg := { con := [(74, 0), (29, 1), (68, 0)], lents := [(74, [(0, 122)]), (68, [(0, 122)])] }
def vcd_rgvote : { v : VC // vcOf Tryz.prog cfg_rgvote 27 = v } := by refine ⟨?v, ?h⟩; rotate_left; conv => lhs; reduce
theorem vce_rgvote : vcOf Tryz.prog cfg_rgvote 27 = vcd_rgvote.1 := vcd_rgvote.2
theorem rgetvote_ok : Keeps Tryz.prog 27 (GetC voteK (fun y => (voteK.out y).re) voteZ0) := by
 refine keeps_v Tryz.func27 cfg_rgvote vce_rgvote [.s] (GetC voteK (fun y => (voteK.out y).re) voteZ0) [(74, refC voteR lim_vote), (29, PutC voteK), (68, REndS)] ⟨rvote_ok, krputvote_ok, rend_ok, trivial⟩ (by kernel_rfl) (fun _ _ _ h _ => h) ?_; intro s w hp; refine ⟨[], vc_use ?Q ?h ?g⟩
 case h => intro O C s I b; conv => lhs; reduce
 dsimp only [std]; simp only [ctrOf, invOf, List.lookup, Nat.reduceBEq, Option.getD_some, Int.reduceOfNat, Int.reduceNegSucc]; refine fun p1 => ⟨fun _ _ => ⟨by decide, by omega, hp⟩, fun l0 l1 l2 l3 l4 l5 s1 a e h => ?_⟩
 obtain ⟨o, h1, h2⟩ := rg_put (K := voteK) (A := [.i l0, .i l1, .i l2, .b l3, .i l4, .i l5]) h; refine ⟨_, o, fun w hw => h1 w hw.2, fun q c hc p2 => ⟨fun _ _ => trivial, fun e3 s3 a3 e4 hr => ?_⟩⟩; have d := rg_end (p1 := p1) (s := s) (s1 := s1) (a := a) (e := e) (K := voteK) (z := voteZ0) (A := [.i l0, .i l1, .i l2, .b l3, .i l4, .i l5]) voteZ0_held trivial rfl h (h2 q c hc) hr; exact ⟨fun h => ⟨(d.1 h).1, fun w _ => (d.1 h).2 w⟩, fun h => ⟨(d.2 h).1, fun w hw => (d.2 h).2 w hw.1.1.2⟩⟩
def certZ0 : CertD := certZ
theorem certZ0_held (w : World) : certR.held w certZ0 := certZ_held _ _
def cfg_rgcert : Cfg := { con := [(80, 0), (33, 1), (68, 0)], lents := [(80, [(0, 122)]), (68, [(0, 122)])] }
def vcd_rgcert : { v : VC // vcOf Tryz.prog cfg_rgcert 31 = v } := by refine ⟨?v, ?h⟩; rotate_left; conv => lhs; reduce
theorem vce_rgcert : vcOf Tryz.prog cfg_rgcert 31 = vcd_rgcert.1 := vcd_rgcert.2
theorem rgetcert_ok : Keeps Tryz.prog 31 (GetC certK (fun y => (certK.out y).re) certZ0) := by
 refine keeps_v Tryz.func31 cfg_rgcert vce_rgcert [.s] (GetC certK (fun y => (certK.out y).re) certZ0) [(80, refC certR lim_cert), (33, PutC certK), (68, REndS)] ⟨rcert_ok, krputcert_ok, rend_ok, trivial⟩ (by kernel_rfl) (fun _ _ _ h _ => h) ?_; intro s w hp; refine ⟨[], vc_use ?Q ?h ?g⟩
 case h => intro O C s I b; conv => lhs; reduce
 dsimp only [std]; simp only [ctrOf, invOf, List.lookup, Nat.reduceBEq, Option.getD_some, Int.reduceOfNat, Int.reduceNegSucc]; refine fun p1 => ⟨fun _ _ => ⟨by decide, by omega, hp⟩, fun l0 l1 l2 l3 l4 l5 l6 l7 s1 a e h => ?_⟩
 obtain ⟨o, h1, h2⟩ := rg_put (K := certK) (A := [.i l0, .i l1, .i l2, .b l3, .i l4, .p l5, .n l6, .n l7]) h; refine ⟨_, o, fun w hw => h1 w hw.2, fun q c hc p2 => ⟨fun _ _ => trivial, fun e3 s3 a3 e4 hr => ?_⟩⟩; have d := rg_end (p1 := p1) (s := s) (s1 := s1) (a := a) (e := e) (K := certK) (z := certZ0) (A := [.i l0, .i l1, .i l2, .b l3, .i l4, .p l5, .n l6, .n l7]) certZ0_held (by show certM _ ≤ 14; decide) rfl h (h2 q c hc) hr
 exact ⟨fun h => ⟨(d.1 h).1, fun w _ => (d.1 h).2 w⟩, fun h => ⟨(d.2 h).1, fun w hw => (d.2 h).2 w hw.1.1.2⟩⟩
def benchZ0 : BenD := ⟨[], none, 0⟩
theorem benchZ0_held (w : World) : benchR.held w benchZ0 := ⟨Rd.nil _ _ _ _, ml0⟩
def cfg_rgbench : Cfg := { con := [(86, 0), (37, 1), (68, 0)], lents := [(86, [(0, 122)]), (68, [(0, 122)])] }
def vcd_rgbench : { v : VC // vcOf Tryz.prog cfg_rgbench 35 = v } := by refine ⟨?v, ?h⟩; rotate_left; conv => lhs; reduce
theorem vce_rgbench : vcOf Tryz.prog cfg_rgbench 35 = vcd_rgbench.1 := vcd_rgbench.2
theorem rgetbench_ok : Keeps Tryz.prog 35 (GetC benchK (fun y => (benchK.out y).re) benchZ0) := by
 refine keeps_v Tryz.func35 cfg_rgbench vce_rgbench [.s] (GetC benchK (fun y => (benchK.out y).re) benchZ0) [(86, refC benchR lim_bench), (37, PutC benchK), (68, REndS)] ⟨rbench_ok, krputbench_ok, rend_ok, trivial⟩ (by kernel_rfl) (fun _ _ _ h _ => h) ?_; intro s w hp; refine ⟨[], vc_use ?Q ?h ?g⟩
 case h => intro O C s I b; conv => lhs; reduce
 dsimp only [std]; simp only [ctrOf, invOf, List.lookup, Nat.reduceBEq, Option.getD_some, Int.reduceOfNat, Int.reduceNegSucc]; refine fun p1 => ⟨fun _ _ => ⟨by decide, by omega, hp⟩, fun l0 l1 l2 s1 a e h => ?_⟩
 obtain ⟨o, h1, h2⟩ := rg_put (K := benchK) (A := [.p l0, .n l1, .n l2]) h; refine ⟨_, o, fun w hw => h1 w hw.2, fun q c hc p2 => ⟨fun _ _ => trivial, fun e3 s3 a3 e4 hr => ?_⟩⟩; have d := rg_end (p1 := p1) (s := s) (s1 := s1) (a := a) (e := e) (K := benchK) (z := benchZ0) (A := [.p l0, .n l1, .n l2]) benchZ0_held (by show ([] : List Seat).length ≤ 7; decide) rfl h (h2 q c hc) hr
 exact ⟨fun h => ⟨(d.1 h).1, fun w _ => (d.1 h).2 w⟩, fun h => ⟨(d.2 h).1, fun w hw => (d.2 h).2 w hw.1.1.2⟩⟩
def headerZ0 : HeaderD := headerZ
theorem headerZ0_held (w : World) : headerR.held w headerZ0 := headerZ_ok
def cfg_rgheader : Cfg := { con := [(92, 0), (68, 0)], lents := [(92, [(0, 122)]), (68, [(0, 122)])] }
def vcd_rgheader : { v : VC // vcOf Tryz.prog cfg_rgheader 39 = v } := by refine ⟨?v, ?h⟩; rotate_left; conv => lhs; reduce
theorem vce_rgheader : vcOf Tryz.prog cfg_rgheader 39 = vcd_rgheader.1 := vcd_rgheader.2
theorem rgetheader_ok : Keeps Tryz.prog 39 (GetC headerK (fun _ => 0) headerZ0) := by
 refine keeps_v Tryz.func39 cfg_rgheader vce_rgheader [.s] (GetC headerK (fun _ => 0) headerZ0) [(92, refC headerR lim_header), (68, REndS)] ⟨rheader_ok, rend_ok, trivial⟩ (by kernel_rfl) (fun _ _ _ h _ => h) ?_; intro s w hp; refine ⟨[], vc_use ?Q ?h ?g⟩
 case h => intro O C s I b; conv => lhs; reduce
 dsimp only [std]; simp only [ctrOf, invOf, List.lookup, Nat.reduceBEq, Option.getD_some, Int.reduceOfNat, Int.reduceNegSucc]; refine fun p1 => ⟨fun _ _ => ⟨by decide, by omega, hp⟩, fun l0 l1 l2 l3 l4 l5 l6 l7 l8 s1 a e h => ?_⟩
 refine fun p2 => ⟨fun _ _ => trivial, fun e3 s3 a3 e4 hr => ?_⟩
 have d := rg_end (p1 := p1) (s := s) (s1 := s1) (a := a) (e := e) (K := headerK) (z := headerZ0) (A := [.i l0, .i l1, .i l2, .i l3, .i l4, .i l5, .i l6, .i l7, .i l8]) headerZ0_held trivial rfl h (put := fun _ => 0) (fun _ _ _ => rfl) hr; exact ⟨fun h => ⟨(d.1 h).1, fun w _ => (d.1 h).2 w⟩, fun h => ⟨(d.2 h).1, fun w hw => (d.2 h).2 w hw.1.2⟩⟩
def proofZ0 : ProofD := ⟨[], none, 0, false, [], []⟩
theorem proofZ0_held (w : World) : proofR.held w proofZ0 := ⟨Rd.nil _ _ _ _, ml0, fun _ h => (nomatch h)⟩
def cfg_rgproof : Cfg := { con := [(98, 0), (45, 1), (68, 0)], lents := [(98, [(0, 122)]), (68, [(0, 122)])] }
def vcd_rgproof : { v : VC // vcOf Tryz.prog cfg_rgproof 43 = v } := by refine ⟨?v, ?h⟩; rotate_left; conv => lhs; reduce
theorem vce_rgproof : vcOf Tryz.prog cfg_rgproof 43 = vcd_rgproof.1 := vcd_rgproof.2
theorem rgetproof_ok : Keeps Tryz.prog 43 (GetC proofK (fun y => (proofK.out y).re) proofZ0) := by
 refine keeps_v Tryz.func43 cfg_rgproof vce_rgproof [.s] (GetC proofK (fun y => (proofK.out y).re) proofZ0) [(98, refC proofR lim_proof), (45, PutC proofK), (68, REndS)] ⟨rproof_ok, krputproof_ok, rend_ok, trivial⟩ (by kernel_rfl) (fun _ _ _ h _ => h) ?_; intro s w hp; refine ⟨[], vc_use ?Q ?h ?g⟩
 case h => intro O C s I b; conv => lhs; reduce
 dsimp only [std]; simp only [ctrOf, invOf, List.lookup, Nat.reduceBEq, Option.getD_some, Int.reduceOfNat, Int.reduceNegSucc]; refine fun p1 => ⟨fun _ _ => ⟨by decide, by omega, hp⟩, fun l0 l1 l2 l3 l4 l5 s1 a e h => ?_⟩
 obtain ⟨o, h1, h2⟩ := rg_put (K := proofK) (A := [.p l0, .n l1, .n l2, .b l3, .s l4, .s l5]) h; refine ⟨_, o, fun w hw => h1 w hw.2, fun q c hc p2 => ⟨fun _ _ => trivial, fun e3 s3 a3 e4 hr => ?_⟩⟩; have d := rg_end (p1 := p1) (s := s) (s1 := s1) (a := a) (e := e) (K := proofK) (z := proofZ0) (A := [.p l0, .n l1, .n l2, .b l3, .s l4, .s l5]) proofZ0_held (by show proofM _ ≤ 5000; decide) rfl h (h2 q c hc) hr
 exact ⟨fun h => ⟨(d.1 h).1, fun w _ => (d.1 h).2 w⟩, fun h => ⟨(d.2 h).1, fun w hw => (d.2 h).2 w hw.1.1.2⟩⟩
def txZ0 : TxD := ⟨0, 0, 0, 0, 0, 0, 0, [], [], none, 0, [], none, 0, [], none, 0⟩
theorem txZ0_held (w : World) : txR.held w txZ0 := ⟨Rd.nil _ _ _ _, Rd.nil _ _ _ _, Rd.nil _ _ _ _, ⟨ml0, ml0, ml0⟩, fun _ h => (nomatch h), fun _ h => (nomatch h)⟩
def cfg_rgtx : Cfg := { con := [(104, 0), (49, 1), (68, 0)], lents := [(104, [(0, 122)]), (68, [(0, 122)])] }
def vcd_rgtx : { v : VC // vcOf Tryz.prog cfg_rgtx 47 = v } := by refine ⟨?v, ?h⟩; rotate_left; conv => lhs; reduce
theorem vce_rgtx : vcOf Tryz.prog cfg_rgtx 47 = vcd_rgtx.1 := vcd_rgtx.2
theorem rgettx_ok : Keeps Tryz.prog 47 (GetC txK (fun y => (txK.out y).re) txZ0) := by
 refine keeps_v Tryz.func47 cfg_rgtx vce_rgtx [.s] (GetC txK (fun y => (txK.out y).re) txZ0) [(104, refC txR lim_tx), (49, PutC txK), (68, REndS)] ⟨rrtx_ok, krputtx_ok, rend_ok, trivial⟩ (by kernel_rfl) (fun _ _ _ h _ => h) ?_; intro s w hp; refine ⟨[], vc_use ?Q ?h ?g⟩
 case h => intro O C s I b; conv => lhs; reduce
 dsimp only [std]; simp only [ctrOf, invOf, List.lookup, Nat.reduceBEq, Option.getD_some, Int.reduceOfNat, Int.reduceNegSucc]; refine fun p1 => ⟨fun _ _ => ⟨by decide, by omega, hp⟩, fun l0 l1 l2 l3 l4 l5 l6 l7 l8 l9 l10 l11 l12 l13 l14 l15 l16 s1 a e h => ?_⟩
 obtain ⟨o, h1, h2⟩ := rg_put (K := txK) (A := [.i l0, .i l1, .i l2, .i l3, .i l4, .i l5, .i l6, .s l7, .p l8, .n l9, .n l10, .p l11, .n l12, .n l13, .p l14, .n l15, .n l16]) h; refine ⟨_, o, fun w hw => h1 w hw.2, fun q c hc p2 => ⟨fun _ _ => trivial, fun e3 s3 a3 e4 hr => ?_⟩⟩; have d := rg_end (p1 := p1) (s := s) (s1 := s1) (a := a) (e := e) (K := txK) (z := txZ0) (A := [.i l0, .i l1, .i l2, .i l3, .i l4, .i l5, .i l6, .s l7, .p l8, .n l9, .n l10, .p l11, .n l12, .n l13, .p l14, .n l15, .n l16]) txZ0_held (by show txM _ ≤ 7300; decide) rfl h (h2 q c hc) hr
 exact ⟨fun h => ⟨(d.1 h).1, fun w _ => (d.1 h).2 w⟩, fun h => ⟨(d.2 h).1, fun w hw => (d.2 h).2 w hw.1.1.2⟩⟩
def guiltZ0 : GuiltD := ⟨voteZ, voteZ⟩
theorem guiltZ0_held (w : World) : guiltR.held w guiltZ0 := ⟨voteZ_ok, voteZ_ok⟩
def cfg_rgguilt : Cfg := { con := [(110, 0), (53, 1), (68, 0)], lents := [(110, [(0, 122)]), (68, [(0, 122)])] }
def vcd_rgguilt : { v : VC // vcOf Tryz.prog cfg_rgguilt 51 = v } := by refine ⟨?v, ?h⟩; rotate_left; conv => lhs; reduce
theorem vce_rgguilt : vcOf Tryz.prog cfg_rgguilt 51 = vcd_rgguilt.1 := vcd_rgguilt.2
theorem rgetguilt_ok : Keeps Tryz.prog 51 (GetC guiltK (fun y => (guiltK.out y).re) guiltZ0) := by
 refine keeps_v Tryz.func51 cfg_rgguilt vce_rgguilt [.s] (GetC guiltK (fun y => (guiltK.out y).re) guiltZ0) [(110, refC guiltR lim_guilt), (53, PutC guiltK), (68, REndS)] ⟨rguilt_ok, krputguilt_ok, rend_ok, trivial⟩ (by kernel_rfl) (fun _ _ _ h _ => h) ?_; intro s w hp; refine ⟨[], vc_use ?Q ?h ?g⟩
 case h => intro O C s I b; conv => lhs; reduce
 dsimp only [std]; simp only [ctrOf, invOf, List.lookup, Nat.reduceBEq, Option.getD_some, Int.reduceOfNat, Int.reduceNegSucc]; refine fun p1 => ⟨fun _ _ => ⟨by decide, by omega, hp⟩, fun l0 l1 l2 l3 l4 l5 l6 l7 l8 l9 l10 l11 s1 a e h => ?_⟩
 obtain ⟨o, h1, h2⟩ := rg_put (K := guiltK) (A := [.i l0, .i l1, .i l2, .b l3, .i l4, .i l5, .i l6, .i l7, .i l8, .b l9, .i l10, .i l11]) h; refine ⟨_, o, fun w hw => h1 w hw.2, fun q c hc p2 => ⟨fun _ _ => trivial, fun e3 s3 a3 e4 hr => ?_⟩⟩; have d := rg_end (p1 := p1) (s := s) (s1 := s1) (a := a) (e := e) (K := guiltK) (z := guiltZ0) (A := [.i l0, .i l1, .i l2, .b l3, .i l4, .i l5, .i l6, .i l7, .i l8, .b l9, .i l10, .i l11]) guiltZ0_held trivial rfl h (h2 q c hc) hr; exact ⟨fun h => ⟨(d.1 h).1, fun w _ => (d.1 h).2 w⟩, fun h => ⟨(d.2 h).1, fun w hw => (d.2 h).2 w hw.1.1.2⟩⟩
def blockZ0 : BlockD := blockZ
theorem blockZ0_held (w : World) : blockR.held w blockZ0 := blockZ_held _ _
def cfg_rgblock : Cfg := { con := [(194, 0), (115, 1), (68, 0)], lents := [(194, [(0, 122)]), (68, [(0, 122)])] }
def vcd_rgblock : { v : VC // vcOf Tryz.prog cfg_rgblock 113 = v } := by refine ⟨?v, ?h⟩; rotate_left; conv => lhs; reduce
theorem vce_rgblock : vcOf Tryz.prog cfg_rgblock 113 = vcd_rgblock.1 := vcd_rgblock.2
theorem rgetblock_ok : Keeps Tryz.prog 113 (GetC blockK (fun y => (blockK.out y).re) blockZ0) := by
 refine keeps_v Tryz.func113 cfg_rgblock vce_rgblock [.s] (GetC blockK (fun y => (blockK.out y).re) blockZ0) [(194, refC blockR lim_block), (115, PutC blockK), (68, REndS)] ⟨rblock_ok, krputblock_ok, rend_ok, trivial⟩ (by kernel_rfl) (fun _ _ _ h _ => h) ?_; intro s w hp; refine ⟨[], vc_use ?Q ?h ?g⟩
 case h => intro O C s I b; conv => lhs; reduce
 dsimp only [std]; simp only [ctrOf, invOf, List.lookup, Nat.reduceBEq, Option.getD_some, Int.reduceOfNat, Int.reduceNegSucc]; refine fun p1 => ⟨fun _ _ => ⟨by decide, by omega, hp⟩, fun l0 l1 l2 l3 l4 l5 l6 l7 l8 l9 l10 l11 l12 l13 l14 s1 a e h => ?_⟩
 obtain ⟨o, h1, h2⟩ := rg_put (K := blockK) (A := [.i l0, .i l1, .i l2, .i l3, .i l4, .i l5, .i l6, .i l7, .i l8, .p l9, .n l10, .n l11, .p l12, .n l13, .n l14]) h; refine ⟨_, o, fun w hw => h1 w hw.2, fun q c hc p2 => ⟨fun _ _ => trivial, fun e3 s3 a3 e4 hr => ?_⟩⟩; have d := rg_end (p1 := p1) (s := s) (s1 := s1) (a := a) (e := e) (K := blockK) (z := blockZ0) (A := [.i l0, .i l1, .i l2, .i l3, .i l4, .i l5, .i l6, .i l7, .i l8, .p l9, .n l10, .n l11, .p l12, .n l13, .n l14]) blockZ0_held (by show blockM _ ≤ 117000; decide) rfl h (h2 q c hc) hr
 exact ⟨fun h => ⟨(d.1 h).1, fun w _ => (d.1 h).2 w⟩, fun h => ⟨(d.2 h).1, fun w hw => (d.2 h).2 w hw.1.1.2⟩⟩
def messageZ0 : MessageD := ⟨0, 0, 0, [], none, 0, [], none, 0, [], none, 0, [], none, 0⟩
theorem messageZ0_held (w : World) : messageR.held w messageZ0 := ⟨Rd.nil _ _ _ _, Rd.nil _ _ _ _, Rd.nil _ _ _ _, Rd.nil _ _ _ _, ⟨ml0, ml0, ml0, ml0⟩, fun _ h => (nomatch h), fun _ h => (nomatch h), fun _ h => (nomatch h), fun _ h => (nomatch h)⟩
def cfg_rgmessage : Cfg := { con := [(200, 0), (119, 1), (68, 0)], lents := [(200, [(0, 122)]), (68, [(0, 122)])] }
def vcd_rgmessage : { v : VC // vcOf Tryz.prog cfg_rgmessage 117 = v } := by refine ⟨?v, ?h⟩; rotate_left; conv => lhs; reduce
theorem vce_rgmessage : vcOf Tryz.prog cfg_rgmessage 117 = vcd_rgmessage.1 := vcd_rgmessage.2
theorem rgetmessage_ok : Keeps Tryz.prog 117 (GetC messageK (fun y => (messageK.out y).re) messageZ0) := by
 refine keeps_v Tryz.func117 cfg_rgmessage vce_rgmessage [.s] (GetC messageK (fun y => (messageK.out y).re) messageZ0) [(200, refC messageR lim_message), (119, PutC messageK), (68, REndS)] ⟨rmessage_ok, krputmessage_ok, rend_ok, trivial⟩ (by kernel_rfl) (fun _ _ _ h _ => h) ?_; intro s w hp; refine ⟨[], vc_use ?Q ?h ?g⟩
 case h => intro O C s I b; conv => lhs; reduce
 dsimp only [std]; simp only [ctrOf, invOf, List.lookup, Nat.reduceBEq, Option.getD_some, Int.reduceOfNat, Int.reduceNegSucc]; refine fun p1 => ⟨fun _ _ => ⟨by decide, by omega, hp⟩, fun l0 l1 l2 l3 l4 l5 l6 l7 l8 l9 l10 l11 l12 l13 l14 s1 a e h => ?_⟩
 obtain ⟨o, h1, h2⟩ := rg_put (K := messageK) (A := [.i l0, .i l1, .i l2, .p l3, .n l4, .n l5, .p l6, .n l7, .n l8, .p l9, .n l10, .n l11, .p l12, .n l13, .n l14]) h; refine ⟨_, o, fun w hw => h1 w hw.2, fun q c hc p2 => ⟨fun _ _ => trivial, fun e3 s3 a3 e4 hr => ?_⟩⟩; have d := rg_end (p1 := p1) (s := s) (s1 := s1) (a := a) (e := e) (K := messageK) (z := messageZ0) (A := [.i l0, .i l1, .i l2, .p l3, .n l4, .n l5, .p l6, .n l7, .n l8, .p l9, .n l10, .n l11, .p l12, .n l13, .n l14]) messageZ0_held (by show messageM _ ≤ 600000; decide) rfl h (h2 q c hc) hr
 exact ⟨fun h => ⟨(d.1 h).1, fun w _ => (d.1 h).2 w⟩, fun h => ⟨(d.2 h).1, fun w hw => (d.2 h).2 w hw.1.1.2⟩⟩
def recordZ0 : RecordD := ⟨0, voteZ, motionZ, knownZ⟩
theorem recordZ0_held (w : World) : recordR.held w recordZ0 := ⟨voteZ_ok, motionZ_held _ _, knownZ_held _ _⟩
def cfg_rgrecord : Cfg := { con := [(141, 0), (64, 1), (68, 0)], lents := [(141, [(0, 122)]), (68, [(0, 122)])] }
def vcd_rgrecord : { v : VC // vcOf Tryz.prog cfg_rgrecord 63 = v } := by refine ⟨?v, ?h⟩; rotate_left; conv => lhs; reduce
theorem vce_rgrecord : vcOf Tryz.prog cfg_rgrecord 63 = vcd_rgrecord.1 := vcd_rgrecord.2
theorem rgetrecord_ok : Keeps Tryz.prog 63 (GetC recordK (fun y => (recordK.out y).re) recordZ0) := by
 refine keeps_v Tryz.func63 cfg_rgrecord vce_rgrecord [.s] (GetC recordK (fun y => (recordK.out y).re) recordZ0) [(141, refC recordR lim_record), (64, PutC recordK), (68, REndS)] ⟨rrecord_ok, krputrecord_ok, rend_ok, trivial⟩ (by kernel_rfl) (fun _ _ _ h _ => h) ?_; intro s w hp; refine ⟨[], vc_use ?Q ?h ?g⟩
 case h => intro O C s I b; conv => lhs; reduce
 dsimp only [std]; simp only [ctrOf, invOf, List.lookup, Nat.reduceBEq, Option.getD_some, Int.reduceOfNat, Int.reduceNegSucc]; refine fun p1 => ⟨fun _ _ => ⟨by decide, by omega, hp⟩, fun l0 l1 l2 l3 l4 l5 l6 l7 l8 l9 l10 l11 l12 l13 l14 l15 l16 l17 l18 l19 l20 l21 l22 l23 l24 l25 l26 l27 l28 l29 l30 l31 l32 l33 l34 l35 l36 l37 l38 l39 l40 l41 l42 l43 l44 l45 l46 l47 l48 l49 s1 a e h => ?_⟩
 obtain ⟨o, h1, h2⟩ := rg_put (K := recordK) (A := [.i l0, .i l1, .i l2, .i l3, .b l4, .i l5, .i l6, .i l7, .i l8, .i l9, .i l10, .i l11, .i l12, .i l13, .i l14, .i l15, .i l16, .i l17, .p l18, .n l19, .n l20, .p l21, .n l22, .n l23, .p l24, .n l25, .n l26, .i l27, .i l28, .i l29, .b l30, .i l31, .p l32, .n l33, .n l34, .i l35, .i l36, .i l37, .i l38, .i l39, .i l40, .i l41, .i l42, .i l43, .p l44, .n l45, .n l46, .p l47, .n l48, .n l49]) h; refine ⟨_, o, fun w hw => h1 w hw.2, fun q c hc p2 => ⟨fun _ _ => trivial, fun e3 s3 a3 e4 hr => ?_⟩⟩; have d := rg_end (p1 := p1) (s := s) (s1 := s1) (a := a) (e := e) (K := recordK) (z := recordZ0) (A := [.i l0, .i l1, .i l2, .i l3, .b l4, .i l5, .i l6, .i l7, .i l8, .i l9, .i l10, .i l11, .i l12, .i l13, .i l14, .i l15, .i l16, .i l17, .p l18, .n l19, .n l20, .p l21, .n l22, .n l23, .p l24, .n l25, .n l26, .i l27, .i l28, .i l29, .b l30, .i l31, .p l32, .n l33, .n l34, .i l35, .i l36, .i l37, .i l38, .i l39, .i l40, .i l41, .i l42, .i l43, .p l44, .n l45, .n l46, .p l47, .n l48, .n l49]) recordZ0_held (by show recordM _ ≤ 240000; decide) rfl h (h2 q c hc) hr
 exact ⟨fun h => ⟨(d.1 h).1, fun w _ => (d.1 h).2 w⟩, fun h => ⟨(d.2 h).1, fun w hw => (d.2 h).2 w hw.1.1.2⟩⟩
def accountZ0 : AccountD := ⟨0, 0, 0, 0, 0, 0, false⟩
theorem accountZ0_held (w : World) : accountR.held w accountZ0 := trivial
def cfg_rgaccount : Cfg := { con := [(208, 0), (68, 0)], lents := [(208, [(0, 122)]), (68, [(0, 122)])] }
def vcd_rgaccount : { v : VC // vcOf Tryz.prog cfg_rgaccount 122 = v } := by refine ⟨?v, ?h⟩; rotate_left; conv => lhs; reduce
theorem vce_rgaccount : vcOf Tryz.prog cfg_rgaccount 122 = vcd_rgaccount.1 := vcd_rgaccount.2
theorem rgetaccount_ok : Keeps Tryz.prog 122 (GetC accountK (fun _ => 0) accountZ0) := by
 refine keeps_v Tryz.func122 cfg_rgaccount vce_rgaccount [.s] (GetC accountK (fun _ => 0) accountZ0) [(208, refC accountR lim_account), (68, REndS)] ⟨raccount_ok, rend_ok, trivial⟩ (by kernel_rfl) (fun _ _ _ h _ => h) ?_; intro s w hp; refine ⟨[], vc_use ?Q ?h ?g⟩
 case h => intro O C s I b; conv => lhs; reduce
 dsimp only [std]; simp only [ctrOf, invOf, List.lookup, Nat.reduceBEq, Option.getD_some, Int.reduceOfNat, Int.reduceNegSucc]; refine fun p1 => ⟨fun _ _ => ⟨by decide, by omega, hp⟩, fun l0 l1 l2 l3 l4 l5 l6 s1 a e h => ?_⟩
 refine fun p2 => ⟨fun _ _ => trivial, fun e3 s3 a3 e4 hr => ?_⟩
 have d := rg_end (p1 := p1) (s := s) (s1 := s1) (a := a) (e := e) (K := accountK) (z := accountZ0) (A := [.i l0, .i l1, .i l2, .i l3, .i l4, .i l5, .b l6]) accountZ0_held trivial rfl h (put := fun _ => 0) (fun _ _ _ => rfl) hr; exact ⟨fun h => ⟨(d.1 h).1, fun w _ => (d.1 h).2 w⟩, fun h => ⟨(d.2 h).1, fun w hw => (d.2 h).2 w hw.1.2⟩⟩
def viewZ0 : ViewD := ⟨0, 0, 0, 0, 0, [], none, 0⟩
theorem viewZ0_held (w : World) : viewR.held w viewZ0 := ⟨show (0 : Int) ≤ 0 ∧ (0 : Int) < 18446744073709551616 from by decide, Rd.nil _ _ _ _, ml0⟩
def cfg_rgview : Cfg := { con := [(219, 0), (132, 1), (68, 0)], lents := [(219, [(0, 122)]), (68, [(0, 122)])] }
def vcd_rgview : { v : VC // vcOf Tryz.prog cfg_rgview 130 = v } := by refine ⟨?v, ?h⟩; rotate_left; conv => lhs; reduce
theorem vce_rgview : vcOf Tryz.prog cfg_rgview 130 = vcd_rgview.1 := vcd_rgview.2
theorem rgetview_ok : Keeps Tryz.prog 130 (GetC viewK (fun y => (viewK.out y).re) viewZ0) := by
 refine keeps_v Tryz.func130 cfg_rgview vce_rgview [.s] (GetC viewK (fun y => (viewK.out y).re) viewZ0) [(219, refC viewR lim_view), (132, PutC viewK), (68, REndS)] ⟨rview_ok, krputview_ok, rend_ok, trivial⟩ (by kernel_rfl) (fun _ _ _ h _ => h) ?_; intro s w hp; refine ⟨[], vc_use ?Q ?h ?g⟩
 case h => intro O C s I b; conv => lhs; reduce
 dsimp only [std]; simp only [ctrOf, invOf, List.lookup, Nat.reduceBEq, Option.getD_some, Int.reduceOfNat, Int.reduceNegSucc]; refine fun p1 => ⟨fun _ _ => ⟨by decide, by omega, hp⟩, fun l0 l1 l2 l3 l4 l5 l6 l7 s1 a e h => ?_⟩
 obtain ⟨o, h1, h2⟩ := rg_put (K := viewK) (A := [.i l0, .i l1, .i l2, .i l3, .i l4, .p l5, .n l6, .n l7]) h; refine ⟨_, o, fun w hw => h1 w hw.2, fun q c hc p2 => ⟨fun _ _ => trivial, fun e3 s3 a3 e4 hr => ?_⟩⟩; have d := rg_end (p1 := p1) (s := s) (s1 := s1) (a := a) (e := e) (K := viewK) (z := viewZ0) (A := [.i l0, .i l1, .i l2, .i l3, .i l4, .p l5, .n l6, .n l7]) viewZ0_held (by show viewM _ ≤ 40; decide) rfl h (h2 q c hc) hr
 exact ⟨fun h => ⟨(d.1 h).1, fun w _ => (d.1 h).2 w⟩, fun h => ⟨(d.2 h).1, fun w hw => (d.2 h).2 w hw.1.1.2⟩⟩
def resultZ0 : ResultD := ⟨0, 0, 0, [], none, 0⟩
theorem resultZ0_held (w : World) : resultR.held w resultZ0 := ⟨Rd.nil _ _ _ _, ml0⟩
def cfg_rgresult : Cfg := { con := [(225, 0), (68, 0)], lents := [(225, [(0, 122)]), (68, [(0, 122)])] }
def vcd_rgresult : { v : VC // vcOf Tryz.prog cfg_rgresult 134 = v } := by refine ⟨?v, ?h⟩; rotate_left; conv => lhs; reduce
theorem vce_rgresult : vcOf Tryz.prog cfg_rgresult 134 = vcd_rgresult.1 := vcd_rgresult.2
theorem rgetresult_ok : Keeps Tryz.prog 134 (GetC resultK (fun _ => 0) resultZ0) := by
 refine keeps_v Tryz.func134 cfg_rgresult vce_rgresult [.s] (GetC resultK (fun _ => 0) resultZ0) [(225, refC resultR lim_result), (68, REndS)] ⟨rresult_ok, rend_ok, trivial⟩ (by kernel_rfl) (fun _ _ _ h _ => h) ?_; intro s w hp; refine ⟨[], vc_use ?Q ?h ?g⟩
 case h => intro O C s I b; conv => lhs; reduce
 dsimp only [std]; simp only [ctrOf, invOf, List.lookup, Nat.reduceBEq, Option.getD_some, Int.reduceOfNat, Int.reduceNegSucc]; refine fun p1 => ⟨fun _ _ => ⟨by decide, by omega, hp⟩, fun l0 l1 l2 l3 l4 l5 s1 a e h => ?_⟩
 refine fun p2 => ⟨fun _ _ => trivial, fun e3 s3 a3 e4 hr => ?_⟩
 have d := rg_end (p1 := p1) (s := s) (s1 := s1) (a := a) (e := e) (K := resultK) (z := resultZ0) (A := [.i l0, .i l1, .i l2, .p l3, .n l4, .n l5]) resultZ0_held (by show resultM _ ≤ 300; decide) rfl h (put := fun _ => 0) (fun _ _ _ => rfl) hr
 exact ⟨fun h => ⟨(d.1 h).1, fun w _ => (d.1 h).2 w⟩, fun h => ⟨(d.2 h).1, fun w hw => (d.2 h).2 w hw.1.2⟩⟩
def parcelZ0 : ParcelD := ⟨0, 0, 0⟩
def cfg_rgparcel : Cfg := { con := [(67, 0), (128, 1), (68, 0)], lents := [(67, [(0, 122)]), (68, [(0, 122)])] }
def vcd_rgparcel : { v : VC // vcOf Tryz.prog cfg_rgparcel 126 = v } := by refine ⟨?v, ?h⟩; rotate_left; conv => lhs; reduce
theorem vce_rgparcel : vcOf Tryz.prog cfg_rgparcel 126 = vcd_rgparcel.1 := vcd_rgparcel.2
set_option linter.unusedVariables false in
theorem rgetparcel_ok : Keeps Tryz.prog 126 (GetC parcelK (fun y => (parcelK.out y).re) parcelZ0) := by
 refine keeps_v Tryz.func126 cfg_rgparcel vce_rgparcel [.s] (GetC parcelK (fun y => (parcelK.out y).re) parcelZ0) [(67, RNumS), (128, PutC parcelK), (68, REndS)] ⟨rnum_ok, krputparcel_ok, rend_ok, trivial⟩ (by kernel_rfl) (fun _ _ _ h _ => h) ?_; intro z w hp; refine ⟨[], vc_use ?Q ?h ?g⟩
 case h => intro O C s I b; conv => lhs; reduce
 dsimp only [std]; simp only [ctrOf, invOf, List.lookup, Nat.reduceBEq, Option.getD_some, Int.reduceOfNat, Int.reduceNegSucc]; have hs : Small z := hp; have ok0 : okR z 0 := ⟨by decide, by omega, hs⟩
 intro p_v_k; refine ⟨fun _ _ => ok0, fun v_k z a1 e1 ⟨v1, a1', e1', ho, ok1, W_k, L_k⟩ => ?_⟩; cases ho; intro p_v_t; refine ⟨fun _ _ => ok1, fun v_t z a2 e2 ⟨v1, a1', e1', ho, ok2, W_t, L_t⟩ => ?_⟩; cases ho; intro p_v_a; refine ⟨fun _ _ => ok2, fun v_a z a3 e3 ⟨v1, a1', e1', ho, ok3, W_a, L_a⟩ => ?_⟩; cases ho; have W : Reads (Rel z 0 0) pParcel (Rel z a3 e3) ⟨v_k, v_t, v_a⟩ := Reads.bind W_k (Reads.bind W_t (Reads.bind W_a (Reads.ok _ _))); generalize hy : (⟨v_k, v_t, v_a⟩ : ParcelD) = y at W; refine ⟨Option ParcelD, some y, fun w hw => ?_, fun q c hc => ?_⟩
 ·exact ⟨⟨v_k, v_t, v_a⟩, _, rfl, trivial, trivial, fun y1 h1 => by cases h1; exact hy⟩
 obtain ⟨o, s2, c2, g1, g2, g3⟩ := hc; have g1 : some (U.g (some y)) = some (U.g o) := g1; simp only [Option.some.injEq, U.g.injEq, heq_eq_eq, true_and] at g1; cases g2; have hc : e3 = 0 → c = (parcelK.out y).re := fun h => (g3 y (by rw [← g1])).2
 intro p2; refine ⟨fun _ _ => trivial, fun e4 s3 a4 e5 hr => ?_⟩; have hr : _ = rendO _ := hr; simp only [rendO, List.cons_append, List.nil_append, List.cons.injEq, U.i.injEq, U.b.injEq, U.s.injEq, U.p.injEq, U.n.injEq, and_true, true_and] at hr; obtain ⟨h3, _, _, _⟩ := hr; obtain ⟨n1, n2⟩ := get_end (p := pParcel) (put := (fun y => (parcelK.out y).re)) W ok3 h3 hc; refine ⟨fun h => ?_, fun h => ?_⟩
 ·have E : pWhole parcelK.R.p _ z = _ := n1 h; refine ⟨?_, fun w _ => ⟨parcelZ0, ?_, trivial, trivial, ?_⟩⟩
  ·show some _ = some (U.i (errOf (pWhole parcelK.R.p _ z))); rw [E]; rfl
  ·rw [E]; rfl
  ·rw [E]; rfl
 ·obtain ⟨E, he⟩ := n2 h; have E : pWhole parcelK.R.p _ z = _ := E; refine ⟨?_, fun w hw => ?_⟩
  ·show some _ = some (U.i (errOf (pWhole parcelK.R.p _ z))); rw [E, h]; rfl
  ·exact ⟨⟨v_k, v_t, v_a⟩, by rw [E, h]; rfl, trivial, trivial, by rw [E]; exact hy⟩
end Go.Proofs.YtjhaafbbdgjagaaGreat
