/- Of the texts Kd0, Kd1, Wal3, Kd2, Kd3, Kd4, Kd5, Kd6, Wal4, Wal5. -/
import Derived.Test.YtjhaafbbdgjagaaGreatG40
import Derived.Test.YtjhaafbbdgjagaaGreatG43
import Derived.Test.YtjhaafbbdgjagaaGreatG42
import Derived.Test.YtjhaafbbdgjagaaGreatG37
import Derived.Test.YtjhaafbbdgjagaaGreatG28
import Derived.Test.YtjhaafbbdgjagaaGreatG29
import Derived.Test.YtjhaafbbdgjagaaGreatProg
import Derived.Test.YtjhaafbbdgjagaaGreatG41
import Derived.Test.YtjhaafbbdgjagaaGreatG19
import Derived.Test.YtjhaafbbdgjagaaGreatG17
set_option linter.unusedSimpArgs false
set_option linter.unusedVariables false
namespace Go.Proofs.YtjhaafbbdgjagaaGreat
open Go.RowKit Vc
set_option maxRecDepth 100000
structure Knd (D : Type) where
 R : Rdr D
 lim : D → Prop
 out : D → Out
def PutC {D : Type} (K : Knd D) : Ctr where
 gh := 1
 pre us w := ∃ (x : D) (o : Option D), us = K.R.us x ++ [.g o] ∧ K.R.held w x ∧ K.lim x ∧ ∀ y, o = some y → K.R.strip x = y
 post us os := ∃ (o : Option D) (s : ByteArray) (e : Int), us.getLast? = some (.g o) ∧ os = [.s s, .i e] ∧ ∀ y, o = some y → s = bs (K.out y).rs ∧ e = (K.out y).re
 fact _ _ _ := True
def WriteC {D : Type} (K : Knd D) (f : Nat) : Ctr where
 gh := 1
 pre us w := ∃ (x : D) (o : Option D), us = K.R.us x ++ [.v (fnV f), .g o] ∧ K.R.held w x ∧ K.lim x ∧ ∀ y, o = some y → K.R.strip x = y
 post us os := ∃ (o : Option D) (s : ByteArray) (e : Int), us.getLast? = some (.g o) ∧ os = [.s s, .i e] ∧ ∀ y, o = some y → s = bs (K.out y).rs ∧ e = (K.out y).re
 fact _ _ _ := True
theorem last_g {D : Type} {l : List U} (o : Option D) : (l ++ [U.g o]).getLast? = some (U.g o) := by simp
theorem put_keeps {D : Type} {P : Program} {f : Nat} {fn : Func} {pin : List Sh} (K : Knd D) (val : D → Value) (hfn : P.funcs[f]? = some fn) (hpin : shsOf P fn.params = some pin) (hpout : shsOf P fn.resultTypes = some [.one .str, .one (.int .i64)])
  (hv : ∀ (x : D) (o : Option D), (shsV (K.R.us x ++ [.g o]) 0 pin).toArray = #[val x]) (hs : ∀ x, K.out (K.R.strip x) = K.out x)
  (h : ∀ (x : D) (w : World), K.R.held w x → K.lim x → Calls P f #[val x] w fun e w' => e = .returned (.tuple #[.string (bs (K.out x).rs), .int .i64 (K.out x).re]) ∧ Below w.heap.size w w') : Keeps P f (PutC K) := by
 intro fn' pin' pout' h1 h2 h3 us w _ hp; rw [hfn] at h1; injection h1 with h1; subst h1
 rw [hpin] at h2; injection h2 with h2; subst h2
 rw [hpout] at h3; injection h3 with h3; subst h3
 obtain ⟨x, o, rfl, hh, hl, hy⟩ := hp; rw [hv]; refine (h x w hh hl).mono ?_; rintro e w' ⟨rfl, hb⟩; exact ⟨[.s _, .i _], rfl, rfl, ⟨o, _, _, last_g o, rfl, fun y h => by rw [← hy y h, hs]; exact ⟨rfl, rfl⟩⟩, fun _ _ _ => trivial, hb⟩
theorem write_keeps {D : Type} {P : Program} {f F : Nat} {fn : Func} {pin : List Sh} (K : Knd D) (val : D → Value) (hfn : P.funcs[f]? = some fn) (hpin : shsOf P fn.params = some pin) (hpout : shsOf P fn.resultTypes = some [.one .str, .one (.int .i64)])
  (hv : ∀ (x : D) (o : Option D), (shsV (K.R.us x ++ [.v (fnV F), .g o]) 0 pin).toArray = #[val x, fnV F]) (hs : ∀ x, K.out (K.R.strip x) = K.out x)
  (h : ∀ (x : D) (w : World), K.R.held w x → K.lim x → Calls P f #[val x, fnV F] w fun e w' => e = .returned (.tuple #[.string (bs (K.out x).rs), .int .i64 (K.out x).re]) ∧ Below w.heap.size w w') : Keeps P f (WriteC K F) := by
 intro fn' pin' pout' h1 h2 h3 us w _ hp; rw [hfn] at h1; injection h1 with h1; subst h1
 rw [hpin] at h2; injection h2 with h2; subst h2
 rw [hpout] at h3; injection h3 with h3; subst h3
 obtain ⟨x, o, rfl, hh, hl, hy⟩ := hp; rw [hv]; refine (h x w hh hl).mono ?_; rintro e w' ⟨rfl, hb⟩; exact ⟨[.s _, .i _], rfl, rfl, ⟨o, _, _, by simp, rfl, fun y h => by rw [← hy y h, hs]; exact ⟨rfl, rfl⟩⟩, fun _ _ _ => trivial, hb⟩
def errOf {α : Type} : Except Int α → Int
 | .ok _ => 0
 | .error e => e
def gotOf {α : Type} (z : α) : Except Int α → α
 | .ok x => x
 | .error _ => z
def GetC {D : Type} (K : Knd D) (put : D → Int) (z : D) : Ctr where
 pre us _ := match us with
  | [.s s] => Small s
  | _ => False
 post us os := match us with
  | [.s s] => os.getLast? = some (.i (errOf (pWhole K.R.p put s)))
  | _ => False
 fact us os w := match us with
  | [.s s] => ∃ x, os = K.R.us x ++ [.i (errOf (pWhole K.R.p put s))] ∧ K.R.held w x ∧ K.lim x ∧ K.R.strip x = gotOf z (pWhole K.R.p put s)
  | _ => False
theorem Rel.whole (s : ByteArray) : Rel s 0 0 = .ok s := by
 rw [Rel.zero rfl]
 congr 1
 apply ByteArray.ext; simp
theorem reads_det {α : Type} {p : ByteArray → Got α} {q : Except Int ByteArray} {s : ByteArray} {x y : α} (h : Reads q p (.ok s) x) (g : Reads q p (.ok s) y) : x = y := by
 unfold Reads at h g; rw [h] at g; simpa [Except.map] using g
theorem get_end {α : Type} {p : ByteArray → Got α} {put : α → Int} {s : ByteArray} {a e c e3 : Int} {y : α} (h : Reads (Rel s 0 0) p (Rel s a e) y) (ho : okR s a) (h3 : e3 = if e = 0 then (if a < s.size then 4 else c) else e) (hc : e = 0 → c = put y) :
  (¬ e3 = 0 → pWhole p put s = .error e3) ∧ (e3 = 0 → pWhole p put s = .ok y ∧ e = 0) := by
 obtain ⟨o1, o2, _⟩ := ho; rw [Rel.whole] at h; unfold Reads at h; change p s = _ at h
 by_cases he : e = 0
 ·rw [Rel.zero he] at h; change p s = .ok (y, s.extract a.toNat s.size) at h; have hz : (s.extract a.toNat s.size).size = s.size - a.toNat := by simp [ByteArray.size_extract]
  rw [if_pos he] at h3; unfold pWhole; rw [h]; dsimp only; rw [hz]
  by_cases hl : a < s.size
  ·rw [if_pos hl] at h3; rw [if_pos (by omega), h3]; exact ⟨fun _ => rfl, fun h => absurd h (by decide)⟩
  ·rw [if_neg hl] at h3; rw [if_neg (by omega), h3, ← hc he]; exact ⟨fun h => by rw [if_neg h], fun h => ⟨by rw [if_pos h], he⟩⟩
 ·rw [Rel.bad he] at h; change p s = .error e at h; rw [if_neg he] at h3; unfold pWhole; rw [h, h3]; exact ⟨fun _ => rfl, fun h => absurd h he⟩
def rendO : List U → List U
 | [.p _, .i c, .s b, .i a, .i e] => let r := if e = 0 then (if a < b.size then 4 else c) else e; [.i r, .s b, .i a, .i r]
 | _ => []
def REndS : Ctr := { pre := fun _ _ => True, post := fun us os => os = rendO us, fact := fun _ _ _ => True }
def cfg_rend : Cfg := { mine := [(0, 122)] }
def vcd_rend : { v : VC // vcOfP Tryz.prog cfg_rend [(1, [1000006, 27, 1006011, 999999, 26, 30, 34, 38, 42, 46, 50, 54, 58, 62, 64])] 68 = v } := by refine ⟨?v, ?h⟩; rotate_left; conv => lhs; reduce
theorem vce_rend : vcOf Tryz.prog cfg_rend 68 = vcd_rend.1 := by kernel_rfl
theorem rend_ok : KeepsL Tryz.prog 68 REndS cfg_rend.mine := by
 refine keepsL_v Tryz.func68 cfg_rend vce_rend [.p, .i, .s, .i, .i] REndS [] trivial (by kernel_rfl) (fun _ _ _ h => h) ?_; intro x0 c s a e w hp; refine ⟨[], vc_use ?Q ?h ?g⟩
 case h => intro O C s I b; conv => lhs; reduce
 dsimp only [std]; simp only [Int.reduceOfNat, Int.reduceNegSucc]; refine ⟨fun h1 => ⟨fun h2 => ⟨?_, fun _ _ => trivial⟩, fun h2 => ⟨?_, fun _ _ => trivial⟩⟩, fun h1 => ⟨?_, fun _ _ => trivial⟩⟩
 ·show _ = rendO _; simp only [rendO, if_pos h1, if_pos h2]
 ·show _ = rendO _; simp only [rendO, if_pos h1, if_neg h2]
 ·show _ = rendO _; simp only [rendO, if_neg h1]
def recordK : Knd RecordD := { R := recordR, lim := lim_record, out := fun x => Out.empty.record x }
theorem kputrecord_ok : Keeps Tryz.prog 65 (PutC recordK) := put_keeps recordK (fun x => x.val) Tryz.func65 rfl (by kernel_rfl) (fun _ _ => rfl) (fun x => record_strip _ x) (fun x w h l => put_record x w.heap.size w h.1 (Nat.le_refl _) (Nat.le_trans l (by decide)))
theorem krputrecord_ok : Keeps Tryz.prog 64 (PutC recordK) := put_keeps recordK (fun x => x.val) Tryz.func64 rfl (by kernel_rfl) (fun _ _ => rfl) (fun x => record_strip _ x) (fun x w h l => rput_record x w.heap.size w h.1 (Nat.le_refl _) (Nat.le_trans l (by decide)))
theorem kwriterecord_ok : Keeps Tryz.prog 143 (WriteC recordK 144) := write_keeps recordK (fun x => x.val) Tryz.func143 rfl (by kernel_rfl) (fun _ _ => rfl) (fun x => record_strip _ x) (fun x w h l => write_record x w.heap.size w h.1 (Nat.le_refl _) (Nat.le_trans l (by decide)))
end Go.Proofs.YtjhaafbbdgjagaaGreat
namespace Go.Proofs.YtjhaafbbdgjagaaGreat
open Go Go.RowKit Vc
set_option maxRecDepth 100000
def recW (k : Int) (v : VoteD) : RecordD := ⟨k, v, motionZ, knownZ⟩
def recO (k : Int) (v : VoteD) : Out := recordK.out (recW k v)
theorem num_len (S : Out) (n : Int) : (S.num n).b.length ≤ S.b.length + 6 := by
 have := blenF_le 5 (numV n); simp only [Out.num, numB, List.length_append, List.length_cons, be_len]; omega
theorem dig_len (S : Out) (n : Int) : (S.dig n).b.length = S.b.length + 8 := by simp only [Out.dig, List.length_append, be_len]
theorem flag_len (S : Out) (f : Bool) : (S.flag f).b.length = S.b.length + 1 := by simp only [Out.flag, List.length_append, List.length_singleton]
theorem nil_len {α : Type} (S : Out) (m : Int) (f : Out → α → Out) : (S.list ([] : List α) m f).b.length ≤ S.b.length + 6 := num_len _ _
theorem nums_len : ∀ (l : List Int) (S : Out), (S.nums l).b.length ≤ S.b.length + 6 * l.length
 | [], S => Nat.le_refl _
 | n :: l, S => by
  have h1 := num_len S n; have h2 := nums_len l (S.num n); show ((S.num n).nums l).b.length ≤ _; rw [List.length_cons]; omega
theorem digs_len : ∀ (l : List Int) (S : Out), (S.digs l).b.length = S.b.length + 8 * l.length
 | [], S => rfl
 | n :: l, S => by
  have h1 := dig_len S n; have h2 := digs_len l (S.dig n); show ((S.dig n).digs l).b.length = _; rw [List.length_cons]; omega
theorem vote_len (S : Out) (x : VoteD) : (S.vote x).b.length ≤ S.b.length + 33 := by
 have h1 := nums_len [x.h, x.r, x.s] S; have h2 := flag_len (S.nums [x.h, x.r, x.s]) x.has; have h3 := dig_len ((S.nums [x.h, x.r, x.s]).flag x.has) x.b; have h4 := num_len (((S.nums [x.h, x.r, x.s]).flag x.has).dig x.b) x.f; have h5 : (S.vote x).b.length = ((((S.nums [x.h, x.r, x.s]).flag x.has).dig x.b).num x.f).b.length := rfl; simp only [List.length_cons, List.length_nil] at h1; omega
theorem block_len (S : Out) : (S.block blockZ).b.length ≤ S.b.length + 100 := by
 have h1 := nums_len [(0 : Int), 0, 0] S; have h1 := nums_len [headerZ.c, headerZ.h] S; have h2 := digs_len [headerZ.p, headerZ.t, headerZ.g, headerZ.s, headerZ.r, headerZ.b] (S.nums [headerZ.c, headerZ.h]); have h3 := num_len ((S.nums [headerZ.c, headerZ.h]).digs [headerZ.p, headerZ.t, headerZ.g, headerZ.s, headerZ.r, headerZ.b]) headerZ.o; have h4 := nil_len (S.header headerZ) 16 Out.tx; have h5 := nil_len ((S.header headerZ).list [] 16 Out.tx) 4 Out.guilt; have e : S.block blockZ = ((S.header headerZ).list [] 16 Out.tx).list [] 4 Out.guilt := rfl; have e2 : S.header headerZ = ((S.nums [headerZ.c, headerZ.h]).digs [headerZ.p, headerZ.t, headerZ.g, headerZ.s, headerZ.r, headerZ.b]).num headerZ.o := rfl; rw [← e2] at h3; simp only [List.length_cons, List.length_nil] at h1 h2; rw [e]; omega
theorem motion_len (S : Out) : (S.motion motionZ).b.length ≤ S.b.length + 120 := by
 have h1 := nums_len [motionZ.r, motionZ.f] S; have h2 := block_len (S.nums [motionZ.r, motionZ.f]); have h3 := nil_len ((S.nums [motionZ.r, motionZ.f]).block blockZ) 1 Out.cert; have e : (S.motion motionZ).b.length = (((S.nums [motionZ.r, motionZ.f]).block blockZ).list [] 1 Out.cert).b.length := rfl; simp only [List.length_cons, List.length_nil] at h1; omega
theorem known_len (S : Out) : (S.known knownZ).b.length ≤ S.b.length + 160 := by
 have h1 := nums_len [certZ.h, certZ.r, certZ.s] S; have h2 := flag_len (S.nums [certZ.h, certZ.r, certZ.s]) certZ.has; have h3 := dig_len ((S.nums [certZ.h, certZ.r, certZ.s]).flag certZ.has) certZ.b; have h4 := nil_len (((S.nums [certZ.h, certZ.r, certZ.s]).flag certZ.has).dig certZ.b) 7 Out.num; have h5 := block_len (S.cert certZ); have e : (S.cert certZ).b.length = ((((S.nums [certZ.h, certZ.r, certZ.s]).flag certZ.has).dig certZ.b).list [] 7 Out.num).b.length := rfl; have e2 : S.known knownZ = (S.cert certZ).block blockZ := rfl; simp only [List.length_cons, List.length_nil] at h1; rw [e2]; omega
theorem recO_len (k : Int) (v : VoteD) : (recO k v).rs.length ≤ 200 := by
 have h0 : (recO k v).rs.length ≤ (recO k v).b.length := by
  unfold Out.rs; split
  ·exact Nat.zero_le _
  ·split
   ·exact Nat.zero_le _
   ·exact Nat.le_refl _
 refine Nat.le_trans h0 ?_; show (Out.what _ _).b.length ≤ 200; generalize hS : (((((Out.empty.num (recW k v).k).need _).need _).need _).need _) = S; have hb : S.b.length ≤ 6 := by rw [← hS]; exact num_len _ _
 unfold Out.what; have h1 := vote_len S v; have h2 := motion_len S; have h3 := known_len S; split
 ·show (S.vote v).b.length ≤ _; omega
 ·split
  ·show (S.motion motionZ).b.length ≤ _; omega
  ·split
   ·show (S.known knownZ).b.length ≤ _; omega
   ·omega
def appF (O : Out) (L : LogS) : Int × LogS := if ¬ O.re = 0 then (O.re, L) else if L.down = true then (27, L) else (if (L.append (frameL O.rs)).down = true then 27 else 0, L.append (frameL O.rs))
def AppC : Ctr := LogC (fun x : Int × VoteD => recordR.us (recW x.1 x.2)) (fun x => x.2.ok) (fun x L M rs => rs = [.i (appF (recO x.1 x.2) L).1] ∧ M = (appF (recO x.1 x.2) L).2) 50000000000000
theorem rec_inj : ∀ x y : Int × VoteD, recordR.us (recW x.1 x.2) = recordR.us (recW y.1 y.2) → x = y := by
 rintro ⟨k, h, r, s, t, b, f⟩ ⟨k', h', r', s', t', b', f'⟩ he; simp only [recordR, recW, List.cons.injEq, U.i.injEq, U.b.injEq] at he; obtain ⟨rfl, rfl, rfl, rfl, rfl, rfl, rfl, _⟩ := he; rfl
theorem recW_held {v : VoteD} (k : Int) (hv : v.ok) (w : World) : recordR.held w (recW k v) := ⟨⟨hv, motionZ_held _ _, knownZ_held _ _⟩, fun _ => ⟨rfl, rfl⟩⟩
theorem recW_lim (k : Int) (v : VoteD) : recordK.lim (recW k v) := (by decide : 1 + 7 + motionM motionZ + knownM knownZ + 1 ≤ 240000)
def cfg_append : Cfg := { con := [(65, 1), (66, 0), (59, 0)], retire := [25], lents := [(59, [(0, 112)])], mine := [(0, 112)], rcells := [(0, 0, 5), (0, 1, 5)], mrows := [(0, 0, 5), (0, 1, 5)], lrows := [(59, [(0, 0, 5), (0, 1, 5)])] }
def vcd_append : { v : VC // vcOfP Tryz.prog cfg_append [(6, [1000004, 20, 17, 25, 29, 1008002, 41])] 20 = v } := by refine ⟨?v, ?h⟩; rotate_left; conv => lhs; reduce
theorem vce_append : vcOf Tryz.prog cfg_append 20 = vcd_append.1 := by kernel_rfl
set_option maxHeartbeats 2000000 in
theorem append_keeps : KeepsR Tryz.prog 20 AppC [(0, 112)] [(0, 0, 5), (0, 1, 5)] := by
 refine keepsR_v Tryz.func20 cfg_append vce_append [.p, .i, .i, .i, .i, .b, .i, .i, .i, .i, .i, .i, .i, .i, .i, .i, .i, .i, .i, .p, .n, .n, .p, .n, .n, .p, .n, .n, .i, .i, .i, .b, .i, .p, .n, .n, .i, .i, .i, .i, .i, .i, .i, .i, .i, .p, .n, .n, .p, .n, .n, .l, .l, .p, .n, .n, .p, .n, .n, .i, .i, .b] AppC [(65, PutC recordK), (66, FrameC), (59, ActC)] ⟨kputrecord_ok, frame_keeps, act_keeps, trivial⟩ (by kernel_rfl) (fun _ _ _ h => h) ?_; intro x0 x1 x2 x3 x4 x5 x6 x7 x8 x9 x10 x11 x12 x13 x14 x15 x16 x17 x18 x19 x20 x21 x22 x23 x24 x25 x26 x27 x28 x29 x30 x31 x32 x33 x34 x35 x36 x37 x38 x39 x40 x41 x42 x43 x44 x45 x46 x47 x48 x49 x50 x51 x52 x53 x54 x55 x56 x57 x58 x59 x60 x61 w hp; refine ⟨[], vc_use ?Q ?h ?g⟩
 case h => intro O C s I b; conv => lhs; reduce
 dsimp only [std]; simp only [ctrOf, invOf, List.lookup, Nat.reduceBEq, Option.getD_some, Int.reduceOfNat, Int.reduceNegSucc]; obtain ⟨a, ⟨k, v⟩, L, p, q, c, d, he, ⟨hok, hs⟩, hv⟩ := hp; have he := he.symm; simp only [recordR, recW, motionZ, knownZ, blockZ, headerZ, certZ, List.length_nil, List.reverse_cons, List.reverse_nil, logU, List.cons_append, List.nil_append, List.cons.injEq, U.p.injEq, U.i.injEq, U.l.injEq, U.n.injEq, U.b.injEq, and_true] at he; obtain ⟨rfl, rfl, rfl, rfl, rfl, rfl, rfl, rfl, rfl, rfl, rfl, rfl, rfl, rfl, rfl, rfl, rfl, rfl, rfl, rfl, rfl, rfl, rfl, rfl, rfl, rfl, rfl, rfl, rfl, rfl, rfl, rfl, rfl, rfl, rfl, rfl, rfl, rfl, rfl, rfl, rfl, rfl, rfl, rfl, rfl, rfl, rfl, rfl, rfl, rfl, rfl, rfl, rfl, rfl, rfl, rfl, rfl, rfl, rfl, rfl, rfl, rfl⟩ := he; unfold LogS.size at hs; have hP : ∀ M p' q' c' d' e, (e, M) = appF (recO k v) L → AppC.post (.p a :: recordR.us (recW k v) ++ logU L p q c d) (.i e :: logU M p' q' c' d') := fun M p' q' c' d' e he =>
  LogC.post_of (us := fun x : Int × VoteD => recordR.us (recW x.1 x.2)) (x := (k, v)) rec_inj M p' q' c' d' [.i e] rfl ⟨by rw [← he], by rw [← he]⟩
 have hlen := recO_len k v; refine ⟨Option RecordD, some (recW k v), fun w _ => ⟨recW k v, some (recW k v), rfl, recW_held k hv w, recW_lim k v, fun y h => Option.some.inj h⟩, ?_⟩; intro x63 x64 h; obtain ⟨o, s, e, g1, g2, g3⟩ := h; have g1 : some (U.g (some (recW k v))) = some (U.g o) := g1; obtain rfl := g_inj g1; simp only [List.cons.injEq, U.s.injEq, U.i.injEq, and_true] at g2; obtain ⟨rfl, rfl⟩ := g2; obtain ⟨rfl, rfl⟩ := g3 _ rfl; clear g3 g1 he; have hO : recordK.out (recW k v) = recO k v := rfl; simp only [hO]; generalize recO k v = O at *; have hl2 : (frameL O.rs).length ≤ 212 := by rw [frameL_len]; omega
 refine ⟨fun h1 => ⟨hP L p q c d _ ?_, fun _ _ => trivial⟩, fun h1 => ⟨fun h2 => ⟨hP L p q c d _ ?_, fun _ _ => trivial⟩, fun h2 => ⟨fun w _ => ⟨_, rfl, ?_⟩, ?_⟩⟩⟩
 ·unfold appF; rw [if_pos h1]
 ·unfold appF; rw [if_neg (fun h => h h1), if_pos h2]
 ·rw [bs_size]; omega
 intro x65 x66 x67 h; obtain ⟨A, cc, g⟩ := h _ rfl; simp only [bs_data, List.cons.injEq, U.p.injEq, U.n.injEq, and_true] at g; obtain ⟨rfl, rfl, rfl⟩ := g; refine ⟨bV (frameL O.rs), fun w hw => ⟨_, (bs_data O.rs) ▸ hw.2 _ _ _ _ rfl rfl⟩, bV_one _, by omega, by omega, ?_⟩; intro x69 x70 a1; have hL : ([.p a1, .l (bV L.safe), .l (bV L.loose ++ bV (frameL O.rs)), .p p, .n L.safe.length, .n c, .p x69, .n (L.loose.length + (frameL O.rs).length), .n x70, .i L.left, .i L.keep, .b L.down] : List U) = .p a1 :: [] ++ logU { L with loose := L.loose ++ frameL O.rs } p x69 c x70 := by
  rw [bV_app, ← List.length_append]; rfl
 rw [hL]; refine ⟨fun w _ => ⟨a1, (), { L with loose := L.loose ++ frameL O.rs }, p, x69, c, x70, rfl, ⟨⟨fun hd => absurd hd h2, hok.2⟩, ?_⟩, trivial⟩, ?_⟩
 ·simp only [LogS.size, List.length_append, big]; omega
 intro y0 y1 y2 y3 y4 y5 y6 y7 y8 y9 y10 y11 h; obtain ⟨M, p', q', c', d', rs, e1, rfl, rfl⟩ := h a1 () { L with loose := L.loose ++ frameL O.rs } p x69 c x70 rfl
 have e2 : LogS.act { L with loose := L.loose ++ frameL O.rs } = L.append (frameL O.rs) := by
  unfold LogS.append; rw [if_neg h2]
 rw [e2] at e1; have e1 := e1.symm; simp only [logU, List.cons_append, List.nil_append, List.cons.injEq, U.p.injEq, U.i.injEq, U.l.injEq, U.n.injEq, U.b.injEq, and_true] at e1; obtain ⟨rfl, rfl, rfl, rfl, rfl, rfl, rfl, rfl, rfl, rfl, rfl, rfl⟩ := e1; refine ⟨fun h3 => ⟨hP (L.append (frameL O.rs)) p' q' c' d' _ ?_, fun _ _ => trivial⟩, fun h3 => ⟨hP (L.append (frameL O.rs)) p' q' c' d' _ ?_, fun _ _ => trivial⟩⟩
 ·have h3 : (L.append (frameL O.rs)).down = true := by simpa using h3
  unfold appF; rw [if_neg (fun h => h h1), if_neg h2, if_pos h3]
 ·have h3 : ¬ (L.append (frameL O.rs)).down = true := by simpa using h3
  unfold appF; rw [if_neg (fun h => h h1), if_neg h2, if_neg h3]
end Go.Proofs.YtjhaafbbdgjagaaGreat
namespace Go.Proofs.YtjhaafbbdgjagaaGreat
open Go.RowKit Vc
set_option maxRecDepth 100000
theorem take3 {A : List U} {x y z : U} {l : List U} (h : (A ++ [x, y, z]).reverse.take 3 = l) : l = [z, y, x] := by subst h; simp
theorem ghost_put {D : Type} {K : Knd D} {y : Option D} {A : List U} {b : ByteArray} {f : Int} (h : (PutC K).post (A ++ [.g y]) [.s b, .i f]) : ∀ x, y = some x → b = bs (K.out x).rs ∧ f = (K.out x).re := by
 obtain ⟨o, s, e, h1, h2, h3⟩ := h; rw [last_g] at h1; simp only [Option.some.injEq, U.g.injEq, heq_eq_eq, true_and] at h1; simp only [List.cons.injEq, U.s.injEq, U.i.injEq, and_true] at h2; obtain ⟨rfl, rfl⟩ := h2; exact fun x hx => h3 x (h1.symm.trans hx)
section
variable {D : Type} {K : Knd D} {put : D → Int} {z : D} {s : ByteArray} {p1 : Option Addr} {A : List U} {s1 : ByteArray} {a e : Int}
theorem rg_put (h : (refC K.R K.lim).post [.p p1, .s s, .i 0, .i 0] (A ++ [.s s1, .i a, .i e])) :
  ∃ o : Option D, (∀ w, (refC K.R K.lim).fact [.p p1, .s s, .i 0, .i 0] (A ++ [.s s1, .i a, .i e]) w → (PutC K).pre (A ++ [.g o]) w) ∧ ∀ q c, (PutC K).post (A ++ [.g o]) [.s q, .i c] → e = 0 → ∀ y, Reads (Rel s 0 0) K.R.p (Rel s a e) y → c = (K.out y).re := by
 obtain ⟨y, a', e', ho, ok, W⟩ := h; have ho := take3 ho; simp only [List.cons.injEq, U.i.injEq, U.s.injEq, and_true] at ho; obtain ⟨rfl, rfl, rfl⟩ := ho; refine ⟨if e' = 0 then some y else none, fun w hw => ?_, fun q c hc h0 y' W' => ?_⟩
 ·obtain ⟨x, a2, e2, hq, P, L, H⟩ := hw; obtain ⟨rfl, hq1⟩ := List.append_inj' hq rfl; cases hq1; refine ⟨x, _, rfl, H, L, fun y1 hy => ?_⟩; split at hy
  ·next he =>
   cases hy; rw [Rel.zero he] at P W; exact reads_det P W
  ·cases hy
 ·have := (ghost_put hc y (by rw [if_pos h0])).2; rw [Rel.zero h0] at W W'; rw [this, reads_det W W']
theorem rg_end (hz : ∀ w, K.R.held w z) (lz : K.lim z) (zst : K.R.strip z = z) (h : (refC K.R K.lim).post [.p p1, .s s, .i 0, .i 0] (A ++ [.s s1, .i a, .i e])) {c : Int} (hc : e = 0 → ∀ y, Reads (Rel s 0 0) K.R.p (Rel s a e) y → c = put y) {p2 : Option Addr} {e3 : Int} {s3 : ByteArray} {a3 e4 : Int} (hr : REndS.post [.p p2, .i c, .s s1, .i a, .i e] [.i e3, .s s3, .i a3, .i e4]) :
  (¬ e3 = 0 → (GetC K put z).post [.s s] (K.R.us z ++ [.i e3]) ∧ ∀ w, (GetC K put z).fact [.s s] (K.R.us z ++ [.i e3]) w) ∧ (e3 = 0 → (GetC K put z).post [.s s] (A ++ [.i e3]) ∧ ∀ w, (refC K.R K.lim).fact [.p p1, .s s, .i 0, .i 0] (A ++ [.s s1, .i a, .i e]) w → (GetC K put z).fact [.s s] (A ++ [.i e3]) w) := by
 obtain ⟨y, a', e', ho, ok, W⟩ := h; have ho := take3 ho; simp only [List.cons.injEq, U.i.injEq, U.s.injEq, and_true] at ho; obtain ⟨rfl, rfl, rfl⟩ := ho; have hr : _ = rendO _ := hr; simp only [rendO, List.cons.injEq, U.i.injEq, and_true] at hr; obtain ⟨n1, n2⟩ := get_end (p := K.R.p) (put := put) W ok hr.1 fun h => hc h y W
 refine ⟨fun h => ?_, fun h => ?_⟩
 ·have E := n1 h; refine ⟨?_, fun w => ⟨z, ?_, hz w, lz, ?_⟩⟩
  ·show (K.R.us z ++ [U.i e3]).getLast? = some (U.i (errOf (pWhole K.R.p put s))); rw [E]; simp [errOf]
  ·rw [E]; rfl
  ·rw [E]; exact zst
 ·obtain ⟨E, he⟩ := n2 h; refine ⟨?_, fun w hw => ?_⟩
  ·show (A ++ [U.i e3]).getLast? = some (U.i (errOf (pWhole K.R.p put s))); rw [E, h]; simp [errOf]
  ·obtain ⟨x, a2, e2, hq, P, L, H⟩ := hw; obtain ⟨rfl, hq1⟩ := List.append_inj' hq rfl; cases hq1; rw [Rel.zero he] at P W; have sx := reads_det P W; exact ⟨x, by rw [E, h]; rfl, H, L, by rw [E]; exact sx⟩
end
def recordZ0 : RecordD := ⟨0, voteZ, motionZ, knownZ⟩
theorem recordZ0_held (w : World) : recordR.held w recordZ0 := ⟨⟨voteZ_ok, motionZ_held _ _, knownZ_held _ _⟩, fun _ => ⟨rfl, rfl⟩⟩
def cfg_rgrecord : Cfg := { con := [(141, 0), (64, 1), (68, 0)], lents := [(141, [(0, 122)]), (68, [(0, 122)])] }
def vcd_rgrecord : { v : VC // vcOf Tryz.prog cfg_rgrecord 63 = v } := by refine ⟨?v, ?h⟩; rotate_left; conv => lhs; reduce
theorem vce_rgrecord : vcOf Tryz.prog cfg_rgrecord 63 = vcd_rgrecord.1 := vcd_rgrecord.2
theorem rgetrecord_ok : Keeps Tryz.prog 63 (GetC recordK (fun y => (recordK.out y).re) recordZ0) := by
 refine keeps_v Tryz.func63 cfg_rgrecord vce_rgrecord [.s] (GetC recordK (fun y => (recordK.out y).re) recordZ0) [(141, refC recordR lim_record), (64, PutC recordK), (68, REndS)] ⟨rrecord_ok, krputrecord_ok, rend_ok, trivial⟩ (by kernel_rfl) (fun _ _ _ h _ => h) ?_; intro s w hp; refine ⟨[], vc_use ?Q ?h ?g⟩
 case h => intro O C s I b; conv => lhs; reduce
 dsimp only [std]; simp only [ctrOf, invOf, List.lookup, Nat.reduceBEq, Option.getD_some, Int.reduceOfNat, Int.reduceNegSucc]; refine fun p1 => ⟨fun _ _ => ⟨by decide, by omega, hp⟩, fun l0 l1 l2 l3 l4 l5 l6 l7 l8 l9 l10 l11 l12 l13 l14 l15 l16 l17 l18 l19 l20 l21 l22 l23 l24 l25 l26 l27 l28 l29 l30 l31 l32 l33 l34 l35 l36 l37 l38 l39 l40 l41 l42 l43 l44 l45 l46 l47 l48 l49 s1 a e h => ?_⟩
 obtain ⟨o, h1, h2⟩ := rg_put (K := recordK) (A := [.i l0, .i l1, .i l2, .i l3, .b l4, .i l5, .i l6, .i l7, .i l8, .i l9, .i l10, .i l11, .i l12, .i l13, .i l14, .i l15, .i l16, .i l17, .p l18, .n l19, .n l20, .p l21, .n l22, .n l23, .p l24, .n l25, .n l26, .i l27, .i l28, .i l29, .b l30, .i l31, .p l32, .n l33, .n l34, .i l35, .i l36, .i l37, .i l38, .i l39, .i l40, .i l41, .i l42, .i l43, .p l44, .n l45, .n l46, .p l47, .n l48, .n l49]) h; refine ⟨_, o, fun w hw => h1 w hw.2, fun q c hc p2 => ⟨fun _ _ => trivial, fun e3 s3 a3 e4 hr => ?_⟩⟩; have d := rg_end (p1 := p1) (s := s) (s1 := s1) (a := a) (e := e) (K := recordK) (z := recordZ0) (A := [.i l0, .i l1, .i l2, .i l3, .b l4, .i l5, .i l6, .i l7, .i l8, .i l9, .i l10, .i l11, .i l12, .i l13, .i l14, .i l15, .i l16, .i l17, .p l18, .n l19, .n l20, .p l21, .n l22, .n l23, .p l24, .n l25, .n l26, .i l27, .i l28, .i l29, .b l30, .i l31, .p l32, .n l33, .n l34, .i l35, .i l36, .i l37, .i l38, .i l39, .i l40, .i l41, .i l42, .i l43, .p l44, .n l45, .n l46, .p l47, .n l48, .n l49]) recordZ0_held (by show recordM _ ≤ 240000; decide) rfl h (h2 q c hc) hr
 exact ⟨fun h => ⟨(d.1 h).1, fun w _ => (d.1 h).2 w⟩, fun h => ⟨(d.2 h).1, fun w hw => (d.2 h).2 w hw.1.1.2⟩⟩
def ReadC {D : Type} (K : Knd D) (z : D) (fr fw : Nat) : Ctr where
 pre us _ := match us with
  | [.s s, .v g, .v p] => Small s ∧ g = fnV fr ∧ p = fnV fw
  | _ => False
 post us os := match us with
  | [.s s, .v _, .v _] => os.getLast? = some (.i (errOf (pWhole K.R.p (fun y => (K.out y).re) s)))
  | _ => False
 fact us os w := match us with
  | [.s s, .v _, .v _] => ∃ x, os = K.R.us x ++ [.i (errOf (pWhole K.R.p (fun y => (K.out y).re) s))] ∧ K.R.held w x ∧ K.lim x ∧ K.R.strip x = gotOf z (pWhole K.R.p (fun y => (K.out y).re) s)
  | _ => False
def zv1 : C1 → Value
 | .int k _ => .int k 0
 | .bool _ => .bool false
 | .str _ => .string (bs [])
 | _ => .slice none 0 0
def zx1 : C1 → List X
 | .int _ _ => [.un (.co .i) (.int 0)]
 | .bool _ => [.un (.co .b) (.bool false)]
 | .str _ => [.un (.co .s) (.str [])]
 | _ => [.un (.co .p) .pnil, .un (.co .n) (.nat 0), .un (.co .n) (.nat 0)]
def zxOf (zs : List C1) : List X := zs.flatMap zx1 ++ [.un (.co .i) (.var 0)]
section
variable {D : Type} {K : Knd D} {z : D} {fr fw tS : Nat} {zx : List X} {s : ByteArray} {p1 : Option Addr} {A : List U} {r : ByteArray}
theorem rd_bad (hz : ∀ w, K.R.held w z) (lz : K.lim z) (zst : K.R.strip z = z) (hzx : ∀ c : Int, dens (fun _ => .i c) zx = K.R.us z ++ [.i c]) {c : Int} (hc : pWhole K.R.p (fun y => (K.out y).re) s = .error c) : (readC (ReadC K z fr fw) tS zx).pan [.s s, .v (fnV fr), .v (fnV fw)] [{ v := .iface tS (.int .i64 c), recovered := false }] := by
 refine ⟨c, rfl, ?_, fun u _ => ⟨z, ?_, hz u, lz, ?_⟩⟩
 ·show (dens (fun _ => .i c) zx).getLast? = _; rw [hzx, hc]; simp [errOf]
 ·rw [hzx, hc]; rfl
 ·rw [hc]; exact zst
theorem rd_body (hz : ∀ w, K.R.held w z) (lz : K.lim z) (zst : K.R.strip z = z) (hzx : ∀ c : Int, dens (fun _ => .i c) zx = K.R.us z ++ [.i c]) (hl : ∀ x t, K.R.p s = .ok (K.R.strip x, t) → K.lim x) (h : (elemC K.R).post [.p p1, .s s] (A ++ [.s r])) :
  (0 < (r.size : Int) → (readC (ReadC K z fr fw) tS zx).pan [.s s, .v (fnV fr), .v (fnV fw)] [{ v := .iface tS (.int .i64 4), recovered := false }]) ∧ (¬ 0 < (r.size : Int) → ∃ o : Option D, (∀ w, (elemC K.R).fact [.p p1, .s s] (A ++ [.s r]) w → (WriteC K fw).pre (A ++ [.v (fnV fw), .g o]) w) ∧ ∀ (q : ByteArray) (c : Int), (WriteC K fw).post (A ++ [.v (fnV fw), .g o]) [.s q, .i c] →
    (¬ c = 0 → (readC (ReadC K z fr fw) tS zx).pan [.s s, .v (fnV fr), .v (fnV fw)] [{ v := .iface tS (.int .i64 c), recovered := false }]) ∧ (c = 0 → (ReadC K z fr fw).post [.s s, .v (fnV fr), .v (fnV fw)] (A ++ [.i 0]) ∧ ∀ w, (elemC K.R).fact [.p p1, .s s] (A ++ [.s r]) w → (ReadC K z fr fw).fact [.s s, .v (fnV fr), .v (fnV fw)] (A ++ [.i 0]) w)) := by
 obtain ⟨y, r1, g, gl⟩ := h; obtain rfl : r = r1 := by simpa using gl
 have key : ∀ w, (elemC K.R).fact [.p p1, .s s] (A ++ [.s r]) w → ∃ x, A = K.R.us x ∧ K.R.held w x ∧ K.lim x ∧ K.R.strip x = y := by
  rintro w ⟨x, r2, hq, P, H⟩; obtain ⟨rfl, _⟩ := List.append_inj' hq rfl; refine ⟨x, rfl, H, hl x r2 P, ?_⟩; rw [P] at g; simp only [Except.ok.injEq, Prod.mk.injEq] at g; exact g.1
 refine ⟨fun hr => rd_bad hz lz zst hzx (by unfold pWhole; rw [g]; dsimp only; rw [if_pos (by omega)]), fun hr => ⟨some y, fun w hw => ?_, fun q c hc => ⟨fun h => ?_, fun h => ?_⟩⟩⟩
 ·obtain ⟨x, rfl, H, L, sx⟩ := key w hw; exact ⟨x, some y, rfl, H, L, fun y1 h1 => by cases h1; exact sx⟩
 all_goals
  obtain ⟨o, s5, e5, g1, g2, g3⟩ := hc; rw [show A ++ [U.v (fnV fw), U.g (some y)] = (A ++ [U.v (fnV fw)]) ++ [U.g (some y)] by simp, last_g] at g1; simp only [Option.some.injEq, U.g.injEq, heq_eq_eq, true_and] at g1; cases g2; obtain ⟨-, rfl⟩ := g3 y g1.symm
 ·exact rd_bad hz lz zst hzx (by unfold pWhole; rw [g]; dsimp only; rw [if_neg (by omega), if_neg h])
 ·have E : pWhole K.R.p (fun y => (K.out y).re) s = .ok y := by unfold pWhole; rw [g]; dsimp only; rw [if_neg (by omega), if_pos h]
  refine ⟨?_, fun w hw => ?_⟩
  ·show (A ++ [U.i 0]).getLast? = _; rw [E]; simp [errOf]
  ·obtain ⟨x, rfl, H, L, sx⟩ := key w hw; exact ⟨x, by rw [E]; rfl, H, L, by rw [E]; exact sx⟩
end
def cfg_rdrecord : Cfg := { con := [(204, 0), (143, 1)], lents := [(204, [(0, 208)])], mine := [(6, 66), (7, 22)], pans := [204], fns := [(17, 204)], keepB := [(6, 66, 38), (7, 22, 1)] }
def zs_rdrecord : List C1 := [.int .i64 (.int 0), .int .i64 (.int 0), .int .i64 (.int 0), .int .i64 (.int 0), .bool (.bool false), .int .u64 (.int 0), .int .i64 (.int 0), .int .i64 (.int 0), .int .i64 (.int 0), .int .i64 (.int 0), .int .i64 (.int 0), .int .u64 (.int 0), .int .u64 (.int 0), .int .u64 (.int 0), .int .u64 (.int 0), .int .u64 (.int 0), .int .u64 (.int 0), .int .i64 (.int 0), .slc .pnil (.nat 0) (.nat 0), .slc .pnil (.nat 0) (.nat 0), .slc .pnil (.nat 0) (.nat 0), .int .i64 (.int 0), .int .i64 (.int 0), .int .i64 (.int 0), .bool (.bool false), .int .u64 (.int 0), .slc .pnil (.nat 0) (.nat 0), .int .i64 (.int 0), .int .i64 (.int 0), .int .u64 (.int 0), .int .u64 (.int 0), .int .u64 (.int 0), .int .u64 (.int 0), .int .u64 (.int 0), .int .u64 (.int 0), .int .i64 (.int 0), .slc .pnil (.nat 0) (.nat 0), .slc .pnil (.nat 0) (.nat 0)]
def vcd_rdrecord : { v : VC // exec Tryz.prog cfg_rdrecord (restOf Tryz.prog 203) (readS (fnOf Tryz.prog 203) [.one .str, .one .val, .one .val] 66 22 zs_rdrecord) (readK Tryz.prog (fnOf Tryz.prog 203) [.agg [.int .i64, .int .i64, .int .i64, .int .i64, .bool, .int .u64, .int .i64, .int .i64, .int .i64, .int .i64, .int .i64, .int .u64, .int .u64, .int .u64, .int .u64, .int .u64, .int .u64, .int .i64, .slc, .slc, .slc, .int .i64, .int .i64, .int .i64, .bool, .int .u64, .slc, .int .i64, .int .i64, .int .u64, .int .u64, .int .u64, .int .u64, .int .u64, .int .u64, .int .i64, .slc, .slc], .one (.int .i64)]) = v } := by refine ⟨?v, ?h⟩; rotate_left; conv => lhs; reduce
theorem rdrecord_ok : Keeps Tryz.prog 203 (ReadC recordK recordZ0 204 144) := by
 refine keeps_read (zv := zs_rdrecord.map zv1) (zx := zxOf zs_rdrecord) (zs := zs_rdrecord) (n := 38) (pin := [.one .str, .one .val, .one .val]) (pout := [.agg [.int .i64, .int .i64, .int .i64, .int .i64, .bool, .int .u64, .int .i64, .int .i64, .int .i64, .int .i64, .int .i64, .int .u64, .int .u64, .int .u64, .int .u64, .int .u64, .int .u64, .int .i64, .slc, .slc, .slc, .int .i64, .int .i64, .int .i64, .bool, .int .u64, .slc, .int .i64, .int .i64, .int .u64, .int .u64, .int .u64, .int .u64, .int .u64, .int .u64, .int .i64, .slc, .slc], .one (.int .i64)]) (T := 66) (tE := 22) (tS := 205) Tryz.func203 rfl Tryz.func260 rfl rfl rfl (by kernel_rfl) (by kernel_rfl) ⟨_, rfl, rfl⟩ (by kernel_rfl) (by kernel_rfl) (fun _ _ => rfl) rfl (by kernel_rfl) (by kernel_rfl) rfl (by decide) (by decide) (by kernel_rfl) (by kernel_rfl) (by kernel_rfl) (fun _ => by kernel_rfl) cfg_rdrecord rfl rfl (v := vcd_rdrecord.1) (by kernel_rfl) (ReadC recordK recordZ0 204 144) rfl [(204, elemC recordR), (143, WriteC recordK 144)] ⟨precord_ok, kwriterecord_ok, trivial⟩ rfl (fun _ _ _ h _ => h) ?_
 intro s x1 x2 w hp; refine ⟨[], fun base => vc_use ?Q ?h ?g⟩
 case h => intro O C s I b; conv => lhs; reduce
 dsimp only [std]; simp only [ctrOf, invOf, List.lookup, Nat.reduceBEq, Option.getD_some, Int.reduceOfNat, Int.reduceNegSucc]; obtain ⟨hs, rfl, rfl⟩ : Small s ∧ x1 = fnV _ ∧ x2 = fnV _ := hp; refine ⟨rfl, fun p1 => ⟨fun ch ⟨e, h1, h2⟩ => h2 ▸ rd_bad (K := recordK) (z := recordZ0) (recordZ0_held) (by show recordM _ ≤ 240000; decide) rfl (fun _ => rfl) (by unfold pWhole; rw [show recordK.R.p s = _ from h1]), fun _ _ => hs, fun l0 l1 l2 l3 l4 l5 l6 l7 l8 l9 l10 l11 l12 l13 l14 l15 l16 l17 l18 l19 l20 l21 l22 l23 l24 l25 l26 l27 l28 l29 l30 l31 l32 l33 l34 l35 l36 l37 l38 l39 l40 l41 l42 l43 l44 l45 l46 l47 l48 l49 r h => ?_⟩⟩; have d := rd_body (p1 := p1) (s := s) (r := r) (A := [.i l0, .i l1, .i l2, .i l3, .b l4, .i l5, .i l6, .i l7, .i l8, .i l9, .i l10, .i l11, .i l12, .i l13, .i l14, .i l15, .i l16, .i l17, .p l18, .n l19, .n l20, .p l21, .n l22, .n l23, .p l24, .n l25, .n l26, .i l27, .i l28, .i l29, .b l30, .i l31, .p l32, .n l33, .n l34, .i l35, .i l36, .i l37, .i l38, .i l39, .i l40, .i l41, .i l42, .i l43, .p l44, .n l45, .n l46, .p l47, .n l48, .n l49]) (fr := 204) (fw := 144) (tS := 205) (zx := zxOf zs_rdrecord) (K := recordK) (z := recordZ0) (recordZ0_held) (by show recordM _ ≤ 240000; decide) rfl (fun _ => rfl) (fun x _ P => show recordM _ ≤ 240000 from recordM_strip x ▸ (show lim_record (recordR.strip x) from precord_lim _ _ _ P)) h
 refine ⟨d.1, fun hr => ?_⟩; obtain ⟨o, h1, h2⟩ := d.2 hr; exact ⟨_, o, fun w hw => h1 w hw.2, fun q c hc => ⟨(h2 q c hc).1, fun h => ⟨((h2 q c hc).2 h).1, fun w hw => ((h2 q c hc).2 h).2 w hw.1.2⟩⟩⟩
def cfg_wgrecord : Cfg := { con := [(203, 0)] }
def vcd_wgrecord : { v : VC // vcOf Tryz.prog cfg_wgrecord 120 = v } := by refine ⟨?v, ?h⟩; rotate_left; conv => lhs; reduce
theorem vce_wgrecord : vcOf Tryz.prog cfg_wgrecord 120 = vcd_wgrecord.1 := vcd_wgrecord.2
theorem wgetrecord_ok : Keeps Tryz.prog 120 (GetC recordK (fun y => (recordK.out y).re) recordZ0) := by
 refine keeps_v Tryz.func120 cfg_wgrecord vce_wgrecord [.s] (GetC recordK (fun y => (recordK.out y).re) recordZ0) [(203, ReadC recordK recordZ0 204 144)] ⟨rdrecord_ok, trivial⟩ (by kernel_rfl) (fun _ _ _ h _ => h) ?_; intro s w hp; refine ⟨[], vc_use ?Q ?h ?g⟩
 case h => intro O C s I b; conv => lhs; reduce
 dsimp only [std]; simp only [ctrOf, invOf, List.lookup, Nat.reduceBEq, Option.getD_some, Int.reduceOfNat, Int.reduceNegSucc]; have hs : Small s := hp; exact ⟨fun _ _ => ⟨hs, rfl, rfl⟩, fun l0 l1 l2 l3 l4 l5 l6 l7 l8 l9 l10 l11 l12 l13 l14 l15 l16 l17 l18 l19 l20 l21 l22 l23 l24 l25 l26 l27 l28 l29 l30 l31 l32 l33 l34 l35 l36 l37 l38 l39 l40 l41 l42 l43 l44 l45 l46 l47 l48 l49 e h => ⟨h, fun w ⟨_, f⟩ => f⟩⟩
end Go.Proofs.YtjhaafbbdgjagaaGreat
namespace Go.Proofs.YtjhaafbbdgjagaaGreat
open Go Go.RowKit Vc
set_option maxRecDepth 100000
def lenL (l : List UInt8) : Nat := numOf (l.take 4)
def firstL (l : List UInt8) : Option (RecordD × List UInt8) :=
 if l.length < 12 then none else
 if l.length - 12 < lenL l then none else
 if frameL ((l.drop 12).take (lenL l)) = l.take (12 + lenL l) then
  if errOf (pWhole recordR.p (fun y => (recordK.out y).re) (bs ((l.drop 12).take (lenL l)))) = 0 then some (gotOf recordZ0 (pWhole recordR.p (fun y => (recordK.out y).re) (bs ((l.drop 12).take (lenL l)))), l.drop (12 + lenL l)) else none
 else none
theorem firstL_len {l r : List UInt8} {y : RecordD} (h : firstL l = some (y, r)) : ∃ k, 12 ≤ k ∧ k ≤ l.length ∧ r = l.drop k := by
 unfold firstL at h; split at h
 ·cases h
 split at h
 ·cases h
 split at h
 ·split at h
  ·injection h with h
   injection h with _ h
   exact ⟨_, by omega, by omega, h.symm⟩
  ·cases h
 ·cases h
def behind (A : Option Addr) (c k : Nat) : Option Addr := bif ((c : Nat) : Int) == (k : Int) then A else A.map (·.add k)
theorem rd_behind {w : World} {B n c k : Nat} {A : Option Addr} {xs : List Value} (h : Rd w B 1 A n xs) (hn : n ≤ c) (hk : k ≤ n) : Rd w B 1 (behind A c k) (n - k) (xs.drop k) := by
 have := h.cut hk hn; rw [Nat.mul_one] at this; unfold behind
 by_cases e : c = k
 ·rw [if_pos e] at this; rw [show (((c : Nat) : Int) == (k : Int)) = true by simp [e]]; exact this
 ·rw [if_neg e] at this; rw [show (((c : Nat) : Int) == (k : Int)) = false by simp; omega]; exact this
theorem bV_drop (l : List UInt8) (k : Nat) : (bV l).drop k = bV (l.drop k) := by unfold bV; rw [List.map_drop]
theorem loads_rd' {w : World} {B size n : Nat} {A : Option Addr} {xs : List Value} (h : Rd w B size A n xs) (hn : 0 < n) {off : Nat} {part : List Value} (hp : ∀ j v, part[j]? = some v → xs[off + j]? = some v) : LoadsAt w (A.map (·.add off)) part := by
 obtain ⟨b, o, rfl, _, hc⟩ := h.2 hn; refine ⟨⟨b, o + off, none⟩, ?_, fun j v hv => ?_⟩
 ·show some ((⟨b, o, none⟩ : Addr).add off) = _; rw [add_plain]
 ·rw [add_plain, Nat.add_assoc]; exact hc _ v (hp j v hv)
theorem loads_b {w : World} {B n : Nat} {A : Option Addr} {l : List UInt8} (h : Rd w B 1 A n (bV l)) {k : Nat} (hk : k < l.length) : LoadsAt w (A.map (·.add k)) [Value.int .u8 l[k].toNat] := by
 have hn : (bV l).length = n := by rw [h.1, Nat.mul_one]
 rw [bV_len] at hn; refine loads_rd' h (by omega) fun j v hv => ?_
 cases j with
 | zero =>
  rw [Nat.add_zero]; unfold bV; rw [List.getElem?_map, List.getElem?_eq_getElem hk]; exact hv
 | succ j => cases hv
theorem loads_b0 {w : World} {B n : Nat} {A : Option Addr} {l : List UInt8} (h : Rd w B 1 A n (bV l)) (hk : 0 < l.length) : LoadsAt w A [Value.int .u8 l[0].toNat] := by
 have := loads_b h hk; obtain ⟨p, hp, hc⟩ := this; have hn : (bV l).length = n := by rw [h.1, Nat.mul_one]
 rw [bV_len] at hn; obtain ⟨b, o, rfl, _, _⟩ := h.2 (by omega); have e : (⟨b, o, none⟩ : Addr).add 0 = p := by simpa using hp
 rw [add_plain] at e; exact ⟨_, rfl, by rw [show (⟨b, o, none⟩ : Addr) = p from e]; exact hc⟩
theorem rd_not_nil {w : World} {B size n : Nat} {A : Option Addr} {xs : List Value} (h : Rd w B size A n xs) (hn : 0 < n) : ¬ (A.isNone = true) := by
 obtain ⟨b, o, rfl, _⟩ := h.2 hn; simp
theorem or_add (a b k : Nat) (hb : b < 2 ^ k) (h : 2 ^ k * a + b < 9223372036854775808) : bitsI .or .i64 ((2 ^ k * a : Nat) : Int) (b : Int) = ((2 ^ k * a + b : Nat) : Int) := by
 show IntKind.i64.wrap (((BitVec.ofInt 64 _ ||| BitVec.ofInt 64 _).toNat : Nat) : Int) = _; rw [BitVec.ofInt_natCast, BitVec.ofInt_natCast, BitVec.toNat_or, BitVec.toNat_ofNat, BitVec.toNat_ofNat, Nat.mod_eq_of_lt (by omega), Nat.mod_eq_of_lt (by omega), ← Nat.two_pow_add_eq_or_of_lt hb]; exact IntWalk.i64_in _ (by omega)
theorem shl_u8 (a k : Nat) (ha : a < 256) (hk : k ≤ 24) : shlI .i64 (IntKind.wrap .i64 (a : Int)) (k : Int) = ((2 ^ k * a : Nat) : Int) := by
 have h2 : 2 ^ k ≤ 2 ^ 24 := Nat.pow_le_pow_right (by decide) hk; have h3 : 2 ^ k * a ≤ 2 ^ 24 * 256 := Nat.mul_le_mul h2 (by omega); have h1 : (a : Int) * 2 ^ k = ((2 ^ k * a : Nat) : Int) := by rw [Nat.mul_comm, Int.natCast_mul, Int.natCast_pow]; rfl
 unfold shlI; rw [IntWalk.i64_in (a : Int) (by omega), Int.toNat_natCast, show min k (IntKind.bits .i64) = k from Nat.min_eq_left (by show k ≤ 64; omega), h1]; exact IntWalk.i64_in _ (by omega)
theorem be_nat (a b c d : Nat) (ha : a < 256) (hb : b < 256) (hc : c < 256) (hd : d < 256) :
  bitsI .or .i64 (bitsI .or .i64 (bitsI .or .i64 (shlI .i64 (IntKind.wrap .i64 (a : Int)) 24) (shlI .i64 (IntKind.wrap .i64 (b : Int)) 16)) (shlI .i64 (IntKind.wrap .i64 (c : Int)) 8)) (IntKind.wrap .i64 (d : Int)) = (((((a * 256 + b) * 256 + c) * 256 + d : Nat)) : Int) := by
 have e1 := shl_u8 a 24 ha (by decide); have e2 := shl_u8 b 16 hb (by decide); have e3 := shl_u8 c 8 hc (by decide); have f1 := or_add a (2 ^ 16 * b) 24 (by omega) (by omega); have f2 := or_add (256 * a + b) (2 ^ 8 * c) 16 (by omega) (by omega); have f3 := or_add (65536 * a + 256 * b + c) d 8 (by omega) (by omega); rw [show ((24 : Nat) : Int) = 24 from rfl] at e1; rw [show ((16 : Nat) : Int) = 16 from rfl] at e2; rw [show ((8 : Nat) : Int) = 8 from rfl] at e3; rw [e1, e2, e3, IntWalk.i64_in (d : Int) (by omega), f1, show 2 ^ 24 * a + 2 ^ 16 * b = 2 ^ 16 * (256 * a + b) by omega, f2, show 2 ^ 16 * (256 * a + b) + 2 ^ 8 * c = 2 ^ 8 * (65536 * a + 256 * b + c) by omega, f3]
 congr 1
 omega
theorem lenL_four (a b c d : UInt8) (l : List UInt8) : lenL (a :: b :: c :: d :: l) = ((a.toNat * 256 + b.toNat) * 256 + c.toNat) * 256 + d.toNat := by
 simp [lenL, numOf]
theorem lenL_bits (l : List UInt8) (h0 : 0 < l.length) (h1 : 1 < l.length) (h2 : 2 < l.length) (h3 : 3 < l.length) :
  bitsI .or .i64 (bitsI .or .i64 (bitsI .or .i64 (shlI .i64 (IntKind.wrap .i64 (l[0].toNat : Int)) 24) (shlI .i64 (IntKind.wrap .i64 (l[1].toNat : Int)) 16)) (shlI .i64 (IntKind.wrap .i64 (l[2].toNat : Int)) 8)) (IntKind.wrap .i64 (l[3].toNat : Int)) = (lenL l : Int) := by
 match l, h3 with
 | a :: b :: c :: d :: l, _ =>
  rw [lenL_four]; exact be_nat _ _ _ _ a.toNat_lt b.toNat_lt c.toNat_lt d.toNat_lt
def Ctr.wit (s : Ctr) : Ctr := { s with post := fun us os => s.post us os ∧ ∃ w, s.fact us os w }
theorem keeps_wit {P : Program} {f : Nat} {s : Ctr} (h : Keeps P f s) (mono : ∀ us w w', s.pre us w → Below w.heap.size w w' → s.pre us w') : Keeps P f (Ctr.wit s) := by
 intro fn pin pout h1 h2 h3 us w ht hp; refine (h fn pin pout h1 h2 h3 us w ht hp).mono ?_; rintro e w' ⟨os, o1, o2, o3, o4, o5⟩; exact ⟨os, o1, o2, ⟨o3, w', o4 w' (fun _ _ _ => rfl) (mono _ _ _ hp o5)⟩, o4, o5⟩
def GetRW : Ctr := Ctr.wit (GetC recordK (fun y => (recordK.out y).re) recordZ0)
theorem getrw_keeps : Keeps Tryz.prog 120 GetRW := keeps_wit wgetrecord_ok fun _ _ _ h _ => h
def FirstC : Ctr where
 gh := 1
 pre us w := ∃ A n c, ∃ l : List UInt8, us = [.p A, .n n, .n c, .g l] ∧ Rd w w.heap.size 1 A n (bV l) ∧ n ≤ c ∧ n ≤ 1000000000000
 post us os := ∀ A n c, ∀ l : List UInt8, us = [.p A, .n n, .n c, .g l] → match firstL l with
  | none => os.getLast? = some (.b false)
  | some (y, r) => ∃ x, os = recordR.us x ++ [.p (behind A c (l.length - r.length)), .n r.length, .n (c - (l.length - r.length)), .b true] ∧ recordR.strip x = y ∧ (x.k = 1 → x.motion = motionZ ∧ x.known = knownZ)
 fact _ _ _ := True
def cfg_first : Cfg := { con := [(66, 0), (120, 0)], own := 1 }
def vcd_first : { v : VC // vcOfP Tryz.prog cfg_first [(3, [1000023]), (7, [0, 1003005, 5, 9, 32]), (10, [1001006, 1, 29, 1008002])] 61 = v } := by refine ⟨?v, ?h⟩; rotate_left; conv => lhs; reduce
theorem vce_first : vcOf Tryz.prog cfg_first 61 = vcd_first.1 := by kernel_rfl
set_option maxHeartbeats 1000000 in
theorem first_keeps : Keeps Tryz.prog 61 FirstC := by
 refine keeps_v Tryz.func61 cfg_first vce_first [.p, .n, .n, .g] FirstC [(66, FrameC), (120, GetRW)] ⟨frame_keeps, getrw_keeps, trivial⟩ (by kernel_rfl) (fun us w w' h hb => by
  obtain ⟨A, n, c, l, e, r, q⟩ := h; exact ⟨A, n, c, l, e, (r.below hb).more hb.size, q⟩) ?_
 intro A n c α g w hp; refine ⟨[], vc_use ?Q ?h ?g⟩
 case h => intro O C s I b; conv => lhs; reduce
 dsimp only [std]; simp only [ctrOf, invOf, List.lookup, Nat.reduceBEq, Option.getD_some, Int.reduceOfNat, Int.reduceNegSucc]; obtain ⟨A', n', c', l, he, hr, hnc, hn⟩ := hp; simp only [List.reverse_cons, List.reverse_nil, List.nil_append, List.cons_append, List.cons.injEq, U.p.injEq, U.n.injEq, and_true] at he; obtain ⟨rfl, rfl, rfl, hg⟩ := he; cases hg; have hl : n = l.length := by have := hr.1; rw [bV_len, Nat.mul_one] at this; exact this.symm
 subst hl; have hK : ∀ w, FirstC.pre [.p A, .n l.length, .n c, .g l] w → Rd w w.heap.size 1 A l.length (bV l) := by
  rintro w ⟨A', n', c', l', he, hr, _⟩; simp only [List.cons.injEq, U.p.injEq, U.n.injEq, and_true] at he; obtain ⟨rfl, h2, rfl, hg⟩ := he; cases hg; rw [← h2] at hr; exact hr
 have hN : firstL l = none → ∀ os : List U, os.getLast? = some (.b false) → FirstC.post [.p A, .n l.length, .n c, .g l] os := by
  intro h os ho A' n' c' l' he; simp only [List.cons.injEq, U.p.injEq, U.n.injEq, and_true] at he; obtain ⟨rfl, h2, rfl, hg⟩ := he; cases hg; rw [h]; exact ho
 clear hr; refine ⟨fun h => ⟨hN (by unfold firstL; rw [if_pos (by omega)]) _ rfl, fun _ _ => trivial⟩, fun h => ?_⟩; have h0 : 0 < l.length := by omega
 have h1 : 1 < l.length := by omega
 have h2 : 2 < l.length := by omega
 have h3 : 3 < l.length := by omega
 refine ⟨fun w hw => rd_not_nil (hK w hw) h0, by omega, (l[0].toNat : Int), fun w hw => loads_b0 (hK w hw) h0, by omega, (l[1].toNat : Int), fun w hw => loads_b (hK w hw) h1, by omega, (l[2].toNat : Int), fun w hw => loads_b (hK w hw) h2, by omega, (l[3].toNat : Int), fun w hw => loads_b (hK w hw) h3, ⟨by omega, by omega⟩, ?_⟩; rw [lenL_bits l h0 h1 h2 h3]; have e3 : (12 + (lenL l : Int)) = ((12 + lenL l : Nat) : Int) := by omega
 simp only [e3, Int.toNat_natCast]; refine ⟨fun hb => ⟨hN (by unfold firstL; rw [if_neg (by omega), if_pos (by omega)]) _ rfl, fun _ _ => trivial⟩, fun hb => ⟨⟨by omega, by omega⟩, by omega, by omega, by omega, bs ((l.drop 12).take (lenL l)), fun w hw => ⟨w.heap.size, ?_⟩, bs (l.take (12 + lenL l)), fun w hw => ⟨w.heap.size, ?_⟩, fun w _ => ⟨_, rfl, ?_⟩, ?_⟩⟩
 ·have := (rd_behind (hK w hw) hnc (k := 12) (by omega)).take (k := lenL l) (by omega); rw [Nat.mul_one, bV_drop, bV_take] at this; rw [show 12 + lenL l - 12 = lenL l by omega]; exact this
 ·have := (hK w hw).take (k := 12 + lenL l) (by omega); rw [Nat.mul_one, bV_take] at this; exact this
 ·rw [bs_size, List.length_take]; omega
 intro x9 x10 x11 hf; obtain ⟨A2, c2, e⟩ := hf _ rfl; simp only [bs_data, List.cons.injEq, U.p.injEq, U.n.injEq, and_true] at e; obtain ⟨rfl, rfl, rfl⟩ := e; have hz : ((l.drop 12).take (lenL l)).length = lenL l := by rw [List.length_take, List.length_drop]; omega
 generalize hS : (l.drop 12).take (lenL l) = S at *; refine ⟨bs (frameL S), fun w hw => ⟨_, (bs_data S) ▸ hw.2 _ _ _ _ rfl rfl⟩, fun hq => ⟨hN ?_ _ rfl, fun _ _ => trivial⟩, fun hq => ⟨fun w _ => ?_, ?_⟩⟩
 ·rw [bs_toList, bs_toList, beq_iff_eq] at hq; unfold firstL; rw [if_neg (by omega), if_neg (by omega), hS, if_neg hq]
 ·show (bs S).size ≤ _; rw [bs_size]; omega
 rw [bs_toList, bs_toList, beq_iff_eq] at hq; intro y0 y1 y2 y3 y4 y5 y6 y7 y8 y9 y10 y11 y12 y13 y14 y15 y16 y17 y18 y19 y20 y21 y22 y23 y24 y25 y26 y27 y28 y29 y30 y31 y32 y33 y34 y35 y36 y37 y38 y39 y40 y41 y42 y43 y44 y45 y46 y47 y48 y49 e hg; obtain ⟨_, w1, x, hx, hh, hlim, hst⟩ := hg; have hx : ([.i y0, .i y1, .i y2, .i y3, .b y4, .i y5, .i y6, .i y7, .i y8, .i y9, .i y10, .i y11, .i y12, .i y13, .i y14, .i y15, .i y16, .i y17, .p y18, .n y19, .n y20, .p y21, .n y22, .n y23, .p y24, .n y25, .n y26, .i y27, .i y28, .i y29, .b y30, .i y31, .p y32, .n y33, .n y34, .i y35, .i y36, .i y37, .i y38, .i y39, .i y40, .i y41, .i y42, .i y43, .p y44, .n y45, .n y46, .p y47, .n y48, .n y49] : List U) ++ [U.i e] = _ := hx; obtain ⟨hx1, hx2⟩ := List.append_inj' hx rfl; have hF : firstL l = if errOf (pWhole recordR.p (fun y => (recordK.out y).re) (bs S)) = 0 then some (gotOf recordZ0 (pWhole recordR.p (fun y => (recordK.out y).re) (bs S)), l.drop (12 + lenL l)) else none := by
  unfold firstL; rw [if_neg (by omega), if_neg (by omega), hS, if_pos hq]
 injection hx2 with hx2
 injection hx2 with hx2
 refine ⟨by omega, by omega, by omega, fun A' n' c' l' he => ?_, fun _ _ => trivial⟩; simp only [List.cons.injEq, U.p.injEq, U.n.injEq, and_true] at he; obtain ⟨rfl, h5, rfl, hg⟩ := he; cases hg; rw [hF]
 by_cases h0 : errOf (pWhole recordR.p (fun y => (recordK.out y).re) (bs S)) = 0
 ·rw [if_pos h0]; refine ⟨x, ?_, hst, hh.2⟩; have e4 : l.length - (l.drop (12 + lenL l)).length = 12 + lenL l := by rw [List.length_drop]; omega
  have hz2 : (e == 0) = true := by rw [hx2]; exact beq_iff_eq.2 h0
  rw [e4, List.length_drop, ← hz2]; exact congrArg (fun q => q ++ [U.p (behind A c (12 + lenL l)), .n (l.length - (12 + lenL l)), .n (c - (12 + lenL l)), .b (e == 0)]) hx1
 ·rw [if_neg h0]; show some (U.b (e == 0)) = _; rw [hx2, show ((errOf (pWhole recordK.R.p (fun y => (recordK.out y).re) (bs S))) == 0) = false from beq_eq_false_iff_ne.2 h0]
def runL : Nat → List UInt8 → List RecordD × List UInt8
 | 0, l => ([], l)
 | f + 1, l => match firstL l with
  | none => ([], l)
  | some (y, r) => (y :: (runL f r).1, (runL f r).2)
def run (l : List UInt8) : List RecordD × List UInt8 := runL l.length l
theorem runL_more : ∀ (f g : Nat) (l : List UInt8), l.length ≤ f → l.length ≤ g → runL f l = runL g l
 | 0, 0, _, _, _ => rfl
 | 0, g + 1, l, h, _ => by
  have : firstL l = none := by unfold firstL; rw [if_pos (by omega)]
  simp only [runL, this]
 | f + 1, 0, l, _, h => by
  have : firstL l = none := by unfold firstL; rw [if_pos (by omega)]
  simp only [runL, this]
 | f + 1, g + 1, l, h1, h2 => by
  simp only [runL]; cases hf : firstL l with
  | none => rfl
  | some p =>
   obtain ⟨k, k1, k2, hr⟩ := firstL_len (y := p.1) (r := p.2) hf; have hl : p.2.length = l.length - k := by rw [hr, List.length_drop]
   dsimp only; rw [runL_more f g p.2 (by omega) (by omega)]
theorem run_none {l : List UInt8} (h : firstL l = none) : run l = ([], l) := by
 unfold run; cases hn : l.length with
 | zero => rfl
 | succ n => simp only [runL, h]
theorem run_some {l r : List UInt8} {y : RecordD} (h : firstL l = some (y, r)) : run l = (y :: (run r).1, (run r).2) := by
 obtain ⟨k, k1, k2, hr⟩ := firstL_len h; have hl : r.length = l.length - k := by rw [hr, List.length_drop]
 unfold run; cases hn : l.length with
 | zero => omega
 | succ n =>
  simp only [runL, h]; rw [runL_more n r.length r (by omega) (Nat.le_refl _)]
def LogS.begin (L : LogS) : LogS := { L.up with safe := L.up.safe.take (L.up.safe.length - (run L.up.safe).2.length) }
def IsVote (y : RecordD) : Prop := ∃ v : VoteD, v.ok ∧ y = recW 1 v
def Plain (l : List UInt8) : Prop := ∀ y ∈ (run l).1, IsVote y
theorem vote_exact {x : RecordD} (h : IsVote (recordR.strip x)) (hz : x.k = 1 → x.motion = motionZ ∧ x.known = knownZ) : recordR.strip x = x := by
 obtain ⟨v, hv, he⟩ := h; have hk : x.k = 1 := by
  have := congrArg RecordD.k he; exact this
 obtain ⟨h1, h2⟩ := hz hk; cases x; subst h1; subst h2; rfl
theorem votes_exact : ∀ {l : List RecordD}, (∀ y ∈ l.map recordR.strip, IsVote y) → (∀ x ∈ l, x.k = 1 → x.motion = motionZ ∧ x.known = knownZ) → l.map recordR.strip = l
 | [], _, _ => rfl
 | x :: l, h, g => by
  rw [List.map_cons, vote_exact (h _ (List.mem_cons_self ..)) (g x (List.mem_cons_self ..)), votes_exact (fun y hy => h y (List.mem_cons_of_mem _ hy)) fun y hy => g y (List.mem_cons_of_mem _ hy)]
def BeginC : Ctr := { LogC (fun _ : Unit => []) (fun _ => True) (fun _ L M rs => ∃ A cap, rs = [.p A, .n (run L.up.safe).1.length, .n cap] ∧ M = L.begin) 0 with
 pre := fun u _ => ∃ a L p q c d, u = .p a :: logU L p q c d ∧ L.Small 1000000000000 ∧ Plain L.up.safe
 fact := fun u o w => ∀ a L p q c d, u = .p a :: logU L p q c d → ∃ A cap rest, o = .p A :: .n (run L.up.safe).1.length :: .n cap :: rest ∧ Rd w w.heap.size 38 A (run L.up.safe).1.length ((run L.up.safe).1.flatMap recordR.cells) }
def joinInv (L : LogS) : Inv where
 inv us := us = [.n L.up.safe.length, .l (bV L.up.safe), .n L.up.loose.length, .l (bV L.up.loose), .i L.up.left, .i L.up.keep, .b true]
 fact _ _ := True
 mea _ := 0
def loopInv (S : List UInt8) : Inv where
 inv us := match us with
  | [.n m, .l xs, .p A', .n n', .n c', .p A, .n C] => ∃ ds : List RecordD, ∃ r : List UInt8, m = ds.length ∧ xs = ds.flatMap recordR.cells ∧ run S = (ds.map recordR.strip ++ (run r).1, (run r).2) ∧ n' = r.length ∧ (S.length ≤ C → n' ≤ c') ∧ r.length + 12 * ds.length ≤ S.length ∧ (∀ w B, S.length ≤ C → Rd w B 1 A S.length (bV S) → Rd w B 1 A' n' (bV r)) ∧ ∀ x ∈ ds, x.k = 1 → x.motion = motionZ ∧ x.known = knownZ
  | _ => False
 fact _ _ := True
 mea us := match us with
  | [.n _, .l _, .p _, .n n', .n _, .p _, .n _] => n'
  | _ => 0
def cfg_begin : Cfg := { con := [(15, 0), (61, 1)], loops := [(6, { slots := [3, 4], rows := [3], extra := [.un (.co .p) (.var 19), .un (.co .n) (.var 20)] })], joins := [(1, { blks := [0], rows := [100000, 100001] })], rows := [(3, 66)], lents := [(15, [(0, 112)])], mine := [(0, 112)], rcells := [(0, 0, 5), (0, 1, 5)], mrows := [(0, 0, 5), (0, 1, 5)], lrows := [(15, [(0, 0, 5), (0, 1, 5)])], shows := [(29, [100000])], views := [4] }
def vcd_begin : { v : VC // vcOfP Tryz.prog cfg_begin [(10, [1000004, 1005003, 1010002, 17, 33, 36, 48, 53, 1014002, 65])] 17 = v } := by refine ⟨?v, ?h⟩; rotate_left; conv => lhs; reduce
theorem vce_begin : vcOf Tryz.prog cfg_begin 17 = vcd_begin.1 := by kernel_rfl
set_option maxHeartbeats 2000000 in
theorem begin_keeps : KeepsR Tryz.prog 17 BeginC [(0, 112)] [(0, 0, 5), (0, 1, 5)] := by
 refine keepsR_v Tryz.func17 cfg_begin vce_begin [.p, .l, .l, .p, .n, .n, .p, .n, .n, .i, .i, .b] BeginC [(15, DieC), (61, FirstC)] ⟨die_keeps, first_keeps, trivial⟩ (by kernel_rfl) (fun _ _ _ h => h) ?_; intro x0 x1 x2 x3 x4 x5 x6 x7 x8 x9 x10 x11 w hp; obtain ⟨a, L, p, q, c, d, he, ⟨hok, hs⟩, hpl⟩ := hp; refine ⟨[(6, loopInv L.up.safe), (1001, joinInv L)], vc_use ?Q ?h ?g⟩
 case h => intro O C s I b; conv => lhs; reduce
 dsimp only [std]; simp only [ctrOf, invOf, List.lookup, Nat.reduceBEq, Option.getD_some, Int.reduceOfNat, Int.reduceNegSucc]; have he := he.symm; simp only [List.reverse_cons, List.reverse_nil, logU, List.cons_append, List.nil_append, List.cons.injEq, U.p.injEq, U.i.injEq, U.l.injEq, U.n.injEq, U.b.injEq, and_true] at he; obtain ⟨rfl, rfl, rfl, rfl, rfl, rfl, rfl, rfl, rfl, rfl, rfl, rfl⟩ := he; have hdw : ∀ w, BeginC.pre _ w := fun _ => ⟨a, L, p, q, c, d, rfl, ⟨hok, hs⟩, hpl⟩
 unfold LogS.size at hs; have hup : ¬ L.down = true → L.up = { L.die L.loose.length with down := false } := fun h => by unfold LogS.up; rw [if_neg h]
 have hup2 : L.down = true → L.up = { L with down := false } := fun h => by unfold LogS.up; rw [if_pos h]
 have hsz := LogS.up_size L; unfold LogS.size at hsz; refine ⟨⟨fun h1 a1 => ⟨fun w _ => ⟨a1, (L.loose.length : Int), L, p, q, c, d, rfl, ⟨hok, by unfold LogS.size big; omega⟩, trivial⟩, ?_⟩, fun h1 => ⟨?_, fun _ _ => trivial, trivial⟩⟩, ?_⟩
 ·intro y0 y1 y2 y3 y4 y5 y6 y7 y8 y9 y10 h; obtain ⟨M, p', q', c', d', rs, e1, rfl, rfl⟩ := h a1 (L.loose.length : Int) L p q c d rfl; have e1 := e1.symm; simp only [logU, List.cons_append, List.nil_append, List.cons.injEq, U.p.injEq, U.i.injEq, U.l.injEq, U.n.injEq, U.b.injEq, and_true] at e1; obtain ⟨rfl, rfl, rfl, rfl, rfl, rfl, rfl, rfl, rfl, rfl, rfl⟩ := e1; refine ⟨?_, fun _ _ => trivial, trivial⟩; show _ = _; rw [hup h1]; have hd : (L.die L.loose.length).down = true := by unfold LogS.die; rw [if_neg h1]
  rw [hd]
 ·show _ = _; rw [hup2 h1, h1]
 intro n1 xs1 n2 xs2 k1 k2 b1 hj; have hj : [U.n n1, U.l xs1, U.n n2, U.l xs2, U.i k1, U.i k2, U.b b1] = [.n L.up.safe.length, .l (bV L.up.safe), .n L.up.loose.length, .l (bV L.up.loose), .i L.up.left, .i L.up.keep, .b true] := hj; simp only [List.cons_append, List.nil_append, List.cons.injEq, U.p.injEq, U.i.injEq, U.l.injEq, U.n.injEq, U.b.injEq, and_true] at hj; obtain ⟨rfl, rfl, rfl, rfl, rfl, rfl, rfl⟩ := hj; intro A C; refine ⟨⟨[], L.up.safe, rfl, rfl, rfl, rfl, fun h => h, by simp, fun _ _ _ h => h, fun _ h => nomatch h⟩, fun _ _ => trivial, ?_⟩; intro m xs A' n' c' hi; obtain ⟨ds, r, rfl, rfl, h1, rfl, h3, h4, h5, h6⟩ := hi; refine ⟨List UInt8, r, fun w hw => ⟨A', r.length, c', r, rfl, h5 _ _ (own_cap hw.2) (Rd.of_own hw.2), h3 (own_cap hw.2), by omega⟩, ?_⟩; intro y0 y1 y2 y3 y4 y5 y6 y7 y8 y9 y10 y11 y12 y13 y14 y15 y16 y17 y18 y19 y20 y21 y22 y23 y24 y25 y26 y27 y28 y29 y30 y31 y32 y33 y34 y35 y36 y37 y38 y39 y40 y41 y42 y43 y44 y45 y46 y47 y48 y49 AA nn cc bb hf; have hf := hf A' r.length c' r rfl; have hb1 : ∀ k : Nat, k ≤ L.up.safe.length → ((L.up.safe.length : Int) - (k : Int)).toNat = L.up.safe.length - k := fun k _ => by omega
 refine ⟨fun hbb => ?_, fun hbb => ?_⟩
 ·have hnone : firstL r = none := by
   cases hfr : firstL r with
   | none => rfl
   | some z =>
    rw [hfr] at hf; obtain ⟨x, e, _⟩ := hf; have e : ([.i y0, .i y1, .i y2, .i y3, .b y4, .i y5, .i y6, .i y7, .i y8, .i y9, .i y10, .i y11, .i y12, .i y13, .i y14, .i y15, .i y16, .i y17, .p y18, .n y19, .n y20, .p y21, .n y22, .n y23, .p y24, .n y25, .n y26, .i y27, .i y28, .i y29, .b y30, .i y31, .p y32, .n y33, .n y34, .i y35, .i y36, .i y37, .i y38, .i y39, .i y40, .i y41, .i y42, .i y43, .p y44, .n y45, .n y46, .p y47, .n y48, .n y49] : List U) ++ [U.p AA, U.n nn, U.n cc, U.b bb] = _ := e; obtain ⟨_, e⟩ := List.append_inj' e rfl; simp only [List.cons.injEq, U.b.injEq] at e; exact absurd e.2.2.2.1 hbb
  rw [run_none hnone, List.append_nil] at h1; have hbeg : L.begin = { L.up with safe := L.up.safe.take (L.up.safe.length - r.length) } := by
   unfold LogS.begin; rw [h1]
  have hlen : (L.up.safe.take (L.up.safe.length - r.length)).length = L.up.safe.length - r.length := by
   rw [List.length_take]; omega
  refine ⟨⟨by omega, by omega⟩, by omega, by omega, fun A2 c2 a3 c3 => ⟨?_, fun w hw => ?_⟩⟩
  ·refine LogC.post_of (us := fun _ : Unit => []) (ok := fun _ => True) (n := 0) (x := ()) u_inj L.begin A a3 C c3 [.p A2, .n ds.length, .n c2] ?_ ⟨A2, c2, ?_, rfl⟩
   ·rw [hbeg, hb1 _ (by omega), bV_take]; simp only [logU, hlen]; have hdn : L.up.down = false := rfl; rw [hdn]; rfl
   ·rw [h1, List.length_map]
  ·intro a' L' p' q' c1 d' he; injection he with _ he
   have hLL : L = L' := logU_inj (p := p) (q := q) (c := c) (d := d) he; rw [← hLL]; have hds : ds.map recordR.strip = ds := votes_exact (fun y hy => hpl y (by rw [h1]; exact hy)) h6; refine ⟨A2, c2, _, by rw [h1, hds], ?_⟩; rw [h1, hds]; exact Rd.of_own hw.2
 ·have hsome : ∃ z, firstL r = some z := by
   cases hfr : firstL r with
   | none =>
    rw [hfr] at hf; injection hf with hf
    injection hf with hf
    exact absurd (hbb.symm.trans hf) (by decide)
   | some z => exact ⟨z, rfl⟩
  obtain ⟨⟨y, r'⟩, hz⟩ := hsome; rw [hz] at hf; obtain ⟨x, e, hst, hlim⟩ := hf; have e : ([.i y0, .i y1, .i y2, .i y3, .b y4, .i y5, .i y6, .i y7, .i y8, .i y9, .i y10, .i y11, .i y12, .i y13, .i y14, .i y15, .i y16, .i y17, .p y18, .n y19, .n y20, .p y21, .n y22, .n y23, .p y24, .n y25, .n y26, .i y27, .i y28, .i y29, .b y30, .i y31, .p y32, .n y33, .n y34, .i y35, .i y36, .i y37, .i y38, .i y39, .i y40, .i y41, .i y42, .i y43, .p y44, .n y45, .n y46, .p y47, .n y48, .n y49] : List U) ++ [U.p AA, U.n nn, U.n cc, U.b bb] = _ := e; obtain ⟨e1, e2⟩ := List.append_inj' e rfl; simp only [List.cons.injEq, U.p.injEq, U.n.injEq, and_true] at e2; obtain ⟨rfl, rfl, rfl, _⟩ := e2; obtain ⟨k, k1, k2, hr⟩ := firstL_len hz; have hrl : r'.length = r.length - k := by rw [hr, List.length_drop]
  have hk : r.length - r'.length = k := by omega
  rw [run_some hz] at h1; simp only [recordR, List.cons.injEq, U.p.injEq, U.i.injEq, U.n.injEq, U.b.injEq, and_true] at e1; obtain ⟨rfl, rfl, rfl, rfl, rfl, rfl, rfl, rfl, rfl, rfl, rfl, rfl, rfl, rfl, rfl, rfl, rfl, rfl, rfl, rfl, rfl, rfl, rfl, rfl, rfl, rfl, rfl, rfl, rfl, rfl, rfl, rfl, rfl, rfl, rfl, rfl, rfl, rfl, rfl, rfl, rfl, rfl, rfl, rfl, rfl, rfl, rfl, rfl, rfl, rfl⟩ := e1; refine ⟨by omega, by omega, ⟨ds ++ [x], r', by rw [List.length_append]; rfl, ?_, ?_, rfl, fun hC => ?_, ?_, fun w B hC h => ?_, fun z hz' => ?_⟩, fun _ _ => trivial, by show r'.length < r.length; omega, trivial⟩
  ·rw [List.flatMap_append]; rfl
  ·rw [h1, List.map_append, ← hst, List.append_assoc]; rfl
  ·have := h3 hC; omega
  ·rw [List.length_append, List.length_singleton]; omega
  ·have := rd_behind (h5 w B hC h) (h3 hC) k2; rw [bV_drop, ← hr, ← hrl] at this; rw [hk]; exact this
  ·rcases List.mem_append.1 hz' with h | h
   ·exact h6 z h
   ·rw [List.mem_singleton] at h; rw [h]; exact hlim
end Go.Proofs.YtjhaafbbdgjagaaGreat
