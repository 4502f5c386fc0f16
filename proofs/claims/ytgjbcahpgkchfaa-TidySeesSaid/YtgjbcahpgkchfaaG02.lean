/- Of the texts Ty4, Code8, Code6. -/
import Derived.Test.YtgjbcahpgkchfaaG01
set_option linter.unusedSimpArgs false
set_option linter.unusedVariables false
namespace Go.Proofs.Ytgjbcahpgkchfaa
def nx (b : List Ins) (k : Nat) : Nat := match b[k]? with | some x => x.a.toNat | none => k
def isJ (b : List Ins) (k : Nat) : Prop := ∃ x, b[k]? = some x ∧ x.op = 14
def itN (b : List Ins) : Nat → Nat → Nat
 | 0, t => t
 | n + 1, t => itN b n (nx b t)
theorem itN_succ (b : List Ins) : ∀ (n t : Nat), itN b (n + 1) t = nx b (itN b n t)
 | 0, _ => rfl
 | n + 1, t => by
  show itN b (n + 1) (nx b t) = _; rw [itN_succ b n (nx b t)]; rfl
theorem itN_add (b : List Ins) : ∀ (n m t : Nat), itN b (n + m) t = itN b m (itN b n t)
 | 0, m, t => by rw [Nat.zero_add]; rfl
 | n + 1, m, t => by
  rw [Nat.succ_add]; exact itN_add b n m (nx b t)
def Exit (b : List Ins) (d t : Nat) : Prop := (∀ m, m < d → isJ b (itN b m t)) ∧ ¬ isJ b (itN b d t)
def Never (b : List Ins) (t : Nat) : Prop := ∀ m, isJ b (itN b m t)
theorem Exit.uniq {b : List Ins} {d e t : Nat} (h : Exit b d t) (g : Exit b e t) : d = e := by
 rcases Nat.lt_trichotomy d e with h1 | h1 | h1
 ·exact absurd (g.1 d h1) h.2
 ·exact h1
 ·exact absurd (h.1 e h1) g.2
theorem Exit.on {b : List Ins} {d t : Nat} (h : Exit b d t) {i : Nat} (hi : i ≤ d) : Exit b (d - i) (itN b i t) := by
 refine ⟨fun m hm => ?_, ?_⟩
 ·rw [← itN_add]; exact h.1 _ (by omega)
 ·rw [← itN_add, show i + (d - i) = d by omega]; exact h.2
theorem exit_or (b : List Ins) (t : Nat) : Never b t ∨ ∃ d, Exit b d t := by
 by_cases h : Never b t
 ·exact .inl h
 ·right; have hex : ∃ d, ¬ isJ b (itN b d t) := Classical.not_forall.1 h; have key : ∀ n, (∀ m, m < n → isJ b (itN b m t)) ∨ ∃ d, Exit b d t := by
   intro n
   induction n with
   | zero => exact .inl fun m hm => by omega
   | succ n ih =>
    rcases ih with ih | ih
    ·by_cases hj : isJ b (itN b n t)
     ·left; intro m hm
      rcases Nat.lt_or_ge m n with h1 | h1
      ·exact ih m h1
      ·rw [show m = n by omega]; exact hj
     ·exact .inr ⟨n, ih, hj⟩
    ·exact .inr ih
  obtain ⟨d, hd⟩ := hex
  rcases key (d + 1) with h1 | h1
  ·exact absurd (h1 d (by omega)) hd
  ·exact h1
theorem isJ_lt {b : List Ins} {k : Nat} (h : isJ b k) : k < b.length := by
 obtain ⟨x, hx, _⟩ := h; exact lt_of_some hx
theorem nodup_le : ∀ (n : Nat) (l : List Nat), l.Nodup → (∀ x, x ∈ l → x < n) → l.length ≤ n
 | 0, l, _, h => by
  cases l with
  | nil => exact Nat.le_refl _
  | cons x l => exact absurd (h x (List.mem_cons_self ..)) (by omega)
 | n + 1, l, hd, h => by
  by_cases hn : n ∈ l
  ·have h1 := nodup_le n (l.erase n) (hd.erase n) fun x hx => by
    have h2 := (hd.mem_erase_iff).1 hx; have := h x h2.2; omega
   rw [List.length_erase_of_mem hn] at h1; have := List.length_pos_of_mem hn; omega
  ·have := nodup_le n l hd fun x hx => by
    have := h x hx; have : x ≠ n := fun e => hn (e ▸ hx)
    omega
   omega
theorem Exit.soon {b : List Ins} {d t : Nat} (h : Exit b d t) : d ≤ b.length := by
 have hl : ((List.range d).map fun m => itN b m t).length = d := by simp
 have := nodup_le b.length ((List.range d).map fun m => itN b m t) (by
  rw [List.nodup_iff_pairwise_ne, List.pairwise_map]; refine (List.nodup_iff_pairwise_ne.1 (List.nodup_range (n := d))).imp_of_mem ?_; intro i j hi hj hne e; rw [List.mem_range] at hi hj; have h1 := h.on (Nat.le_of_lt hi); have h2 := h.on (Nat.le_of_lt hj); rw [e] at h1; have := h1.uniq h2; omega) (fun x hx => by
  obtain ⟨m, hm, rfl⟩ := List.mem_map.1 hx; exact isJ_lt (h.1 m (List.mem_range.1 hm)))
 omega
theorem chase_step {b : List Ins} {t : Nat} (h : isJ b t) (n : Nat) : chase b (n + 1) t = chase b n (nx b t) := by
 obtain ⟨x, hx, ho⟩ := h; show (match b[t]? with | some x => if x.op = 14 then chase b n x.a.toNat else t | none => t) = _; unfold nx; rw [hx]; simp only [ho, if_true]
theorem chase_stay {b : List Ins} {t : Nat} (h : ¬ isJ b t) (n : Nat) : chase b n t = t := by
 cases n with
 | zero => rfl
 | succ n =>
  unfold chase; split
  ·next x hx =>
   rw [if_neg]; exact fun ho => h ⟨x, hx, ho⟩
  ·rfl
theorem chase_it {b : List Ins} : ∀ (n t : Nat), (∀ m, m < n → isJ b (itN b m t)) → chase b n t = itN b n t
 | 0, _, _ => rfl
 | n + 1, t, h => by
  rw [chase_step (t := t) (h 0 (by omega))]; exact chase_it n (nx b t) fun m hm => h (m + 1) (by omega)
theorem chase_exit {b : List Ins} : ∀ (n d t : Nat), Exit b d t → d ≤ n → chase b n t = itN b d t
 | n, 0, t, h, _ => chase_stay h.2 n
 | 0, d + 1, t, _, h => by omega
 | n + 1, d + 1, t, h, hd => by
  rw [chase_step (t := t) (h.1 0 (by omega))]; exact chase_exit n d (nx b t) (h.on (i := 1) (by omega)) (by omega)
theorem thread_never {b : List Ins} {x : Ins} (h : Never b x.a.toNat) : threadI b x = x := by
 unfold threadI; split
 ·rw [chase_it b.length _ fun m _ => h m]; obtain ⟨y, hy, ho⟩ := h b.length; rw [hy]; simp only [ho, if_true]
 ·rfl
theorem thread_exit {b : List Ins} {x : Ins} {d : Nat} (hj : jmpB x = true) (h : Exit b d x.a.toNat) (hlt : itN b d x.a.toNat < b.length) : threadI b x = { x with a := (itN b d x.a.toNat : Nat) } := by
 unfold threadI; rw [if_pos hj, chase_exit _ _ _ h h.soon, List.getElem?_eq_getElem hlt]; simp only; rw [if_neg]; exact fun ho => h.2 ⟨_, List.getElem?_eq_getElem hlt, ho⟩
theorem thread_op (b : List Ins) (x : Ins) : (threadI b x).op = x.op := by
 unfold threadI; split
 ·split
  ·split <;> rfl
  ·rfl
 ·rfl
theorem thread_len (b : List Ins) : (threadL b).length = b.length := by simp [threadL]
theorem thread_at (b : List Ins) (k : Nat) : (threadL b)[k]? = (b[k]?).map (threadI b) := by simp [threadL]
theorem thread_isJ (b : List Ins) (k : Nat) : isJ (threadL b) k ↔ isJ b k := by
 unfold isJ; rw [thread_at]; constructor
 ·rintro ⟨x, hx, ho⟩; rw [Option.map_eq_some_iff] at hx; obtain ⟨y, hy, rfl⟩ := hx; exact ⟨y, hy, by rw [thread_op] at ho; exact ho⟩
 ·rintro ⟨x, hx, ho⟩; exact ⟨threadI b x, by rw [hx]; rfl, by rw [thread_op]; exact ho⟩
theorem Never.next {b : List Ins} {t : Nat} (h : Never b t) (n : Nat) : Never b (itN b n t) := fun m => by
 rw [← itN_add]; exact h _
theorem thread_round {b : List Ins} {t : Nat} (h : Never b t) : ∀ n, itN (threadL b) n t = itN b n t := by
 intro n
 induction n with
 | zero => rfl
 | succ n ih =>
  rw [itN_succ, itN_succ, ih]; obtain ⟨x, hx, ho⟩ := h n; have h1 := h.next (n + 1); have e : nx b (itN b n t) = x.a.toNat := by unfold nx; rw [hx]
  rw [itN_succ, e] at h1; rw [e]; unfold nx; rw [thread_at, hx]; show (threadI b x).a.toNat = _; rw [thread_never h1]
theorem thread_never' {b : List Ins} {t : Nat} (h : Never b t) : Never (threadL b) t := fun m => by
 rw [thread_round h m, thread_isJ]; exact h m
def Within (b : List Ins) : Prop := ∀ x, x ∈ b → jmpB x = true → 0 ≤ x.a ∧ x.a.toNat < b.length
theorem Within.it {b : List Ins} (h : Within b) : ∀ (d t : Nat), t < b.length → (∀ m, m < d → isJ b (itN b m t)) → itN b d t < b.length
 | 0, _, ht, _ => ht
 | d + 1, t, ht, hj => by
  obtain ⟨x, hx, ho⟩ := hj 0 (by omega); refine Within.it h d (nx b t) ?_ fun m hm => hj (m + 1) (by omega)
  have e : nx b t = x.a.toNat := by unfold nx; rw [show b[t]? = some x from hx]
  rw [e]; exact (h x (List.mem_of_getElem? hx) (jmpB_iff.2 (.inl ho))).2
theorem thread_idem {b : List Ins} (h : Within b) : threadL (threadL b) = threadL b := by
 have key : ∀ x, x ∈ b → threadI (threadL b) (threadI b x) = threadI b x := fun x hx => by
  by_cases hj : jmpB x = true
  ·obtain ⟨h1, h2⟩ := h x hx hj
   rcases exit_or b x.a.toNat with hn | ⟨d, hd⟩
   ·rw [thread_never hn]; exact thread_never (thread_never' hn)
   ·have hlt := h.it d _ h2 hd.1; rw [thread_exit hj hd hlt]; have e2 : Exit (threadL b) 0 ((itN b d x.a.toNat : Nat) : Int).toNat := ⟨fun m hm => by omega, by
     rw [Int.toNat_natCast, thread_isJ]; exact hd.2⟩
    have := thread_exit (x := { x with a := (itN b d x.a.toNat : Nat) }) hj e2 (by
     rw [thread_len]; exact hlt)
    rw [this]; rfl
  ·have e : threadI b x = x := by unfold threadI; rw [if_neg hj]
   rw [e]; unfold threadI; rw [if_neg hj]
 have e1 : threadL (threadL b) = (threadL b).map (threadI (threadL b)) := rfl; have e2 : (threadL b).map (threadI (threadL b)) = b.map fun x => threadI (threadL b) (threadI b x) := by
  show (b.map (threadI b)).map (threadI (threadL b)) = _; rw [List.map_map]; rfl
 rw [e1, e2]; exact List.map_congr_left key
theorem thread_fix {b : List Ins} (h : Within b) (e : threadL b = b) {x : Ins} (hx : x ∈ b) (hj : jmpB x = true) : ¬ isJ b x.a.toNat ∨ Never b x.a.toNat := by
 rcases exit_or b x.a.toNat with hn | ⟨d, hd⟩
 ·exact .inr hn
 ·left; obtain ⟨h1, h2⟩ := h x hx hj; have hlt := h.it d _ h2 hd.1; obtain ⟨k, hk, rfl⟩ := List.getElem_of_mem hx; have h3 := thread_at b k; rw [e, List.getElem?_eq_getElem hk] at h3; injection h3 with h3
  rw [thread_exit hj hd hlt] at h3; have h4 := congrArg Ins.a h3; have h5 : (b[k]).a.toNat = itN b d (b[k]).a.toNat := by
   have h4 : (b[k]).a = ((itN b d (b[k]).a.toNat : Nat) : Int) := h4; omega
  rw [h5]; exact hd.2
section
variable {ps : List Pce} {nns : Nat} {loc : Int} {b : List Ins} {H : Nat → Option Int}
theorem Good.within (h : Good ps nns loc b) : Within b := fun x hx hj => by
 have := fitL_jump (h.fit x hx) hj; omega
theorem chase_typ (hT : Typ ps b H) : ∀ (n t : Nat) (g : Int), H t = some g → H (chase b n t) = some g
 | 0, _, _, h => h
 | n + 1, t, g, h => by
  by_cases hj : isJ b t
  ·rw [chase_step hj]; obtain ⟨x, hx, ho⟩ := hj; have := hT.jump hx (jmpB_iff.2 (.inl ho)) h; rw [(eff_jump ho g).1] at this; refine chase_typ hT n _ g ?_; unfold nx; rw [hx]; exact this
  ·rw [chase_stay hj]; exact h
theorem chase_lt (h : Within b) : ∀ (n t : Nat), t < b.length → chase b n t < b.length
 | 0, _, ht => ht
 | n + 1, t, ht => by
  by_cases hj : isJ b t
  ·rw [chase_step hj]; refine chase_lt h n _ ?_; obtain ⟨x, hx, ho⟩ := hj; unfold nx; rw [hx]; exact (h x (List.mem_of_getElem? hx) (jmpB_iff.2 (.inl ho))).2
  ·rw [chase_stay hj]; exact ht
theorem thread_goto (b : List Ins) (x : Ins) : threadI b x = x ∨ (jmpB x = true ∧ threadI b x = { x with a := (chase b b.length x.a.toNat : Nat) }) := by
 unfold threadI; split
 ·next hj =>
  split
  ·split
   ·exact .inl rfl
   ·exact .inr ⟨hj, rfl⟩
  ·exact .inl rfl
 ·exact .inl rfl
theorem thread_ok (hg : Good ps nns loc b) : Good ps nns loc (threadL b) := by
 refine ⟨fun y hy => ?_, ?_⟩
 ·rw [thread_len]; obtain ⟨x, hx, rfl⟩ := List.mem_map.1 hy; have hf := hg.fit x hx
  rcases thread_goto b x with e | ⟨hj, e⟩
  ·rw [e]; exact hf
  ·rw [e]; exact fitL_goto hf hj (chase_lt hg.within _ _ (fitL_jump hf hj).2.2)
 ·obtain ⟨H, hT⟩ := hg.flow; refine ⟨H, hT.1, fun i g e => ?_⟩; obtain ⟨x, hx, h1, h2⟩ := hT.2 i g e; refine ⟨threadI b x, by rw [thread_at, hx]; rfl, ?_⟩
  rcases thread_goto b x with e' | ⟨hj, e'⟩
  ·rw [e']; exact ⟨h1, h2⟩
  ·rw [e']; refine ⟨(may_goto hj _ _).2 h1, fun j hj' => ?_⟩; rw [out_goto hj]
   rcases mem_next.1 hj' with ⟨_, rfl⟩ | ⟨h14, h17, rfl⟩
   ·show H ((chase b b.length x.a.toNat : Nat) : Int).toNat = _; rw [Int.toNat_natCast]; exact chase_typ hT _ _ _ (hT.jump hx hj e)
   ·exact h2 _ (mem_next.2 (.inr ⟨h14, h17, rfl⟩))
theorem round_ok (hg : Good ps nns loc b) : Good ps nns loc (roundL b) ∧ (roundL b).length ≤ b.length := by
 have h1 := thread_ok hg; obtain ⟨h2, l2, s2, _⟩ := drop_ok h1; obtain ⟨h3, l3, s3⟩ := edit_ok (f := foldAt) h2 l2 (fold_ok h2 l2); obtain ⟨h4, l4, s4⟩ := edit_ok (f := settleAt) h3 l3 (settle_ok h3 l3); obtain ⟨h5, l5, s5⟩ := edit_ok (f := loseAt) h4 l4 (lose_ok h4 l4); refine ⟨h5, ?_⟩; have e1 := thread_len b; unfold roundL loseL settleL foldL; have q2 : (dropL (threadL b)).length ≤ (threadL b).length := by rcases s2 with s | s; rw [s]; exact Nat.le_refl _; omega
 have q3 : (editL foldAt (dropL (threadL b))).length ≤ (dropL (threadL b)).length := by rcases s3 with s | s; rw [s]; exact Nat.le_refl _; omega
 have q4 : (editL settleAt (editL foldAt (dropL (threadL b)))).length ≤ (editL foldAt (dropL (threadL b))).length := by rcases s4 with s | s; rw [s]; exact Nat.le_refl _; omega
 have q5 : (editL loseAt (editL settleAt (editL foldAt (dropL (threadL b))))).length ≤ (editL settleAt (editL foldAt (dropL (threadL b)))).length := by rcases s5 with s | s; rw [s]; exact Nat.le_refl _; omega
 omega
open Classical in
noncomputable def weight (b : List Ins) : Nat := 2 * b.length + if threadL b = b then 0 else 1
theorem round_less (hg : Good ps nns loc b) : Fixed b ∨ weight (roundL b) < weight b := by
 have h1 := thread_ok hg; obtain ⟨h2, l2, s2, _⟩ := drop_ok h1; obtain ⟨h3, l3, s3⟩ := edit_ok (f := foldAt) h2 l2 (fold_ok h2 l2); obtain ⟨h4, l4, s4⟩ := edit_ok (f := settleAt) h3 l3 (settle_ok h3 l3); obtain ⟨h5, l5, s5⟩ := edit_ok (f := loseAt) h4 l4 (lose_ok h4 l4); have e1 := thread_len b; have hle := (round_ok hg).2; have hw : ∀ c : List Ins, c.length < b.length → weight c < weight b := fun c hc => by
  unfold weight; split <;> split <;> omega
 by_cases hs : (roundL b).length < b.length
 ·exact .inr (hw _ hs)
 ·have q2 : (dropL (threadL b)).length ≤ (threadL b).length := by rcases s2 with s | s; rw [s]; exact Nat.le_refl _; omega
  have q3 : (editL foldAt (dropL (threadL b))).length ≤ (dropL (threadL b)).length := by rcases s3 with s | s; rw [s]; exact Nat.le_refl _; omega
  have q4 : (editL settleAt (editL foldAt (dropL (threadL b)))).length ≤ (editL foldAt (dropL (threadL b))).length := by rcases s4 with s | s; rw [s]; exact Nat.le_refl _; omega
  have q5 : (editL loseAt (editL settleAt (editL foldAt (dropL (threadL b))))).length ≤ (editL settleAt (editL foldAt (dropL (threadL b)))).length := by rcases s5 with s | s; rw [s]; exact Nat.le_refl _; omega
  have hr : (roundL b).length = (editL loseAt (editL settleAt (editL foldAt (dropL (threadL b))))).length := rfl; have s2 : dropL (threadL b) = threadL b := s2.resolve_right (by omega); have s3 := s3.resolve_right (by omega); have s4 := s4.resolve_right (by omega); have s5 := s5.resolve_right (by omega); rw [s2] at s3; rw [s2, s3] at s4; rw [s2, s3, s4] at s5; have hr : roundL b = threadL b := by
   unfold roundL loseL settleL foldL; rw [s2, s3, s4, s5]
  by_cases ht : threadL b = b
  ·left; rw [ht] at s2 s3 s4 s5; exact ⟨ht, s2, s3, s4, s5⟩
  ·right; rw [hr]; unfold weight; rw [if_pos (thread_idem hg.within), if_neg ht, e1]; omega
end
theorem Fixed.round {b : List Ins} (h : Fixed b) : roundL b = b := by
 obtain ⟨h1, h2, h3, h4, h5⟩ := h; unfold roundL; rw [h1, h2, h3, h4, h5]
inductive Tidied : List Ins → List Ins → Prop
 | done {b : List Ins} (h : Fixed b) : Tidied b b
 | more {b c : List Ins} (h : Tidied (roundL b) c) : Tidied b c
theorem Tidied.good {ps : List Pce} {nns : Nat} {loc : Int} {b c : List Ins} (h : Tidied b c) (hg : Good ps nns loc b) : Good ps nns loc c ∧ c.length ≤ b.length ∧ Fixed c := by
 induction h with
 | done h => exact ⟨hg, Nat.le_refl _, h⟩
 | more h ih =>
  obtain ⟨h1, h2⟩ := round_ok hg; obtain ⟨h3, h4, h5⟩ := ih h1; exact ⟨h3, by omega, h5⟩
theorem Tidied.fixed {b c : List Ins} (h : Tidied b c) : Fixed b → c = b := by
 induction h with
 | done h => exact fun _ => rfl
 | more h ih =>
  intro hf; have e := hf.round; rw [e] at ih; exact ih hf
theorem any_head {α : Type} {l : List α} {f : α → Bool} {k : Nat} (hk : k < l.length) (h : f l[k] = true) : l.any f = true := List.any_eq_true.mpr ⟨l[k], List.getElem_mem hk, h⟩
theorem any_step {α : Type} {l : List α} {f : α → Bool} {k : Nat} (hk : k < l.length) (h : f l[k] = false) (e : (l.drop k).any f = l.any f) : (l.drop (k + 1)).any f = l.any f := by
 rw [List.drop_eq_getElem_cons hk, List.any_cons, h, Bool.false_or] at e; exact e
theorem any_end {α : Type} {l : List α} {f : α → Bool} {k : Nat} (hk : l.length ≤ k) (e : (l.drop k).any f = l.any f) : l.any f = false := by
 rw [List.drop_eq_nil_of_le hk] at e; exact e.symm
theorem all_head {α : Type} {l : List α} {f : α → Bool} {k : Nat} (hk : k < l.length) (h : f l[k] = false) : l.all f = false := by
 rw [List.all_eq_false]; exact ⟨l[k], List.getElem_mem hk, by rw [h]; simp⟩
theorem all_step {α : Type} {l : List α} {f : α → Bool} {k : Nat} (hk : k < l.length) (h : f l[k] = true) (e : (l.drop k).all f = l.all f) : (l.drop (k + 1)).all f = l.all f := by
 rw [List.drop_eq_getElem_cons hk, List.all_cons, h, Bool.true_and] at e; exact e
theorem all_end {α : Type} {l : List α} {f : α → Bool} {k : Nat} (hk : l.length ≤ k) (e : (l.drop k).all f = l.all f) : l.all f = true := by
 rw [List.drop_eq_nil_of_le hk] at e; exact e.symm
section
variable {fl : Pce → Bool} {ps : List Pce} {nns : Nat}
theorem chk_long (h : 32 < ps.length) : chkS fl ps nns = 3 := by unfold chkS; rw [if_pos h]
theorem chk_big (h : ps.any bigB = true) : chkS fl ps nns = 3 := by
 unfold chkS; rw [if_pos h]; split <;> rfl
theorem chk_bad (h : ¬ 32 < ps.length) (h1 : ps.any bigB = false) (h2 : ps.any (badB ps.length nns) = true) : chkS fl ps nns = 13 := by
 unfold chkS; rw [if_neg h, h1, if_neg (by simp), if_pos h2]
theorem chk_no (h : ¬ 32 < ps.length) (h1 : ps.any bigB = false) (h3 : ps.all fl = false) : chkS fl ps nns = 13 := by
 unfold chkS; rw [if_neg h, h1, if_neg (by simp), h3]; split <;> simp
theorem chk_ok (h : ¬ 32 < ps.length) (h1 : ps.any bigB = false) (h2 : ps.any (badB ps.length nns) = false) (h3 : ps.all fl = true) : chkS fl ps nns = 0 := by
 unfold chkS; rw [if_neg h, h1, if_neg (by simp), h2, if_neg (by simp), h3]; simp
theorem not_big (h : ps.any bigB = false) {p : Pce} (hp : p ∈ ps) : p.body.length ≤ 2048 ∧ p.locals ≤ 32 ∧ p.params ≤ 8 := by
 have := (List.any_eq_false.mp h) p hp; unfold bigB at this; simp only [Bool.or_eq_true, decide_eq_true_eq, not_or] at this; omega
theorem bigB_true {p : Pce} (h : ¬ (p.body.length ≤ 2048 ∧ p.locals ≤ 32 ∧ p.params ≤ 8)) : bigB p = true := by
 unfold bigB; simp only [Bool.or_eq_true, decide_eq_true_eq]; omega
theorem bigB_false {p : Pce} (h : p.body.length ≤ 2048 ∧ p.locals ≤ 32 ∧ p.params ≤ 8) : bigB p = false := by
 unfold bigB; simp only [Bool.or_eq_false_iff, decide_eq_false_iff_not]; omega
theorem badB_par {nps : Nat} {p : Pce} (h : p.params < 0 ∨ p.locals < p.params) : badB nps nns p = true := by
 unfold badB; simp only [Bool.or_eq_true, decide_eq_true_eq]; exact .inl h
theorem badB_body {nps : Nat} {p : Pce} (h : p.body.all (fitS nps nns p) = false) : badB nps nns p = true := by
 unfold badB; rw [h]; simp
theorem badB_ok {nps : Nat} {p : Pce} (h : ¬ (p.params < 0 ∨ p.locals < p.params)) (h2 : p.body.all (fitS nps nns p) = true) : badB nps nns p = false := by
 unfold badB; rw [h2]; simp only [Bool.or_eq_false_iff, decide_eq_false_iff_not, Bool.not_true, and_true]; omega
theorem few_of (h1 : ps.any bigB = false) (h2 : ps.any (badB ps.length nns) = false) (h : ¬ 32 < ps.length) : Few ps ∧ ∀ p, p ∈ ps → (∀ x, x ∈ p.body → Fit ps.length p.body.length x) ∧ p.body.length ≤ 2048 ∧ -9223372036854775807 ≤ p.locals ∧ p.locals ≤ 32 := by
 have key : ∀ p, p ∈ ps → 0 ≤ p.params ∧ p.params ≤ p.locals ∧ p.body.all (fitS ps.length nns p) = true := fun p hp => by
  have := (List.any_eq_false.mp h2) p hp; unfold badB at this; simp only [Bool.or_eq_true, decide_eq_true_eq, not_or, Bool.not_eq_true', Bool.not_eq_false] at this; obtain ⟨⟨a, b⟩, c⟩ := this; exact ⟨by omega, by omega, c⟩
 refine ⟨fun p hp => ?_, fun p hp => ?_⟩
 ·have a := key p hp; have b := not_big h1 hp; omega
 ·obtain ⟨a, b, c⟩ := key p hp; obtain ⟨d, e, f⟩ := not_big h1 hp; exact ⟨fun x hx => fitS_fit (List.all_eq_true.mp c x hx) e d (by omega), d, by omega, e⟩
end
structure RIn (ps : List Pce) (I : List Ins) (k c0 : Nat) (hs : List Int) (ok again : Bool) : Prop where
 pass : Pass ps I hs ok
 room : Room I hs
 good : again = false → ok = true → ∀ i, i < k → goodAt ps I hs i
 le : lessN hs ≤ c0
 lt : again = true → lessN hs < c0
structure RIn4 (ps : List Pce) (I : List Ins) (k c0 : Nat) (x : Ins) (v : Int) (q : Nat) (hs : List Int) (ok again : Bool) : Prop where
 pass : Pass ps I hs ok
 room : Room I hs
 held : heldH hs k = some v
 good : again = false → ok = true → (∀ i, i < k → goodAt ps I hs i) ∧ mayS ps x v ∧ ∀ j, j ∈ (nextS k x).take q → heldH hs j = some (outS ps x v)
 le : lessN hs ≤ c0
 lt : again = true → lessN hs < c0
section
variable {ps : List Pce} {I : List Ins} {k c0 : Nat} {hs : List Int} {ok again : Bool} {x : Ins} {v : Int} {q : Nat}
theorem RIn.start_ (h : Pass ps I hs ok) (hr : Room I hs) : RIn ps I 0 (lessN hs) hs ok false := ⟨h, hr, fun _ _ i hi => absurd hi (by omega), Nat.le_refl _, fun e => absurd e (by simp)⟩
theorem RIn.skip (h : RIn ps I k c0 hs ok again) (hv : hs[k]? = some v) (h0 : v < 0) : RIn ps I (k + 1) c0 hs ok again :=
 ⟨h.pass, h.room, fun a b i hi => by
  by_cases e : i = k
  ·subst e; intro g y hg; unfold heldH at hg; rw [hv] at hg; simp [h0] at hg
  ·exact h.good a b i (by omega), h.le, h.lt⟩
theorem RIn.enter (h : RIn ps I k c0 hs ok again) (hv : hs[k]? = some v) (h0 : 0 ≤ v) (hx : I[k]? = some x) : RIn4 ps I k c0 x v 0 hs (ok && mayB ps x v) again :=
 have hh := heldH_of hv h0
 ⟨h.pass.chk hh hx, h.room, hh, fun a b => by
  simp only [Bool.and_eq_true] at b; exact ⟨h.good a b.1, (mayB_iff ps x v).mp b.2, fun j hj => absurd hj (by simp)⟩, h.le, h.lt⟩
theorem RIn4.far (h : RIn4 ps I k c0 x v q hs ok again) (hx : I[k]? = some x) (hq : q < (nextS k x).length) (hl : I.length ≤ (nextS k x)[q]) : RIn4 ps I k c0 x v (q + 1) hs false again :=
 ⟨h.pass.far h.held hx (List.getElem_mem hq) hl, h.room, h.held, fun _ b => absurd b (by simp), h.le, h.lt⟩
theorem RIn4.put {u : Int} (h : RIn4 ps I k c0 x v q hs ok again) (hx : I[k]? = some x) (hq : q < (nextS k x).length) (hu : hs[(nextS k x)[q]]? = some u) (h0 : u < 0) (hn : 0 ≤ outS ps x v) (ht : 0 ≤ takesS ps x) (hI : I.length ≤ 2048) : RIn4 ps I k c0 x v (q + 1) (hs.set (nextS k x)[q] (outS ps x v)) ok true := by
 obtain ⟨a, b⟩ := h.pass.put h.room h.held hx (List.getElem_mem hq) hu h0 hn ht hI; have hl := lessN_set hu h0 _ hn; have hlt : (nextS k x)[q] < hs.length := by
  rcases Nat.lt_or_ge (nextS k x)[q] hs.length with h | h
  ·exact h
  ·rw [List.getElem?_eq_none h] at hu; cases hu
 refine ⟨a, b, ?_, fun e => absurd e (by simp), by have := h.le; omega, fun _ => by have := h.le; omega⟩; rw [heldH_set hlt _ hn, if_neg]
 ·exact h.held
 ·intro e; have hh := h.held; rw [← e] at hh; unfold heldH at hh; rw [hu] at hh; simp [h0] at hh
theorem RIn4.cmp {u : Int} (h : RIn4 ps I k c0 x v q hs ok again) (hx : I[k]? = some x) (hq : q < (nextS k x).length) (hu : hs[(nextS k x)[q]]? = some u) (h0 : u < 0 → outS ps x v < 0) : RIn4 ps I k c0 x v (q + 1) hs (ok && (u == outS ps x v)) again :=
 ⟨h.pass.cmp h.held hx (List.getElem_mem hq) hu h0, h.room, h.held, fun a b => by
  simp only [Bool.and_eq_true, beq_iff_eq] at b; obtain ⟨b1, b2⟩ := b; obtain ⟨g1, g2, g3⟩ := h.good a b1; refine ⟨g1, g2, fun j hj => ?_⟩; rw [List.take_add_one, List.mem_append] at hj
  rcases hj with hj | hj
  ·exact g3 j hj
  ·rw [List.getElem?_eq_getElem hq] at hj; simp at hj; subst hj; have hl := leavesS_bd x; have hn : 0 ≤ outS ps x v := by unfold outS; have := g2.1; omega
   rw [← b2]; exact heldH_of hu (by omega), h.le, h.lt⟩
theorem RIn4.leave (h : RIn4 ps I k c0 x v q hs ok again) (hx : I[k]? = some x) (hq : (nextS k x).length ≤ q) : RIn ps I (k + 1) c0 hs ok again :=
 ⟨h.pass, h.room, fun a b i hi => by
  obtain ⟨g1, g2, g3⟩ := h.good a b
  by_cases e : i = k
  ·subst e; intro g y hg hy; rw [h.held] at hg; cases hg; rw [hx] at hy; cases hy; refine ⟨g2, fun j hj => g3 j ?_⟩; rw [List.take_of_length_le hq]; exact hj
  ·exact g1 i (by omega), h.le, h.lt⟩
theorem RIn.over (h : RIn ps I k c0 hs ok false) (hk : I.length ≤ k) : IsFlow ps I ok := h.pass.over fun b i hi => h.good rfl b i (by omega)
end
end Go.Proofs.Ytgjbcahpgkchfaa
