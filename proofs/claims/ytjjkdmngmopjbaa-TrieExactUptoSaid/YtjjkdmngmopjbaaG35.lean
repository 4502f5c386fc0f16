/- Of the texts Pf0. -/
import Derived.Test.YtjjkdmngmopjbaaProg
import Derived.Test.YtjjkdmngmopjbaaG29
import Derived.Test.YtjjkdmngmopjbaaG10
import Derived.Test.YtjjkdmngmopjbaaG33
import Derived.Test.YtjjkdmngmopjbaaG28
namespace Go.Proofs.Ytjjkdmngmopjbaa
open Go.RowKit
/-- what is digested at a turn -/
def forkS (k : Key) (t : TurnD) (d : Int) : List (List UInt8) := if bitB k t.p.toNat then [be t.p 5, be t.d 8, be d 8] else [be t.p 5, be d 8, be t.d 8]
/-- the digest above some turns -/
def digP (wd : Int) (k : Key) (e : ImgP) : List TurnD → Int
  | [] => ofS wd e.1 e.2
  | t :: ts => ofS wd 4 (forkS k t (digP wd k e ts))
/-- the images from the top down -/
def downP (wd : Int) (k : Key) (e : ImgP) : List TurnD → List ImgP
  | [] => [e]
  | t :: ts => (4, forkS k t (digP wd k e ts)) :: downP wd k e ts
def endI (x : ProofD) : ImgP := (3, [x.key, x.value])
def noneI : ImgP := (5, [])
def fitB (k a : Key) (t : TurnD) : Bool := bitB k t.p.toNat == bitB a t.p.toNat
def climbE (k : Key) (x : ProofD) : Int := if 32 < k.length then 3 else if (Out.empty.proof x).re ≠ 0 then (Out.empty.proof x).re else if x.leaf = true ∧ x.turns.all (fitB k x.key) = false then 2 else 0
def wholeI (wd : Int) (k : Key) (x : ProofD) : ImgP := (5, [be (digP wd k (endI x) x.turns) 8])
def climbL (wd : Int) (k : Key) (x : ProofD) : List ImgP := if x.leaf then wholeI wd k x :: downP wd k (endI x) x.turns else [noneI]
def topI (wd : Int) (k : Key) (x : ProofD) : ImgP := if x.leaf then wholeI wd k x else noneI
def topP (wd : Int) (k : Key) (x : ProofD) : Int := ofS wd (topI wd k x).1 (topI wd k x).2
def checkE (wd R : Int) (k : Key) (x : ProofD) : Int := if climbE k x ≠ 0 then climbE k x else if topP wd k x ≠ R then 5 else 0
def checkV (wd R : Int) (k : Key) (x : ProofD) : Key := if checkE wd R k x = 0 ∧ x.key = k then x.value else []
def clashP (wd R : Int) (k : Key) (x y : ProofD) : Option (ImgP × ImgP) := if checkE wd R k x ≠ 0 ∨ checkE wd R k y ≠ 0 ∨ checkV wd R k x = checkV wd R k y then none else unl (climbL wd k x) (climbL wd k y)
theorem downP_len (wd : Int) (k : Key) (e : ImgP) : ∀ ts, (downP wd k e ts).length = ts.length + 1
  | [] => rfl
  | t :: ts => by rw [downP, List.length_cons, downP_len wd k e ts, List.length_cons]
theorem climbL_len (wd : Int) (k : Key) (x : ProofD) : (climbL wd k x).length ≤ x.turns.length + 2 := by
  unfold climbL
  split
  · rw [List.length_cons, downP_len]; omega
  · simp
theorem digP_bd (wd : Int) (k : Key) (e : ImgP) : ∀ ts, 0 ≤ digP wd k e ts ∧ digP wd k e ts < 18446744073709551616
  | [] => by have := ofS_bd wd e.1 e.2; unfold digP; omega
  | t :: ts => by have := ofS_bd wd 4 (forkS k t (digP wd k e ts)); unfold digP; omega
theorem forkS_len (k : Key) (t : TurnD) (d : Int) : (forkS k t d).length = 3 := by unfold forkS; split <;> rfl
theorem forkS_short (k : Key) (t : TurnD) (d : Int) : Short (forkS k t d) := by unfold forkS; split <;> exact short3 _ _ _
/-! ### what holds of a proof that can be written -/
theorem Out.re_zero {S : Out} : S.re = 0 ↔ S.far = false ∧ S.odd = false := by
  unfold Out.re
  cases S.far <;> cases S.odd <;> simp
theorem fold_turn : ∀ (l : List TurnD) (S : Out), (l.foldl Out.turn S).far = (S.far || l.any fun t => farN t.p || decide (287 < t.p)) ∧ (l.foldl Out.turn S).odd = S.odd
  | [], S => by simp
  | t :: l, S => by
    obtain ⟨h1, h2⟩ := fold_turn l (S.turn t)
    rw [List.foldl_cons, h1, h2]
    constructor
    · show ((S.far || farN t.p || decide (287 < t.p)) || _) = _
      simp only [List.any_cons, Bool.or_assoc]
    · rfl
theorem farN_false {n : Int} : farN n = false ↔ 0 ≤ n ∧ n ≤ 1099511627775 := by
  unfold farN
  rw [decide_eq_false_iff_not]
  omega
structure GoodP (x : ProofD) : Prop where
  len : x.turns.length ≤ 288
  low : ∀ t ∈ x.turns, 0 ≤ t.p ∧ t.p ≤ 287
  key : x.key.length ≤ 32
  value : x.value.length ≤ 4096
  up : allTo (turnOkAt x.turns) x.turns.length = true
  shape : proofOk x = true
theorem proof_re {x : ProofD} : (Out.empty.proof x).re = 0 ↔ GoodP x := by
  rw [Out.re_zero]
  obtain ⟨f1, f2⟩ := fold_turn x.turns ((Out.empty.lim x.turns.length 288).num x.turns.length)
  have e1 : (Out.empty.proof x).far = (((((((false || decide ((288 : Int) < (x.turns.length : Int))) || farN (x.turns.length : Int)) || x.turns.any fun t => farN t.p || decide (287 < t.p)) || decide ((32 : Int) < (x.key.length : Int))) || farN (x.key.length : Int)) || decide ((4096 : Int) < (x.value.length : Int))) || farN (x.value.length : Int)) := by
    show ((((((x.turns.foldl Out.turn ((Out.empty.lim x.turns.length 288).num x.turns.length)).far || _) || _) || _) || _)) = _
    rw [f1]
    rfl
  have e2 : (Out.empty.proof x).odd = ((false || !(allTo (turnOkAt x.turns) x.turns.length)) || !(proofOk x)) := by
    show (((x.turns.foldl Out.turn ((Out.empty.lim x.turns.length 288).num x.turns.length)).odd || _) || _) = _
    rw [f2]
    rfl
  rw [e1, e2]
  simp only [Bool.or_eq_false_iff, Bool.false_or, decide_eq_false_iff_not, farN_false, Bool.not_eq_false', List.any_eq_false, Bool.not_eq_true, Bool.or_eq_true]
  constructor
  · rintro ⟨⟨⟨⟨⟨⟨⟨h1, h2⟩, h3⟩, h4⟩, h5⟩, h6⟩, h7⟩, h8, h9⟩
    refine ⟨by omega, fun t ht => ?_, by omega, by omega, h8, h9⟩
    have := h3 t ht
    simp only [not_or, Bool.not_eq_true, farN_false, decide_eq_true_eq] at this
    omega
  · rintro ⟨h1, h2, h3, h4, h5, h6⟩
    refine ⟨⟨⟨⟨⟨⟨⟨by omega, by omega⟩, fun t ht => ?_⟩, by omega⟩, by omega⟩, by omega⟩, by omega⟩, h5, h6⟩
    have := h2 t ht
    simp only [not_or, Bool.not_eq_true, farN_false, decide_eq_true_eq]
    omega
theorem climbE_zero {k : Key} {x : ProofD} (h : climbE k x = 0) : k.length ≤ 32 ∧ GoodP x ∧ (x.leaf = true → x.turns.all (fitB k x.key) = true) := by
  unfold climbE at h
  split at h
  · cases h
  · rename_i hk
    split at h
    · rename_i hr; exact absurd h hr
    · rename_i hr
      split at h
      · cases h
      · rename_i hf
        refine ⟨by omega, proof_re.1 (by simpa using hr), fun hl => ?_⟩
        simp only [not_and, Bool.not_eq_false] at hf
        exact hf hl
/-! ### two proofs that show unlike values -/
theorem unl_downP (wd : Int) (k : Key) (a b : ImgP) (ha : a.1 = 3) (hb : b.1 = 3) (hab : sameI a b = false) : ∀ (ts us : List TurnD), (∀ t ∈ ts, 0 ≤ t.p ∧ t.p ≤ 287) → (∀ t ∈ us, 0 ≤ t.p ∧ t.p ≤ 287) → digP wd k a ts = digP wd k b us →
    ∃ x y, unl (downP wd k a ts) (downP wd k b us) = some (x, y) ∧ ofS wd x.1 x.2 = ofS wd y.1 y.2 ∧ sameI x y = false
  | [], [], _, _, h => ⟨a, b, by rw [downP, downP, unl, hab]; rfl, h, hab⟩
  | [], u :: us, _, _, h => by
    have hs : sameI a (4, forkS k u (digP wd k b us)) = false := by simp [sameI, ha]
    exact ⟨a, (4, forkS k u (digP wd k b us)), by rw [downP, downP, unl, hs]; rfl, h, hs⟩
  | t :: ts, [], _, _, h => by
    have hs : sameI (4, forkS k t (digP wd k a ts)) b = false := by simp [sameI, hb]
    exact ⟨(4, forkS k t (digP wd k a ts)), b, by rw [downP, downP, unl, hs]; rfl, h, hs⟩
  | t :: ts, u :: us, h1, h2, h => by
    cases hs : sameI (4, forkS k t (digP wd k a ts)) (4, forkS k u (digP wd k b us))
    · exact ⟨(4, forkS k t (digP wd k a ts)), (4, forkS k u (digP wd k b us)), by rw [downP, downP, unl, hs]; rfl, h, hs⟩
    · have hp := congrArg Prod.snd (sameI_eq hs)
      have q1 := h1 t (by simp)
      have q2 := h2 u (by simp)
      have hpos : t.p = u.p := by
        have h0 : be t.p 5 = be u.p 5 := by
          have := congrArg (fun l => l.headD []) hp
          unfold forkS at this
          split at this <;> split at this <;> exact this
        refine be_inj (k := 5) ?_ ?_ h0
        · have h5 : (256 : Int) ^ 5 = 1099511627776 := by decide
          rw [h5]; omega
        · have h5 : (256 : Int) ^ 5 = 1099511627776 := by decide
          rw [h5]; omega
      have hd : digP wd k a ts = digP wd k b us := by
        refine be8_inj (digP_bd wd k a ts) (digP_bd wd k b us) ?_
        unfold forkS at hp
        rw [hpos] at hp
        cases hb : bitB k u.p.toNat
        · rw [hb] at hp
          simp only [Bool.false_eq_true, if_false, List.cons.injEq] at hp
          exact hp.2.1
        · rw [hb] at hp
          simp only [if_true, List.cons.injEq] at hp
          exact hp.2.2.1
      obtain ⟨x, y, i1, i2, i3⟩ := unl_downP wd k a b ha hb hab ts us (fun t ht => h1 t (by simp [ht])) (fun t ht => h2 t (by simp [ht])) hd
      exact ⟨x, y, by rw [downP, downP, unl, hs]; exact i1, i2, i3⟩
theorem checkE_zero {wd R : Int} {k : Key} {x : ProofD} (h : checkE wd R k x = 0) : climbE k x = 0 ∧ topP wd k x = R := by
  unfold checkE at h
  split at h
  · rename_i hc; exact absurd h hc
  · rename_i hc
    split at h
    · cases h
    · rename_i ht; exact ⟨by simpa using hc, by simpa using ht⟩
theorem none_value {x : ProofD} (h : proofOk x = true) (hl : x.leaf = false) : x.value = [] := by
  unfold proofOk at h
  rw [hl] at h
  simp [emp] at h
  exact h.2
theorem clash_exP (wd R : Int) (k : Key) (x y : ProofD) (h1 : checkE wd R k x = 0) (h2 : checkE wd R k y = 0) (hv : checkV wd R k x ≠ checkV wd R k y) :
    ∃ a b, unl (climbL wd k x) (climbL wd k y) = some (a, b) ∧ ofS wd a.1 a.2 = ofS wd b.1 b.2 ∧ sameI a b = false := by
  obtain ⟨c1, t1⟩ := checkE_zero h1
  obtain ⟨c2, t2⟩ := checkE_zero h2
  obtain ⟨_, g1, _⟩ := climbE_zero c1
  obtain ⟨_, g2, _⟩ := climbE_zero c2
  unfold topP topI at t1 t2
  unfold climbL
  cases hx : x.leaf <;> cases hy : y.leaf <;> rw [hx] at t1 <;> rw [hy] at t2 <;> simp only [Bool.false_eq_true, if_false, if_true] at t1 t2 ⊢
  · refine absurd ?_ hv
    unfold checkV
    rw [none_value g1.shape hx, none_value g2.shape hy]
    simp
  · have hs : sameI noneI (wholeI wd k y) = false := by simp [sameI, noneI, wholeI]
    exact ⟨noneI, wholeI wd k y, by rw [unl, hs]; rfl, t1.trans t2.symm, hs⟩
  · have hs : sameI (wholeI wd k x) noneI = false := by simp [sameI, noneI, wholeI]
    exact ⟨wholeI wd k x, noneI, by rw [unl, hs]; rfl, t1.trans t2.symm, hs⟩
  · cases hs : sameI (wholeI wd k x) (wholeI wd k y)
    · exact ⟨wholeI wd k x, wholeI wd k y, by rw [unl, hs]; rfl, t1.trans t2.symm, hs⟩
    · have hp := congrArg Prod.snd (sameI_eq hs)
      simp only [wholeI, List.cons.injEq, and_true] at hp
      have hd := be8_inj (digP_bd wd k _ _) (digP_bd wd k _ _) hp
      have he : sameI (endI x) (endI y) = false := by
        cases hh : sameI (endI x) (endI y)
        · rfl
        · have hq := congrArg Prod.snd (sameI_eq hh)
          simp only [endI, List.cons.injEq, and_true] at hq
          refine absurd ?_ hv
          unfold checkV
          rw [h1, h2, hq.1, hq.2]
      obtain ⟨a, b, i1, i2, i3⟩ := unl_downP wd k (endI x) (endI y) rfl rfl he x.turns y.turns g1.low g2.low hd
      exact ⟨a, b, by rw [unl, hs]; exact i1, i2, i3⟩
theorem downP_parts (wd : Int) (k : Key) (e : ImgP) (he : e.2.length ≤ maxLen ∧ Short e.2) : ∀ ts, ∀ a ∈ downP wd k e ts, a.2.length ≤ maxLen ∧ Short a.2
  | [], a, h => by
    rw [downP, List.mem_singleton] at h
    rw [h]; exact he
  | t :: ts, a, h => by
    rw [downP, List.mem_cons] at h
    rcases h with rfl | h
    · exact ⟨by rw [forkS_len]; simp [maxLen], forkS_short _ _ _⟩
    · exact downP_parts wd k e he ts a h
theorem climbL_parts (wd : Int) (k : Key) (x : ProofD) (hk : x.key.length ≤ maxLen) (hv : x.value.length ≤ maxLen) : ∀ a ∈ climbL wd k x, a.2.length ≤ maxLen ∧ Short a.2 := fun a ha => by
  unfold climbL at ha
  split at ha
  · rcases List.mem_cons.1 ha with rfl | ha
    · exact ⟨by simp [wholeI, maxLen], short1 _⟩
    · exact downP_parts wd k _ ⟨by simp [endI, maxLen], short2 hk hv⟩ _ a ha
  · rw [List.mem_singleton] at ha
    rw [ha]
    exact ⟨by simp [noneI], fun p hp => by simp [noneI] at hp⟩
theorem clashP_tell (wd R : Int) (k : Key) (x y : ProofD) : TellS wd (clashP wd R k x y) (decide (checkE wd R k x = 0) && decide (checkE wd R k y = 0) && decide (checkV wd R k x ≠ checkV wd R k y)) := by
  unfold TellS clashP
  by_cases hc : checkE wd R k x ≠ 0 ∨ checkE wd R k y ≠ 0 ∨ checkV wd R k x = checkV wd R k y
  · rw [if_pos hc]
    refine .inl ⟨rfl, ?_⟩
    rcases hc with hc | hc | hc <;> simp [hc]
  · rw [if_neg hc]
    simp only [not_or, ne_eq, Decidable.not_not] at hc
    obtain ⟨h1, h2, h3⟩ := hc
    obtain ⟨a, b, e1, e2, e3⟩ := clash_exP wd R k x y h1 h2 h3
    obtain ⟨m1, m2⟩ := unl_mem _ _ _ _ e1
    obtain ⟨_, g1, _⟩ := climbE_zero (checkE_zero h1).1
    obtain ⟨_, g2, _⟩ := climbE_zero (checkE_zero h2).1
    have p1 := climbL_parts wd k x (by have := g1.key; unfold maxLen; omega) (by have := g1.value; unfold maxLen; omega) a m1
    have p2 := climbL_parts wd k y (by have := g2.key; unfold maxLen; omega) (by have := g2.value; unfold maxLen; omega) b m2
    exact .inr ⟨a, b, e1, by simp [h1, h2, h3], e2, e3, p1.1, p2.1, p1.2, p2.2⟩
/-! ### the tree's own proof -/
theorem Tr.below_pos {p q : Nat} {l r a b : Tr} (h : (Tr.fork p l r).ok) (hs : (Tr.fork q a b = l) ∨ (Tr.fork q a b = r)) : p < q := by
  obtain ⟨hl, hr, h3, h4, h5⟩ := h
  have key : ∀ (v : Bool) (s : Tr), s.ok → s = Tr.fork q a b → (∀ x, x ∈ s.items → bitB x.1 p = v) → (∀ x, x ∈ s.items → ∀ y, y ∈ s.items → Agree x.1 y.1 p) → p < q := by
    rintro v s hok rfl hv ha
    obtain ⟨_, _, g3, g4, _⟩ := hok
    obtain ⟨x, hx⟩ := List.exists_mem_of_ne_nil _ a.items_ne
    obtain ⟨y, hy⟩ := List.exists_mem_of_ne_nil _ b.items_ne
    have hx' : x ∈ (Tr.fork q a b).items := List.mem_append_left _ hx
    have hy' : y ∈ (Tr.fork q a b).items := List.mem_append_right _ hy
    have e1 := g3 x hx
    have e2 := g4 y hy
    rcases Nat.lt_trichotomy p q with hlt | he | hgt
    · exact hlt
    · subst he; rw [hv x hx'] at e1; rw [hv y hy'] at e2; rw [e1] at e2; cases e2
    · have := ha x hx' y hy' q hgt; rw [e1, e2] at this; cases this
  rcases hs with e | e
  · exact key false l hl e.symm h3 (fun x hx y hy => h5 x (List.mem_append_left _ hx) y (List.mem_append_left _ hy))
  · exact key true r hr e.symm h4 (fun x hx y hy => h5 x (List.mem_append_right _ hx) y (List.mem_append_right _ hy))
/-- the places go up -/
def Ups : Int → List TurnD → Prop
  | _, [] => True
  | m, t :: ts => m < t.p ∧ Ups t.p ts
theorem turnsT_ups (wd : Int) (k : Key) : ∀ (t : Tr) (m : Int), t.ok → (∀ q a b, t = Tr.fork q a b → m < (q : Int)) → Ups m (turnsT wd k t)
  | .leaf _ _, _, _, _ => trivial
  | .fork p l r, m, h, hm => by
    have hp := hm p l r rfl
    rw [turnsT]
    split
    · exact ⟨hp, turnsT_ups wd k r p h.2.1 fun q a b e => by have := Tr.below_pos h (.inr e.symm); omega⟩
    · exact ⟨hp, turnsT_ups wd k l p h.1 fun q a b e => by have := Tr.below_pos h (.inl e.symm); omega⟩
theorem turnsT_pos (wd : Int) (k : Key) : ∀ (t : Tr), t.ok → (∀ x, x ∈ t.items → x.1.length ≤ 32) → ∀ u ∈ turnsT wd k t, 0 ≤ u.p ∧ u.p ≤ 287
  | .leaf _ _, _, _, u, hu => by simp [turnsT] at hu
  | .fork p l r, h, hk, u, hu => by
    have hp := Tr.pos_lt h hk
    rw [turnsT] at hu
    split at hu <;> rcases List.mem_cons.1 hu with rfl | hu
    · exact ⟨by simp, by simp; omega⟩
    · exact turnsT_pos wd k r h.2.1 (fun x hx => hk x (List.mem_append_right _ hx)) u hu
    · exact ⟨by simp, by simp; omega⟩
    · exact turnsT_pos wd k l h.1 (fun x hx => hk x (List.mem_append_left _ hx)) u hu
theorem ups_len : ∀ (l : List TurnD) (m : Int), Ups m l → (∀ u ∈ l, u.p ≤ 287) → m ≤ 287 → (l.length : Int) ≤ 287 - m
  | [], m, _, _, h => by simp; omega
  | t :: ts, m, h, hu, _ => by
    have i := ups_len ts t.p h.2 (fun u hu' => hu u (by simp [hu'])) (hu t (by simp))
    have := h.1
    rw [List.length_cons]
    omega
theorem ups_at : ∀ (l : List TurnD) (m : Int), Ups m l → ∀ j, j < l.length → (if j = 0 then m else (l.getD (j - 1) ⟨0, 0⟩).p) < (l.getD j ⟨0, 0⟩).p
  | t :: ts, m, h, 0, _ => by simpa using h.1
  | t :: ts, m, h, j + 1, hj => by
    have i := ups_at ts t.p h.2 j (by simpa using hj)
    cases j with
    | zero => simpa using i
    | succ j => simpa using i
theorem ups_all {l : List TurnD} (h : Ups (-1) l) : ∀ n, n ≤ l.length → allTo (turnOkAt l) n = true
  | 0, _ => rfl
  | n + 1, hn => by
    rw [allTo, ups_all h n (by omega), Bool.true_and]
    unfold turnOkAt prevT
    exact decide_eq_true (ups_at l (-1) h n (by omega))
theorem digP_turns (wd : Int) (k : Key) : ∀ t : Tr, digP wd k (3, [(t.find k).1, (t.find k).2]) (turnsT wd k t) = digT wd t
  | .leaf a v => rfl
  | .fork p l r => by
    rw [turnsT, Tr.find]
    cases hb : bitB k p
    · simp only [Bool.false_eq_true, if_false]
      rw [digP, digP_turns wd k l]
      unfold forkS
      simp only [Int.toNat_natCast, hb, Bool.false_eq_true, if_false]
      rfl
    · simp only [if_true]
      rw [digP, digP_turns wd k r]
      unfold forkS
      simp only [Int.toNat_natCast, hb, if_true]
      rfl
theorem turnsT_fit (wd : Int) (k : Key) : ∀ t : Tr, t.ok → (turnsT wd k t).all (fitB k (t.find k).1) = true
  | .leaf a v, _ => rfl
  | .fork p l r, h => by
    rw [turnsT, Tr.find]
    cases hb : bitB k p
    · simp only [Bool.false_eq_true, if_false, List.all_cons, turnsT_fit wd k l h.1, Bool.and_true]
      unfold fitB
      simp only [Int.toNat_natCast, hb, h.2.2.1 _ (Tr.find_mem k l)]
      rfl
    · simp only [if_true, List.all_cons, turnsT_fit wd k r h.2.1, Bool.and_true]
      unfold fitB
      simp only [Int.toNat_natCast, hb, h.2.2.2.1 _ (Tr.find_mem k r)]
      rfl
theorem turnsT_len {wd : Int} {k : Key} {t : Tr} (h : t.ok) (hk : ∀ x, x ∈ t.items → x.1.length ≤ 32) : (turnsT wd k t).length ≤ 288 := by
  have := ups_len _ (-1) (turnsT_ups wd k t (-1) h fun q a b _ => by omega) (fun u hu => (turnsT_pos wd k t h hk u hu).2) (by omega)
  omega
/-- what Prove answers -/
def IsProof (wd : Int) (k : Key) : Option Tr → ProofD → Prop
  | none, x => x.turns = [] ∧ x.leaf = false ∧ x.key = [] ∧ x.value = []
  | some t, x => x.turns = turnsT wd k t ∧ x.leaf = true ∧ x.key = (t.find k).1 ∧ x.value = (t.find k).2
theorem proof_good {wd : Int} {k : Key} {t : Option Tr} {x : ProofD} (hk : k.length ≤ 32) (hok : Tr.ook t) (hit : ∀ y, y ∈ Tr.oitems t → y.1.length ≤ 32 ∧ y.2.length ≤ 4096 ∧ y.2 ≠ []) (h : IsProof wd k t x) :
    checkE wd (rootT wd t) k x = 0 ∧ checkV wd (rootT wd t) k x = getO k t := by
  have hE : checkE wd (rootT wd t) k x = 0 := by
    cases t with
    | none =>
      obtain ⟨h1, h2, h3, h4⟩ := h
      have hg : GoodP x := ⟨by simp [h1], by simp [h1], by simp [h3], by simp [h4], by rw [h1]; rfl, by unfold proofOk; rw [h1, h2, h3, h4]; rfl⟩
      have hc : climbE k x = 0 := by
        unfold climbE
        rw [if_neg (by omega), proof_re.2 hg, if_neg (by simp), if_neg (by simp [h2])]
      unfold checkE
      rw [if_neg (by simp [hc]), if_neg]
      unfold topP topI
      rw [h2]
      simp [rootT, noneI]
    | some t =>
      obtain ⟨h1, h2, h3, h4⟩ := h
      have hok : t.ok := hok
      have hmem := hit _ (Tr.find_mem k t)
      have hk32 : ∀ y, y ∈ t.items → y.1.length ≤ 32 := fun y hy => (hit y hy).1
      have hups := turnsT_ups wd k t (-1) hok fun q a b _ => by omega
      have hg : GoodP x := ⟨by rw [h1]; exact turnsT_len hok hk32, by rw [h1]; exact turnsT_pos wd k t hok hk32, by rw [h3]; exact hmem.1, by rw [h4]; exact hmem.2.1, by rw [h1]; exact ups_all hups _ (Nat.le_refl _), by
        unfold proofOk
        have : emp x.value = false := by
          rw [h4]
          have := hmem.2.2
          unfold emp
          revert this
          cases (t.find k).2 <;> simp
        rw [h2, this]; rfl⟩
      have hc : climbE k x = 0 := by
        unfold climbE
        rw [if_neg (by omega), proof_re.2 hg, if_neg (by simp), if_neg]
        rw [h1, h3, turnsT_fit wd k t hok]
        simp
      unfold checkE
      rw [if_neg (by simp [hc]), if_neg]
      unfold topP topI
      rw [h2]
      simp only [if_true, rootT, wholeI, endI, h1, h3, h4, digP_turns, ne_eq, not_true_eq_false, not_false_eq_true]
  refine ⟨hE, ?_⟩
  unfold checkV
  rw [hE]
  simp only [true_and]
  cases t with
  | none =>
    obtain ⟨h1, h2, h3, h4⟩ := h
    rw [h4]
    simp [getO, Tr.oitems, getL]
  | some t =>
    obtain ⟨h1, h2, h3, h4⟩ := h
    unfold getO
    by_cases hf : x.key = k
    · rw [if_pos hf, h4]
      exact (Tr.get_yes (show t.ok from hok) (by rw [← h3]; exact hf)).symm
    · rw [if_neg hf]
      exact (Tr.get_no (show t.ok from hok) (by rw [← h3]; exact hf)).symm
end Go.Proofs.Ytjjkdmngmopjbaa
