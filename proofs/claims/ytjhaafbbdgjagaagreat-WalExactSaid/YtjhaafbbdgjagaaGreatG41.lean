/- Of the texts St0, St1. -/
import Derived.Test.YtjhaafbbdgjagaaGreatG39
import Derived.Test.YtjhaafbbdgjagaaGreatG40
set_option linter.unusedSimpArgs false
set_option linter.unusedVariables false
namespace Go.Proofs.YtjhaafbbdgjagaaGreat
open Go.RowKit Vc
set_option maxRecDepth 100000
theorem list_map_out {α β : Type} (S : Out) (l : List α) (g : α → β) (n : Int) (f : Out → β → Out) : S.list (l.map g) n f = S.list l n fun S x => f S (g x) := by unfold Out.list; rw [List.foldl_map, List.length_map]
theorem sumL_map {α β : Type} (l : List α) (g : α → β) (f : β → Nat) : sumL f (l.map g) = sumL (fun x => f (g x)) l := by unfold sumL; rw [List.foldl_map]
theorem cert_strip (S : Out) (x : CertD) : S.cert (certR.strip x) = S.cert x := rfl
theorem proof_strip (S : Out) (x : ProofD) : S.proof (proofR.strip x) = S.proof x := rfl
theorem sight_strip (S : Out) (x : SightD) : S.sight (sightR.strip x) = S.sight x := rfl
theorem tx_strip (S : Out) (x : TxD) : S.tx (txR.strip x) = S.tx x := by
 unfold Out.tx; simp only [txR, list_map_out, txOk1, txOk2, txOk3, List.length_map, sight_strip, proof_strip]; rfl
theorem block_strip (S : Out) (x : BlockD) : S.block (blockR.strip x) = S.block x := by
 unfold Out.block; simp only [blockR, list_map_out, tx_strip]
theorem motion_strip (S : Out) (x : MotionD) : S.motion (motionR.strip x) = S.motion x := by
 unfold Out.motion; simp only [motionR, list_map_out, block_strip, cert_strip]; rfl
theorem known_strip (S : Out) (x : KnownD) : S.known (knownR.strip x) = S.known x := by
 unfold Out.known; simp only [knownR, block_strip, cert_strip]
theorem noMotion_strip (x : MotionD) : noMotion (motionR.strip x) = noMotion x := by
 simp only [noMotion, motionR, blockR, noBlock, List.length_map, List.isEmpty_map]; rfl
theorem noKnown_strip (x : KnownD) : noKnown (knownR.strip x) = noKnown x := by
 simp only [noKnown, knownR, blockR, certR, noBlock, noCert, List.length_map, List.isEmpty_map]; rfl
theorem record_strip (S : Out) (x : RecordD) : S.record (recordR.strip x) = S.record x := by
 unfold Out.record Out.what; simp only [recordR, noMotion_strip, noKnown_strip, motion_strip, known_strip]; rfl
theorem certM_strip (x : CertD) : certM (certR.strip x) = certM x := rfl
theorem proofM_strip (x : ProofD) : proofM (proofR.strip x) = proofM x := rfl
theorem sightM_strip (x : SightD) : sightM (sightR.strip x) = sightM x := rfl
theorem txM_strip (x : TxD) : txM (txR.strip x) = txM x := by
 simp only [txM, txR, sumL_map, sightM_strip, proofM_strip]
theorem blockM_strip (x : BlockD) : blockM (blockR.strip x) = blockM x := by
 simp only [blockM, blockR, sumL_map, txM_strip]
theorem motionM_strip (x : MotionD) : motionM (motionR.strip x) = motionM x := by
 simp only [motionM, motionR, sumL_map, blockM_strip, certM_strip]
theorem knownM_strip (x : KnownD) : knownM (knownR.strip x) = knownM x := by
 simp only [knownM, knownR, blockM_strip, certM_strip]
theorem recordM_strip (x : RecordD) : recordM (recordR.strip x) = recordM x := by
 simp only [recordM, recordR, motionM_strip, knownM_strip]
def Lim {α : Type} (p : ByteArray → Got α) (P : α → Prop) : Prop := ∀ s x r, p s = .ok (x, r) → P x
theorem Lim.bind {α β : Type} {p : ByteArray → Got α} {f : α → ByteArray → Got β} {P : α → Prop} {Q : β → Prop} (h : Lim p P) (g : ∀ x, P x → Lim (f x) Q) : Lim (pBind p f) Q := by
 intro s y r hs; unfold pBind at hs; split at hs
 ·cases hs
 ·next x t hx => exact g x (h s x t hx) t y r hs
theorem Lim.ok {α : Type} {Q : α → Prop} {v : α} (h : Q v) : Lim (fun z => .ok (v, z)) Q := by
 intro s y r hs; simp only [Except.ok.injEq, Prod.mk.injEq] at hs; rw [← hs.1]; exact h
theorem Lim.any {α : Type} (p : ByteArray → Got α) : Lim p fun _ => True := fun _ _ _ _ => trivial
theorem Lim.upto (n : Int) : Lim (pUpTo n) fun x => x ≤ n := by
 intro s x r h; unfold pUpTo at h; split at h
 ·cases h
 ·split at h
  ·cases h
  ·split at h
   ·cases h
   ·split at h
    ·cases h
    ·split at h
     ·cases h
     ·simp only [Except.ok.injEq, Prod.mk.injEq] at h; omega
theorem Lim.rep {α : Type} {p : ByteArray → Got α} {P : α → Prop} (h : Lim p P) : ∀ k, Lim (pRep p k) fun l => l.length = k ∧ ∀ x ∈ l, P x
 | 0 => by
  intro s l r hs; simp only [pRep, Except.ok.injEq, Prod.mk.injEq] at hs; rw [← hs.1]; exact ⟨rfl, fun _ h => absurd h (by simp)⟩
 | k + 1 => by
  intro s l r hs; unfold pRep at hs; split at hs
  ·cases hs
  ·next x s1 hx =>
   split at hs
   ·cases hs
   ·next l' s2 hl =>
    simp only [Except.ok.injEq, Prod.mk.injEq] at hs; obtain ⟨h1, h2⟩ := Lim.rep h k s1 l' s2 hl; rw [← hs.1]; refine ⟨by rw [List.length_cons, h1], fun y hy => ?_⟩
    rcases List.mem_cons.1 hy with rfl | hy
    ·exact h _ _ _ hx
    ·exact h2 y hy
theorem Lim.list {α : Type} {p : ByteArray → Got α} {P : α → Prop} (n : Int) (hn : 0 ≤ n) (h : Lim p P) : Lim (pList n p) fun l => (l.length : Int) ≤ n ∧ ∀ x ∈ l, P x := by
 rw [pList_eq]; refine (Lim.upto n).bind fun k hk => fun s l r hs => ?_
 obtain ⟨h1, h2⟩ := h.rep k.toNat s l r hs; exact ⟨by omega, h2⟩
theorem Lim.text (n : Int) (hn : 0 ≤ n) : Lim (pText n) fun t => (t.size : Int) ≤ n := by
 refine (Lim.upto n).bind fun k hk => fun s l r hs => ?_
 have := pTake_len hs; omega
theorem pcert_lim : Lim pCert lim_cert := by
 unfold pCert; exact (Lim.any _).bind fun _ _ => (Lim.any _).bind fun _ _ => (Lim.any _).bind fun _ _ => (Lim.any _).bind fun _ _ => (Lim.any _).bind fun _ _ => (Lim.list 7 (by decide) (Lim.any _)).bind fun l h => Lim.ok (by
  show certM _ ≤ 14; dsimp only [certM]; omega)
theorem pbench_lim : Lim pBench lim_bench := by
 unfold pBench; exact (Lim.list 7 (by decide) (Lim.any _)).bind fun l h => Lim.ok (by show l.length ≤ 7; omega)
theorem pproof_lim : Lim pProof lim_proof := by
 unfold pProof; exact (Lim.list 288 (by decide) (Lim.any _)).bind fun l h => (Lim.any _).bind fun _ _ => (Lim.text 32 (by decide)).bind fun k hk => (Lim.text 4096 (by decide)).bind fun v hv => Lim.ok (by
  show proofM _ ≤ 5000; have s1 := sumL_le (f := turnM) (c := 3) (l := l) fun x hx => Nat.le_refl _
  have s2 := size_list k; have s3 := size_list v; dsimp only [proofM]; omega)
theorem psight_lim : Lim pSight lim_sight := by
 unfold pSight; exact (Lim.any _).bind fun _ _ => pcert_lim.bind fun c hc => pbench_lim.bind fun b hb => Lim.ok (by
  show sightM _ ≤ 60; have s1 : certM c ≤ 14 := hc; have s2 : b.l.length ≤ 7 := hb; dsimp only [sightM, headerM]; omega)
theorem ptx_lim : Lim pTx lim_tx := by
 unfold pTx; exact (Lim.any _).bind fun _ _ => (Lim.any _).bind fun _ _ => (Lim.any _).bind fun _ _ => (Lim.any _).bind fun _ _ => (Lim.any _).bind fun _ _ => (Lim.any _).bind fun _ _ => (Lim.any _).bind fun _ _ => (Lim.text 2048 (by decide)).bind fun t ht => (Lim.list 8 (by decide) (Lim.any _)).bind fun l hl => (Lim.list 1 (by decide) psight_lim).bind fun m hm => (Lim.list 1 (by decide) pproof_lim).bind fun q hq => Lim.ok (by
  show txM _ ≤ 7300; have s1 := sumL_le (f := sightM) (c := 60) (l := m) hm.2; have s2 := sumL_le (f := proofM) (c := 5000) (l := q) hq.2; have s3 := size_list t; dsimp only [txM]; omega)
theorem pblock_lim : Lim pBlock lim_block := by
 unfold pBlock; exact (Lim.any _).bind fun _ _ => (Lim.list 16 (by decide) ptx_lim).bind fun l hl => (Lim.list 4 (by decide) (Lim.any _)).bind fun g hg => Lim.ok (by
  show blockM _ ≤ 117000; have s1 := sumL_le (f := txM) (c := 7300) (l := l) hl.2; have s2 := sumL_le (f := guiltM) (c := 15) (l := g) fun x hx => Nat.le_refl _
  dsimp only [blockM, headerM]; omega)
theorem pmotion_lim : Lim pMotion lim_motion := by
 unfold pMotion; exact (Lim.any _).bind fun _ _ => (Lim.any _).bind fun _ _ => pblock_lim.bind fun b hb => (Lim.list 1 (by decide) pcert_lim).bind fun l hl => Lim.ok (by
  show motionM _ ≤ 117100; have s1 : blockM b ≤ 117000 := hb; have s2 := sumL_le (f := certM) (c := 14) (l := l) hl.2; dsimp only [motionM]; omega)
theorem pknown_lim : Lim pKnown lim_known := by
 unfold pKnown; exact pcert_lim.bind fun c hc => pblock_lim.bind fun b hb => Lim.ok (by
  show knownM _ ≤ 117100; have s1 : certM c ≤ 14 := hc; have s2 : blockM b ≤ 117000 := hb; dsimp only [knownM]; omega)
theorem precord_lim : Lim pRecord lim_record := by
 unfold pRecord; have m1 := lim_motionZ; have m2 := lim_knownZ; refine (Lim.any _).bind fun k _ => ?_
 split
 ·exact (Lim.any _).bind fun _ _ => Lim.ok (by show recordM _ ≤ 240000; dsimp only [recordM, voteM]; omega)
 ·split
  ·exact pmotion_lim.bind fun m hm => Lim.ok (by have s1 : motionM m ≤ 117100 := hm; show recordM _ ≤ 240000; dsimp only [recordM, voteM]; omega)
  ·split
   ·exact pknown_lim.bind fun m hm => Lim.ok (by have s1 : knownM m ≤ 117100 := hm; show recordM _ ≤ 240000; dsimp only [recordM, voteM]; omega)
   ·exact Lim.ok (by show recordM _ ≤ 240000; dsimp only [recordM, voteM]; omega)
end Go.Proofs.YtjhaafbbdgjagaaGreat
