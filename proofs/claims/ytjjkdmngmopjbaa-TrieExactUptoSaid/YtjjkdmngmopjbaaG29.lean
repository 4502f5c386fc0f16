/- Of the texts Trn. -/
import Derived.Test.YtjjkdmngmopjbaaProg
import Derived.Test.YtjjkdmngmopjbaaG09
import Derived.Test.YtjjkdmngmopjbaaG26
namespace Go.Proofs.Ytjjkdmngmopjbaa
open Go.RowKit
/-- the turns on the way to a key's end -/
def turnsT (wd : Int) (k : Key) : Tr → List TurnD
  | .leaf _ _ => []
  | .fork p l r => if bitB k p then ⟨(p : Int), digT wd l⟩ :: turnsT wd k r else ⟨(p : Int), digT wd r⟩ :: turnsT wd k l
theorem turnsT_ok (wd : Int) (k : Key) : ∀ t : Tr, ∀ x ∈ turnsT wd k t, x.ok
  | .leaf _ _, x, h => by simp [turnsT] at h
  | .fork p l r, x, h => by
    rw [turnsT] at h
    split at h <;> rcases List.mem_cons.1 h with rfl | h
    · exact digT_bd wd l
    · exact turnsT_ok wd k r x h
    · exact digT_bd wd r
    · exact turnsT_ok wd k l x h
end Go.Proofs.Ytjjkdmngmopjbaa
