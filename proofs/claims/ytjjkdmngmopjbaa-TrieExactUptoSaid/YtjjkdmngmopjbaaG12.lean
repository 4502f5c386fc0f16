/- Of the texts Tri11. -/
import Derived.Test.YtjjkdmngmopjbaaProg
import Derived.Test.YtjjkdmngmopjbaaG10
import Derived.Lib.Strings
namespace Go.Proofs.Ytjjkdmngmopjbaa
open Go.RowKit
theorem bs_extract (s : Key) (n : Nat) : (bs s).extract 0 n = bs (s.take n) := by
  apply ByteArray.ext
  simp [bs, ByteArray.data_extract]
theorem take_pre (p s : Key) (h : p.length ≤ s.length) : (s.take p.length == p) = preB p s := by
  unfold preB
  cases hb : p.isPrefixOf s
  · rw [beq_eq_false_iff_ne]
    intro e
    have : p <+: s := by rw [← e]; exact List.take_prefix _ _
    rw [← List.isPrefixOf_iff_prefix, hb] at this; cases this
  · rw [beq_iff_eq]
    exact (List.prefix_iff_eq_take.mp (List.isPrefixOf_iff_prefix.mp hb)).symm
theorem short_pre (p s : Key) (h : ¬ p.length ≤ s.length) : preB p s = false := by
  unfold preB
  cases hb : p.isPrefixOf s
  · rfl
  · exact absurd (List.isPrefixOf_iff_prefix.mp hb).length_le h
set_option maxRecDepth 100000 in
theorem slHasPrefix_any (s p : Key) (w : World) :
    Calls Try.prog 147 #[.string (bs s), .string (bs p)] w fun e w' => e = .returned (.bool (preB p s)) ∧ w = w' := by
  by_cases h : p.length ≤ s.length
  · have hi : decide ((p.length : Int) ≤ (s.length : Int)) = true := decide_eq_true (by omega)
    have hi2 : (p.length : Int) ≤ (s.length : Int) := by omega
    have he := Lib.hid (take_pre p s h)
    have hx := bs_extract s p.length
    generalize preB p s = b at *
    go_enter Try.func147, Try.ntmps147
    go_wp2_with fail
    go_ret
    exact ⟨ret_bool (by rw [← he.out]), rfl⟩
  · have hi : decide ((p.length : Int) ≤ (s.length : Int)) = false := decide_eq_false (by omega)
    have he := short_pre p s h
    generalize preB p s = b at *
    subst he
    go_enter Try.func147, Try.ntmps147
    go_wp2_with fail
    go_ret
    exact ⟨rfl, rfl⟩
set_option maxRecDepth 100000 in
theorem hasPrefix_any (s p : Key) (w : World) :
    Calls Try.prog 111 #[.string (bs s), .string (bs p)] w fun e w' => e = .returned (.bool (preB p s)) ∧ w = w' := by
  have h := slHasPrefix_any s p w
  generalize preB p s = b at *
  go_enter Try.func111, Try.ntmps111
  go_wp2_with fail
  refine h.mono ?_
  rintro e w1 ⟨rfl, rfl⟩
  go_wp2_with fail
  go_ret
  exact ⟨rfl, rfl⟩
end Go.Proofs.Ytjjkdmngmopjbaa
