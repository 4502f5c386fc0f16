/- What write answers, of each kind of thing. -/
import Derived.Test.YtjjkdmngmopjbaaProg
import Derived.Test.YtjjkdmngmopjbaaWr8
namespace Go.Proofs.Ytjjkdmngmopjbaa
open Go.RowKit
set_option maxRecDepth 100000 in
theorem conv_nil (w : World) : Sem.run Try.prog (convert 144 9 (.slice none 0 0)) w = .ok (.string (bs [])) w := by kernel_rfl
theorem strOfNums_u8 (l : List UInt8) : strOfNums (l.map fun c => (c.toNat : Int)) = bs l := by
  simp [strOfNums, bs, Function.comp_def]
set_option maxRecDepth 100000 in
theorem conv_own (w : World) {base : Nat} {v : Value} {l : List UInt8} (ho : w.ownsRow base 5 1 v l.length (u8s l)) : Sem.run Try.prog (convert 144 9 v) w = .ok (.string (bs l)) w := by
  by_cases h0 : v = .slice none 0 0
  · subst h0
    have hl : l = [] := by
      rcases ho.2 with ⟨_, h⟩ | ⟨g, cap, cur, e, _⟩
      · exact List.eq_nil_of_length_eq_zero h
      · cases e
    subst hl
    exact conv_nil w
  · rcases ho.2 with ⟨h, _⟩ | ⟨g, cap, cur, rfl, hb, hh, hn, hc, hs, ht⟩
    · exact absurd h h0
    · have := run_convert_bytes_arg (P := Try.prog) w 144 5 Try.underlying144 Try.underlying5 g 0 l.length cap (l.map fun c => (c.toNat : Int)) (by simp) (fun i hi => by
        rw [Nat.zero_add, cell_of_row w g i cur 5 (0, 0) hh]
        have h1 : cur.toList[i]? = (u8s l)[i]? := by rw [← ht, List.getElem?_take, if_pos (by omega)]
        rw [show cur[i]? = cur.toList[i]? by simp, h1]
        simp [u8s, List.getElem?_eq_getElem hi, List.getD, List.getElem?_map]) 9 Try.underlying9
      rw [strOfNums_u8] at this
      exact this
def Out.rs (S : Out) : List UInt8 := if S.far then [] else if S.odd then [] else S.b
def Out.re (S : Out) : Int := if S.far then 3 else if S.odd then 2 else 0
theorem Wrt.new (w : World) : Wrt (w.alloc (.cells #[.slice none 0 0, .bool false, .bool false] 164)) w.heap.size Out.empty :=
  ⟨.slice none 0 0, Blk.new _ _ _, World.ownsRow_nil _ _ _ _⟩
theorem Ref.new (w : World) : Ref (w.alloc (.cells #[.string ⟨#[]⟩, .bool false, .bool false] 122)) w.heap.size Out.empty :=
  ⟨[], false, Blk.new _ _ _, Nat.le_refl _, fun _ => ⟨rfl, rfl⟩⟩
set_option maxRecDepth 100000 in
theorem rout_any (w : World) (g : Nat) (S : Out) (h : Ref w g S) :
    Calls Try.prog 54 #[.pointer (some ⟨g, 0, none⟩)] w fun e w' => e = .returned (.tuple #[.string (bs S.rs), .int .i64 S.re]) ∧ w = w' := by
  obtain ⟨l, o, hb, hln, ho⟩ := h
  have hgt := hb.lt
  have c0 := (hb.cell 0).trans (show _ = some (Value.string (bs l)) from rfl)
  have c1 := (hb.cell 1).trans (show _ = some (Value.bool S.far) from rfl)
  have c2 := (hb.cell 2).trans (show _ = some (Value.bool o) from rfl)
  obtain ⟨b, far, odd⟩ := S
  dsimp only at *
  cases far
  · obtain ⟨rfl, rfl⟩ := ho rfl
    clear ho
    cases o
    · go_enter Try.func54, Try.ntmps54
      go_wp2_with fail
      go_ret2
      exact ⟨rfl, rfl⟩
    · go_enter Try.func54, Try.ntmps54
      go_wp2_with fail
      go_ret2
      exact ⟨rfl, rfl⟩
  · clear ho
    go_enter Try.func54, Try.ntmps54
    go_wp2_with fail
    go_ret2
    exact ⟨rfl, rfl⟩
end Go.Proofs.Ytjjkdmngmopjbaa
