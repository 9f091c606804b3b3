/- copy over bytes of a block. -/
import Derived.Test.YtiihllfjlgbfcaaPut
import Derived.Laws.CopyOwn
namespace Go.Proofs.Ytiihllfjlgbfcaa
open Go.RowKit
theorem L.copy8 {w : World} {ops : Array Oper} {rest : List Oper} {o : Oper} {a : Act} {Q : Exit → Act → World → Prop} (hgd : o.guard = none) (d s : Operand)
    (ho : o.op = .call { callee := .builtin .copy, args := #[d, s], argTypes := #[22, 22] }) {g off n dc sc : Nat} {T : TypeId} {L m : List UInt8} {sp : Option Addr}
    (hd : a.eval d = .slice (some ⟨g, off, none⟩) n dc) (hs : a.eval s = .slice sp m.length sc) (hB : Blk w g T (L.map b8)) (hrd : Rd w sp (m.map b8)) (hn : m.length ≤ n) (hfit : off + m.length ≤ L.length)
    (h : ∀ w', Blk w' g T ((put L off m).map b8) → w.grownBy w' (some g) → wpList Try.prog ops Q rest (a.put o.dst (goInt m.length)) w') : wpList Try.prog ops Q (o :: rest) a w := by
  have hput : (L.map b8).take off ++ m.map b8 ++ (L.map b8).drop (off + m.length) = (put L off m).map b8 := by simp [put, List.map_take, List.map_drop]
  by_cases h0 : m.length = 0
  · obtain rfl : m = [] := List.eq_nil_of_length_eq_zero h0
    refine wpList_copy_nothing hgd d s 22 22 ho 5 Try.underlying22 size5 _ sp n dc 0 sc hd hs (by simp) ?_
    exact h w (by rw [put_nil]; exact hB) (World.grownBy.refl _ _)
  · obtain ⟨ad, rfl, -⟩ := hrd 0 (by simp; omega)
    refine wpList_copy_own hgd d s 22 22 ho 5 Try.underlying22 size5 g off n dc ad m.length sc hd hs (L.map b8).toArray T hB (m.map b8) (by rw [List.length_map]; exact (Nat.min_eq_left hn).symm) hrd.cells (by simpa using hfit) (b8_oneCell m) ?_
    have := h (w.setRow g ((put L off m).map b8).toArray) (hB.row _) (grown_row _ _ _)
    rw [← hput] at this
    simpa using this
end Go.Proofs.Ytiihllfjlgbfcaa
