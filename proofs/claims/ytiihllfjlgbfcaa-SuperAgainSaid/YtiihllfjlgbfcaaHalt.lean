/- To stand still ahead of the operation whose result a temporary takes. -/
import Derived.Test.YtiihllfjlgbfcaaArrOps
namespace Go.Proofs.Ytiihllfjlgbfcaa
section
variable {P : Program} {ops : Array Oper} {Q : Exit → Act → World → Prop} {rest : List Oper} {a : Act} {w : World}
theorem halt_dst (n : Nat) {op ty pos af gd} (h : Stop (wpList P ops Q (⟨some n, op, ty, pos, af, gd⟩ :: rest) a w)) : wpList P ops Q (⟨some n, op, ty, pos, af, gd⟩ :: rest) a w := h
theorem L.go (h : wpList P ops Q rest a w) : Stop (wpList P ops Q rest a w) := h
end
end Go.Proofs.Ytiihllfjlgbfcaa
