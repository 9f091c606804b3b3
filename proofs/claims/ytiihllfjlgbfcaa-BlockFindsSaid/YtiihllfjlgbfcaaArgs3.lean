/- Arguments that are nodes, opened. -/
import Derived.Test.YtiihllfjlgbfcaaArgs2
import Derived.Test.YtiihllfjlgbfcaaNode
import Derived.Lib.SmallJoins
namespace Go.Proofs.Ytiihllfjlgbfcaa
open Go.RowKit Go.ChangeShapes Go.WideShapes
/-- What the walk is told of a node that came in. -/
def OpenedNode (w : World) (v : Value) : Prop :=
  ∃ (k b : Int) (ka : Option Addr) (kn kc : Nat) (kz : List Int) (va : Option Addr) (vn vc : Nat) (vz : List Int), v = .agg #[.int .i64 k, .int .u64 b, .slice ka kn kc, .slice va vn vc] ∧
    (Lit.int .i64 k).wf = true ∧ (Lit.int .u64 b).wf = true ∧ Opened .u64 w ka kn kc kz ∧ Opened .u64 w va vn vc vz
theorem open_u64s {H : Type} {enc : TypeId × Value → H} {W : World} {base : Nat} {held : Bool} {n : Nat} {v : Value} {x : DataW H × List MemPlace} (h : DataW.trod enc Try.prog W base (fun _ => true) held n 93 [v] = some x) :
    ∃ a len cap zs, v = .slice a len cap ∧ Opened .u64 W a len cap zs := by
  rcases open_ints Try.underlying93 Try.underlying75 (by kernel_rfl) h with ⟨hcs, _⟩ | ⟨x, l, c, zs, hcs, _, hl, hm, hz, _, hcell, hwz⟩
  · simp at hcs
    exact ⟨none, 0, 0, [], hcs, .inl ⟨rfl, rfl, rfl, rfl⟩⟩
  · simp at hcs
    exact ⟨_, l, c, zs, hcs, .inr ⟨_, rfl, hl, hm, by simpa using hz, hcell, hwz⟩⟩
set_option maxRecDepth 100000 in
theorem open_node {H : Type} {enc : TypeId × Value → H} {W : World} {base : Nat} {held : Bool} {v : Value} {d : DataW H} {ps : List MemPlace} {r : Reach} {b0 : Nat} (hok : Value.okWide Try.prog W r b0 95 v)
    (hd : DataW.Trod enc Try.prog W base (fun _ => true) held 95 v d ps) : OpenedNode W v := by
  obtain ⟨v0, v1, v2, v3, y0, y1, y2, y3, n, rfl, -, -, h0, h1, h2, h3⟩ := Go.Joins.open_agg4 Try.underlying95 (by kernel_rfl) (by kernel_rfl) hok hd
  obtain ⟨k, e0, -, w0⟩ := DataW.trod_int Try.underlying92 h0
  obtain ⟨b, e1, -, w1⟩ := DataW.trod_int Try.underlying75 h1
  obtain ⟨ka, kn, kc, kz, e2, w2⟩ := open_u64s h2
  obtain ⟨va, vn, vc, vz, e3, w3⟩ := open_u64s h3
  simp at e0 e1
  subst e0; subst e1; subst e2; subst e3
  exact ⟨k, b, ka, kn, kc, kz, va, vn, vc, vz, rfl, w0, w1, w2, w3⟩
end Go.Proofs.Ytiihllfjlgbfcaa
