/- Rows of steps that came in, opened. -/
import Derived.Test.YtiihllfjlgbfcaaArgs
import Derived.OpenShut
import Derived.ChangeArms
import Derived.Test.YtiihllfjlgbfcaaSteps
import Derived.Lib.SmallJoins
import Derived.Deep.Slices
namespace Go.Proofs.Ytiihllfjlgbfcaa
open Go.RowKit Go.ChangeShapes Go.WideShapes
/-- What the walk is told of a row of steps that came in. -/
def OpenedSteps (w : World) (v : Value) : Prop :=
  ∃ (a : Option Addr) (xs : List SArg) (cap : Nat), v = .slice a xs.length cap ∧ StepsAt w a xs
theorem open_picks {H : Type} {enc : TypeId × Value → H} {W : World} {base : Nat} {held : Bool} {n : Nat} {v : Value} {x : DataW H × List MemPlace} (h : DataW.trod enc Try.prog W base (fun _ => true) held n 66 [v] = some x) :
    ∃ (a : Option Addr) (l : List Int) (cap : Nat), v = .slice a l.length cap ∧ l.length ≤ maxLen ∧ Rd W a (l.map bI) := by
  rcases open_ints Try.underlying66 Try.underlying3 (by kernel_rfl) h with ⟨hcs, _⟩ | ⟨x, l, c, zs, hcs, _, hl, hm, hz, _, hcell, hwz⟩
  · simp at hcs
    exact ⟨none, [], 0, hcs, Nat.zero_le _, Rd.nil _ _⟩
  · simp at hcs
    obtain ⟨L, h1, h2, h3, -⟩ := rdInt_of (a := some x) (len := l) (cap := c) (zs := zs) (.inr ⟨_, rfl, hl, hm, by simpa using hz, hcell, hwz⟩)
    subst h1
    exact ⟨_, L, c, hcs, h2, h3⟩
theorem i64_le {n : Int} (h : (Lit.int .i64 n).wf = true) : n ≤ 9223372036854775807 := by
  have : -9223372036854775808 ≤ n ∧ n ≤ 9223372036854775807 := by simpa [Lit.wf, IntKind.min, IntKind.max, IntKind.bits, IntKind.signed] using h
  exact this.2
set_option maxRecDepth 100000 in
theorem open_step {H : Type} {enc : TypeId × Value → H} {W : World} {base : Nat} {held : Bool} {n : Nat} {cs : List Value} {x : DataW H × List MemPlace} (h : DataW.trod enc Try.prog W base (fun _ => true) held n 122 cs = some x) :
    ∃ s : SArg, cs = s.cells ∧ Rd W s.pa (s.x.picks.map bI) ∧ s.x.picks.length ≤ maxLen ∧ s.x.n ≤ 9223372036854775807 := by
  obtain ⟨y0, y1, y2, y3, m, -, hl, h0, h1, h2, h3⟩ := Go.Joins.trod_struct4 Try.underlying122 h
  rw [show Try.prog.cellsOf 122 = 4 by kernel_rfl] at hl
  match cs, hl with
  | [v0, v1, v2, v3], _ =>
    rw [show Try.prog.cellsOf 3 = 1 by kernel_rfl] at h0 h1
    rw [show Try.prog.cellsOf 5 = 1 by kernel_rfl] at h2
    rw [show Try.prog.cellsOf 66 = 1 by kernel_rfl] at h3
    simp only [List.drop, List.take] at h0 h1 h2 h3
    obtain ⟨k, e0, -, w0⟩ := DataW.trod_int Try.underlying3 h0
    obtain ⟨b, e1, -, w1⟩ := DataW.trod_int Try.underlying3 h1
    obtain ⟨f, e2, -, w2⟩ := DataW.trod_int Try.underlying5 h2
    obtain ⟨a, l, cap, e3, h5, h6⟩ := open_picks h3
    obtain ⟨c, rfl⟩ := n8_of w2
    simp at e0 e1 e2
    subst e0; subst e1; subst e2; subst e3
    exact ⟨⟨⟨k, b, c, l⟩, a, cap⟩, rfl, h6, h5, i64_le w1⟩
instance : Inhabited SArg := ⟨⟨⟨0, 0, 0, []⟩, none, 0⟩⟩
set_option maxRecDepth 100000 in
theorem open_steps {H : Type} {enc : TypeId × Value → H} {W : World} {base : Nat} {held : Bool} {v : Value} {d : DataW H} {ps : List MemPlace} {r : Reach} {b0 : Nat} (hok : Value.okWide Try.prog W r b0 119 v)
    (hd : DataW.Trod enc Try.prog W base (fun _ => true) held 119 v d ps) : OpenedSteps W v := by
  obtain ⟨a0, len0, cap0, rfl⟩ := okWide_slice Try.underlying119 hok
  obtain ⟨fuel, hf⟩ := hd
  rcases Go.Deep.open_slice Try.underlying119 hf with ⟨hcs, -⟩ | ⟨a, len, cap, m, n, D, Pl, hcs, -, hl, hm, hmm, -, hx⟩
  · simp [Value.cells] at hcs
    obtain ⟨rfl, rfl, rfl⟩ := hcs
    exact ⟨none, [], 0, rfl, Rd.nil _ _, fun s hs => (List.not_mem_nil hs).elim⟩
  · simp [Value.cells] at hcs
    obtain ⟨rfl, rfl, rfl⟩ := hcs
    simp only [if_true] at hmm
    subst hmm
    have hc4 : Try.prog.cellsOf 122 = 4 := by kernel_rfl
    rw [hc4] at hx
    obtain ⟨S, hS⟩ := Go.Deep.choose_lt (n := len0) (p := fun i (s : SArg) => W.cells? base (a.add (i * 4)) 4 = some s.cells ∧ Rd W s.pa (s.x.picks.map bI) ∧ s.x.picks.length ≤ maxLen ∧ s.x.n ≤ 9223372036854775807) (fun i hi => by
      obtain ⟨cs', h1, h2⟩ := hx i (by omega)
      obtain ⟨s, rfl, h3⟩ := open_step h2
      exact ⟨s, h1, h3⟩)
    refine ⟨some a, (List.range len0).map S, m, by simp, ?_, fun s hs => ?_⟩
    · intro i hi
      have h4 : ∀ s ∈ (List.range len0).map S, (SArg.cells s).length = 4 := fun s _ => rfl
      have hlf := fm_length h4
      rw [hlf] at hi
      simp only [List.length_map, List.length_range] at hi
      refine ⟨a, rfl, ?_⟩
      have hk : i / 4 < len0 := by omega
      obtain ⟨_, _, hcell⟩ := World.cells?_some (hS (i / 4) hk).1
      have := hcell (i % 4) (by omega)
      rw [Go.Deep.add_add, show i / 4 * 4 + i % 4 = i by omega] at this
      rw [this]
      have hat := fm_at h4 (i / 4) (by simpa using hk)
      simp only [List.getElem_map, List.getElem_range] at hat
      rw [← hat, List.getElem?_take, if_pos (by omega), List.getElem?_drop, show i / 4 * 4 + i % 4 = i by omega, List.getElem?_eq_getElem]
    · obtain ⟨k, hk, rfl⟩ := List.mem_map.1 hs
      exact (hS k (by simpa using hk)).2
end Go.Proofs.Ytiihllfjlgbfcaa
