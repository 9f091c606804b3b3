/- Own rows of any element: append, make. -/
import Derived.Test.YtiihllfjlgbfcaaPut
namespace Go.Proofs.Ytiihllfjlgbfcaa
open Go.RowKit

theorem wrapi (x : Int) (h0 : -9223372036854775808 ≤ x) (h1 : x ≤ 9223372036854775807) : IntKind.i64.wrap x = x := by
  unfold IntKind.wrap; simp [IntKind.bits, IntKind.signed]; omega
/-- T is a slice of e; an e has sz cells and so many bytes. -/
def Elem (T e : TypeId) (sz bytes : Nat) (z : Value) : Prop :=
  Try.prog.underlying T = some (.slice e) ∧ (∃ i, Try.prog.info? e = some i ∧ i.zero = some z ∧ i.size = sz ∧ i.bytes = bytes) ∧ z.cells.size = sz ∧ 0 < sz ∧ bytes ≤ 128
theorem info73 : (Try.prog.info? 73).map (fun i => (i.zero, i.size, i.bytes)) = some (some (.int .u16 0), 1, 2) := by kernel_rfl
theorem elem16 : Elem 35 73 1 2 (.int .u16 0) := by
  obtain ⟨i, hi, hz0, hz1, hz2⟩ := info_parts info73
  exact ⟨Try.underlying35, ⟨i, hi, hz0, hz1, hz2⟩, rfl, by decide, by decide⟩

theorem Row.shape {e : TypeId} {sz base n : Nat} {w : World} {v : Value} {cs : List Value} (h : w.ownsRow base e sz v n cs) :
    ∃ a c, v = .slice a n c ∧ Rd w a cs ∧ n ≤ c ∧ c ≤ maxLen ∧ (a = none → c = 0) ∧ (∀ g, v.ownBlock = some g → base ≤ g ∧ g < w.heap.size) := by
  have hlt := h.lt
  have hcells := fun g hg => World.ownsRow.cells h (g := g) hg
  obtain ⟨_, h2⟩ := h
  rcases h2 with ⟨rfl, h0⟩ | ⟨g, cap, cur, rfl, hb, hg, hnc, hcm, _, _⟩
  · subst h0
    have : cs = [] := List.eq_nil_of_length_eq_zero (by simp_all)
    subst this
    exact ⟨none, 0, rfl, Rd.nil _ _, Nat.le_refl _, Nat.zero_le _, fun _ => rfl, hlt⟩
  · exact ⟨some ⟨g, 0, none⟩, cap, rfl, Rd.of_cells (hcells g rfl), hnc, hcm, (fun h => by cases h), hlt⟩
theorem Row.gb {e : TypeId} {sz base n : Nat} {w u : World} {v : Value} {cs : List Value} (h : w.ownsRow base e sz v n cs) (hg : GB w u) : u.ownsRow base e sz v n cs :=
  World.ownsRow.kept (row := none) h ⟨hg.os, hg.tape, hg.output, hg.size, fun k hk _ => hg.block k hk⟩ (by cases v.ownBlock <;> simp)
theorem Row.mono {e : TypeId} {sz base base' n : Nat} {w : World} {v : Value} {cs : List Value} (h : w.ownsRow base e sz v n cs) (hb : base' ≤ base) : w.ownsRow base' e sz v n cs := by
  refine ⟨h.1, ?_⟩
  rcases h.2 with h2 | ⟨g, cap, cur, hv, hbg, r⟩
  · exact .inl h2
  · exact .inr ⟨g, cap, cur, hv, Nat.le_trans hb hbg, r⟩
theorem Row.rd {e : TypeId} {sz base n m c : Nat} {w : World} {a : Option Addr} {cs : List Value} (h : w.ownsRow base e sz (.slice a m c) n cs) : Rd w a cs ∧ m = n ∧ n ≤ maxLen := by
  obtain ⟨a', c', hv, hr, h1, h2, _⟩ := Row.shape h
  simp only [Value.slice.injEq] at hv
  obtain ⟨rfl, rfl, rfl⟩ := hv
  exact ⟨hr, rfl, by omega⟩

theorem run_appendV {T e : TypeId} {sz bytes : Nat} {z : Value} (hE : Elem T e sz bytes z) {w : World} {base n : Nat} {v : Value} {cs : List Value} (ty : TypeId) (hown : w.ownsRow base e sz v n cs) (xa : Option Addr) (ms : List Value) (m c : Nat)
    (hm : ms.length = m * sz) (hrd : Rd w xa ms) (h1 : ∀ u ∈ ms, u.oneCell' = true) (hb : n + m ≤ 1099511627776) (hbase : base ≤ w.heap.size) :
    ∃ v' w', (Builtin.append_ #[T, T] ty #[v, .slice xa m c]).run Try.prog w = .ok v' w' ∧ w'.ownsRow base e sz v' (n + m) (cs ++ ms) ∧ w.grownBy w' v.ownBlock := by
  obtain ⟨hT, ⟨i, hi, hz0, hz1, hz2⟩, hz3, hz4, hz5⟩ := hE
  cases xa with
  | none =>
    have : ms = [] := by simpa using hrd.none
    subst this
    have hm0 : m = 0 := by
      rcases Nat.eq_zero_or_pos m with h | h
      · exact h
      · have := Nat.mul_pos h hz4; simp at hm; omega
    subst hm0
    refine ⟨v, w, ?_, by simpa using hown, World.grownBy.refl _ _⟩
    rcases hown.2 with ⟨rfl, h0⟩ | ⟨g, cap, cur, rfl, _, _, hnc, _⟩
    · simp [Builtin.append_, run_underlying hT, sizeOf, typeInfo, hi, Builtin.lenOf, Builtin.firstCells]
    · simp [Builtin.append_, run_underlying hT, sizeOf, typeInfo, hi, Builtin.lenOf, Builtin.firstCells, hnc, storeCells]
  | some ad =>
    obtain ⟨v', w', hr, h2, h3, _⟩ := run_append_own (P := Try.prog) w base T ty e i z sz bytes hT hi hz0 hz1 hz2 hz3 hz4 v n cs hown
      ad m c ms hm hrd.cells h1 (by unfold maxLen; omega) (by
        have : (n + m) * bytes ≤ 1099511627776 * 128 := Nat.mul_le_mul hb hz5
        omega) hbase
    exact ⟨v', w', hr, h2, h3⟩
theorem wp_appendV {T e : TypeId} {sz bytes : Nat} {z : Value} (hE : Elem T e sz bytes z) {w : World} {o : Oper} {a : Act} {K : Act → World → Prop} {Q : Exit → Act → World → Prop} (s x : Operand)
    (ho : o.op = .call { callee := .builtin .append, args := #[s, x], argTypes := #[T, T] })
    {base n : Nat} {v : Value} {cs : List Value} (hs : a.eval s = v) (hown : w.ownsRow base e sz v n cs) {xa : Option Addr} {ms : List Value} {m c : Nat} (hx : a.eval x = .slice xa m c) (hm : ms.length = m * sz) (hrd : Rd w xa ms)
    (h1 : ∀ u ∈ ms, u.oneCell' = true) (hb : n + m ≤ 1099511627776) (hbase : base ≤ w.heap.size)
    (h : ∀ v' w', w'.ownsRow base e sz v' (n + m) (cs ++ ms) → w.grownBy w' v.ownBlock → K (a.put o.dst v') w') : o.wp Try.prog a w K Q := by
  obtain ⟨v', w', hr, h2, h3⟩ := run_appendV hE o.type hown xa ms m c hm hrd h1 hb hbase
  refine wp_run ?_ (h v' w' h2 h3)
  simp only [execOp, ho, resolve, invoke, builtin, Sem.run_bind, Sem.run_pure, Result.andThen_ok, List.map_toArray, List.map_cons, List.map_nil, hs, hx, hr]
theorem wpList_appendV {T e : TypeId} {sz bytes : Nat} {z : Value} (hE : Elem T e sz bytes z) {w : World} {ops : Array Oper} {rest : List Oper} {o : Oper} {a : Act} {Q : Exit → Act → World → Prop} (hgd : o.guard = none) (s x : Operand)
    (ho : o.op = .call { callee := .builtin .append, args := #[s, x], argTypes := #[T, T] })
    {base n : Nat} {v : Value} {cs : List Value} (hs : a.eval s = v) (hown : w.ownsRow base e sz v n cs) {xa : Option Addr} {ms : List Value} {m c : Nat} (hx : a.eval x = .slice xa m c) (hm : ms.length = m * sz) (hrd : Rd w xa ms)
    (h1 : ∀ u ∈ ms, u.oneCell' = true) (hb : n + m ≤ 1099511627776) (hbase : base ≤ w.heap.size)
    (h : ∀ v' w', w'.ownsRow base e sz v' (n + m) (cs ++ ms) → w.grownBy w' v.ownBlock → wpList Try.prog ops Q rest (a.put o.dst v') w') : wpList Try.prog ops Q (o :: rest) a w :=
  wpList_plain hgd fun _ hK => wp_appendV hE s x ho hs hown hx hm hrd h1 hb hbase fun v' w' h2 h3 => hK _ _ (h v' w' h2 h3)
/-- make([]T, n): n noughts, a block of their own. -/
theorem L.make {T e : TypeId} {sz bytes : Nat} {z : Value} (hE : Elem T e sz bytes z) {w : World} {ops : Array Oper} {rest : List Oper} {o : Oper} {a : Act} {Q : Exit → Act → World → Prop} (x y : Operand)
    (ho : o.op = .makeSlice T x y) {kx ky : IntKind} {n : Nat} (hx : a.eval x = .int kx n) (hy : a.eval y = .int ky n) (hn : n ≤ 1099511627776) (hw : Region.wanted o (yielded ops a.tmps) = true)
    (h : ∀ w', Blk w' w.heap.size e (madeCells z.cells (n * sz)).toList → GB w w' → wpList Try.prog ops Q rest (a.put o.dst (.slice (some ⟨w.heap.size, 0, none⟩) n n)) w') : wpList Try.prog ops Q (o :: rest) a w := by
  obtain ⟨hT, ⟨i, hi, hz0, hz1, hz2⟩, hz3, hz4, hz5⟩ := hE
  have hr := run_make (P := Try.prog) w T e i z hT hi hz0 kx ky n n (by omega) (Int.le_refl _) (by
    rw [hz2]
    have : bytes * n ≤ 128 * 1099511627776 := Nat.mul_le_mul hz5 hn
    have h2 : ((bytes * n : Nat) : Int) ≤ 281474976710656 := by omega
    rwa [Int.natCast_mul] at h2) (by omega)
  simp only [Int.toNat_natCast, hz1] at hr
  refine L.val (v := .slice (some ⟨w.heap.size, 0, none⟩) n n) (w' := w.alloc (.cells (madeCells z.cells (n * sz)) e)) hw ?_ (h _ ?_ ((Below.refl _ _).alloc (Nat.le_refl _) _))
  · simp only [execOp, ho, hx, hy, Sem.run_bind, hr, Result.andThen_ok, Sem.run_pure]
  · have := Blk.new w (madeCells z.cells (n * sz)).toList e
    simpa using this
theorem made1 (v : Value) (n : Nat) : (madeCells #[v] n).toList = List.replicate n v := by
  apply List.ext_getElem
  · simp [madeCells]
  · intro i h1 h2
    simp [madeCells, Nat.mod_one]
def zeros16 (n : Nat) : List UInt16 := List.replicate n 0
theorem zeros16_length (n : Nat) : (zeros16 n).length = n := by simp [zeros16]
theorem made16 (n : Nat) : (madeCells (Value.int .u16 0).cells (n * 1)).toList = (zeros16 n).map b16 := by
  rw [Nat.mul_one]
  show (madeCells #[.int .u16 0] n).toList = _
  rw [made1, zeros16, List.map_replicate]; rfl
theorem Blk.cell16 {w : World} {g : Nat} {T : TypeId} {M : List UInt16} (h : Blk w g T (M.map b16)) (j : Nat) (hj : j < M.length) : ∃ x, w.cell? ⟨g, j, none⟩ = some (.int .u16 (n16 x)) :=
  ⟨M[j], by rw [h.cell]; simp [hj, b16]⟩
theorem Blk.set16 {w : World} {g : Nat} {T : TypeId} {M : List UInt16} (h : Blk w g T (M.map b16)) (j : Nat) (x : UInt16) : Blk (w.setCell ⟨g, j, none⟩ (.int .u16 (n16 x))) g T ((M.set j x).map b16) := by
  rw [List.map_set]; exact h.set j (b16 x)
end Go.Proofs.Ytiihllfjlgbfcaa
