/- Operations on arrays of bytes by value, over this program: 256 bytes (a block, type 37), 64 bytes (a sector, type 59). -/
import Derived.Test.YtiihllfjlgbfcaaArr
namespace Go.Proofs.Ytiihllfjlgbfcaa
open Go.RowKit

/-! ### A step of a list of operations whose run is known -/
section
variable {P : Program} {ops : Array Oper} {Q : Exit → Act → World → Prop} {rest : List Oper} {o : Oper} {a : Act} {w w' : World} {v : Value}
theorem L.val (hw : Region.wanted o (yielded ops a.tmps) = true) (hr : (execOp a.eval o).run P w = .ok (.value v) w') (h : wpList P ops Q rest (a.put o.dst v) w') : wpList P ops Q (o :: rest) a w := by
  unfold wpList; rw [if_pos hw]; left; unfold Oper.wp; rw [hr]; exact h
theorem L.skip (hw : Region.wanted o (yielded ops a.tmps) = true) (hr : (execOp a.eval o).run P w = .ok .skip w') (h : wpList P ops Q rest (a.put o.dst undef) w') : wpList P ops Q (o :: rest) a w := by
  unfold wpList; rw [if_pos hw]; left; unfold Oper.wp; rw [hr]; exact h
end

theorem info37 : (Try.prog.info? 37).map (·.size) = some 256 := by kernel_rfl
theorem info59 : (Try.prog.info? 59).map (·.size) = some 64 := by kernel_rfl
theorem zero37 : (Try.prog.info? 37).map (·.zero) = some (some (arr (zeros 256))) := by kernel_rfl
theorem zero59 : (Try.prog.info? 59).map (·.zero) = some (some (arr (zeros 64))) := by kernel_rfl
theorem guard37 : Try.prog.eqGuardType Try.prog.depth 37 = false := by kernel_rfl
theorem guard59 : Try.prog.eqGuardType Try.prog.depth 59 = false := by kernel_rfl
theorem size5 : (Try.prog.info? 5).map (·.size) = some 1 := by kernel_rfl
theorem run_zero {T : TypeId} {z : Value} (h : (Try.prog.info? T).map (·.zero) = some (some z)) (w : World) : (zeroValue T).run Try.prog w = .ok z w := by
  obtain ⟨i, hi, hz⟩ := Option.map_eq_some_iff.1 h
  simp [zeroValue, typeInfo, hi, hz]
theorem b8s_oneCell (l : List UInt8) : ∀ u ∈ l.map b8, u.oneCell' = true := b8_oneCell l

section
variable {ρ : Operand → Value} {o : Oper} {w : World}
theorem X.alloc {T : TypeId} {n : Nat} (ho : o.op = .alloc T) (hz : (Try.prog.info? T).map (·.zero) = some (some (arr (zeros n)))) :
    (execOp ρ o).run Try.prog w = .ok (.value (.pointer (some ⟨w.heap.size, 0, none⟩))) (w.alloc (.cells ((zeros n).map b8).toArray T)) := by
  unfold execOp; rw [ho]
  simp only [Instr.alloc, Sem.run_bind, run_zero hz, Result.andThen_ok]
  rfl
theorem X.box {T : TypeId} {x : Operand} {l : List UInt8} (ho : o.op = .box T x) (hx : ρ x = arr l) :
    (execOp ρ o).run Try.prog w = .ok (.value (.pointer (some ⟨w.heap.size, 0, none⟩))) (w.alloc (.cells (l.map b8).toArray T)) := by
  unfold execOp; rw [ho]
  simp only [hx]
  rfl
theorem X.load {T U : TypeId} {n g : Nat} {x : Operand} {l : List UInt8} (ho : o.op = .load U x) (hx : ρ x = .pointer (some ⟨g, 0, none⟩)) (hU : Try.prog.underlying U = some (.array n 5)) (hs : (Try.prog.info? U).map (·.size) = some n)
    (hB : Blk w g T (l.map b8)) (hl : l.length = n) : (execOp ρ o).run Try.prog w = .ok (.value (arr l)) w := by
  have := run_load_part (P := Try.prog) (o := 0) hB hU rfl hs (by simp; omega)
  unfold execOp; rw [ho]
  simp only [hx, Sem.run_bind, this, Result.andThen_ok, Sem.run_pure]
  rw [List.drop_zero, List.take_of_length_le (by simp; omega)]
  rfl
theorem X.loadAt {T U : TypeId} {n g off : Nat} {x : Operand} {cs : List Value} {l : List UInt8} (ho : o.op = .load U x) (hx : ρ x = .pointer (some ⟨g, off, none⟩)) (hU : Try.prog.underlying U = some (.array n 5)) (hs : (Try.prog.info? U).map (·.size) = some n)
    (hB : Blk w g T cs) (hl : (cs.drop off).take n = l.map b8) (hn : off + n ≤ cs.length) : (execOp ρ o).run Try.prog w = .ok (.value (arr l)) w := by
  have := run_load_part (P := Try.prog) (o := off) hB hU rfl hs hn
  unfold execOp; rw [ho]
  simp only [hx, Sem.run_bind, this, Result.andThen_ok, Sem.run_pure, hl]
  rfl
theorem X.store {T U : TypeId} {n g off : Nat} {x y : Operand} {l : List UInt8} {cs : List Value} (ho : o.op = .store U x y) (hx : ρ x = .pointer (some ⟨g, off, none⟩)) (hy : ρ y = arr l) (hs : (Try.prog.info? U).map (·.size) = some n)
    (hB : Blk w g T cs) (hl : l.length = n) (hn : off + n ≤ cs.length) : (execOp ρ o).run Try.prog w = .ok .skip (w.setRow g (put cs off (l.map b8)).toArray) := by
  have := run_store_part (P := Try.prog) hB (arr l) (l.map b8) (arr_cells l) (b8_oneCell l) hs (by simpa using hl) (by omega)
  unfold execOp; rw [ho]
  simp only [hx, hy, Sem.run_bind, this, Result.andThen_ok, Sem.run_pure]
theorem run_eqGuard_arr {T : TypeId} (op : BinOp) (x y : Operand) (l m : List UInt8) (hg : Try.prog.eqGuardType Try.prog.depth T = false) : (eqGuard op T x y (arr l) (arr m)).run Try.prog w = .ok () w :=
  run_eqGuard_agg w op T x y _ _ hg
theorem run_eql_arr {T : TypeId} {n : Nat} (hT : Try.prog.underlying T = some (.array n 5)) (l m : List UInt8) (hl : l.length = n) (hm : m.length = n) :
    (binOp .eql T (arr l) (arr m)).run Try.prog w = .ok (.bool (l == m)) w := by
  unfold arr
  rw [run_eql_struct, run_equal_bytes hT Try.underlying5 size5 l m hl hm 9998]
  rfl
theorem run_neq_arr {T : TypeId} {n : Nat} (hT : Try.prog.underlying T = some (.array n 5)) (l m : List UInt8) (hl : l.length = n) (hm : m.length = n) :
    (binOp .neq T (arr l) (arr m)).run Try.prog w = .ok (.bool (!(l == m))) w := by
  unfold arr
  rw [run_neq_struct, run_equal_bytes hT Try.underlying5 size5 l m hl hm 9998]
  rfl
theorem X.eql {T ty : TypeId} {n : Nat} {x y : Operand} {l m : List UInt8} (ho : o.op = .binOp .eql T x y ty) (hx : ρ x = arr l) (hy : ρ y = arr m) (hT : Try.prog.underlying T = some (.array n 5)) (hg : Try.prog.eqGuardType Try.prog.depth T = false)
    (hl : l.length = n) (hm : m.length = n) : (execOp ρ o).run Try.prog w = .ok (.value (.bool (l == m))) w := by
  unfold execOp; rw [ho]
  simp only [hx, hy, Sem.run_bind, run_eqGuard_arr .eql x y l m hg, run_eql_arr hT l m hl hm, Result.andThen_ok, Sem.run_pure]
theorem X.neq {T ty : TypeId} {n : Nat} {x y : Operand} {l m : List UInt8} (ho : o.op = .binOp .neq T x y ty) (hx : ρ x = arr l) (hy : ρ y = arr m) (hT : Try.prog.underlying T = some (.array n 5)) (hg : Try.prog.eqGuardType Try.prog.depth T = false)
    (hl : l.length = n) (hm : m.length = n) : (execOp ρ o).run Try.prog w = .ok (.value (.bool (!(l == m)))) w := by
  unfold execOp; rw [ho]
  simp only [hx, hy, Sem.run_bind, run_eqGuard_arr .neq x y l m hg, run_neq_arr hT l m hl hm, Result.andThen_ok, Sem.run_pure]
theorem X.build37 (ho : o.op = .build 37 #[]) : (execOp ρ o).run Try.prog w = .ok (.value (arr (zeros 256))) w := by
  unfold execOp; rw [ho]
  simp only [Instr.build, Sem.run_bind, run_zero zero37, Result.andThen_ok, run_underlying Try.underlying37]
  obtain ⟨i, hi, h1⟩ := info5_size
  simp [sizeOf, typeInfo, hi, Instr.fill, arr, Value.cells]
theorem X.build59 (ho : o.op = .build 59 #[]) : (execOp ρ o).run Try.prog w = .ok (.value (arr (zeros 64))) w := by
  unfold execOp; rw [ho]
  simp only [Instr.build, Sem.run_bind, run_zero zero59, Result.andThen_ok, run_underlying Try.underlying59]
  obtain ⟨i, hi, h1⟩ := info5_size
  simp [sizeOf, typeInfo, hi, Instr.fill, arr, Value.cells]
end

/-! ### The end of a call whose first result lies in a cell -/
theorem ret_cell2 {fn : Func} {R : Ending → World → Prop} {a : Act} {w : World} {p t g : Nat} {T U : TypeId} {n : Nat} {l : List UInt8} {v : Value} (hr : fn.results = #[.cell p U, .tmp t]) (hp : a.tmps.getD p undef = .pointer (some ⟨g, 0, none⟩))
    (hU : Try.prog.underlying U = some (.array n 5)) (hs : (Try.prog.info? U).map (·.size) = some n) (hB : Blk w g T (l.map b8)) (hl : l.length = n) (hv : a.tmps.getD t undef = v) (hd : a.defers = [])
    (h : R (.returned (.tuple #[arr l, v])) w) : bodyPost Try.prog fn R .ret a w := by
  refine bodyPost_ret ?_ hd h
  have := run_load_part (P := Try.prog) (o := 0) hB hU rfl hs (by simp; omega)
  rw [List.drop_zero, List.take_of_length_le (by simp; omega)] at this
  have h2 : (loadVar U ⟨g, 0, none⟩).run Try.prog w = .ok (arr l) w := by
    simpa [Instr.loadAt, Instr.sureAddr, arr] using this
  have hp' : a.tmps[p]?.getD undef = .pointer (some ⟨g, 0, none⟩) := by simpa using hp
  have hv' : a.tmps[t]?.getD undef = v := by simpa using hv
  simp [results, hr, hp', hv', asAddr, h2]
theorem ret_cell1 {fn : Func} {R : Ending → World → Prop} {a : Act} {w : World} {p g : Nat} {T U : TypeId} {n : Nat} {l : List UInt8} (hr : fn.results = #[.cell p U]) (hp : a.tmps.getD p undef = .pointer (some ⟨g, 0, none⟩))
    (hU : Try.prog.underlying U = some (.array n 5)) (hs : (Try.prog.info? U).map (·.size) = some n) (hB : Blk w g T (l.map b8)) (hl : l.length = n) (hd : a.defers = [])
    (h : R (.returned (arr l)) w) : bodyPost Try.prog fn R .ret a w := by
  refine bodyPost_ret ?_ hd h
  have := run_load_part (P := Try.prog) (o := 0) hB hU rfl hs (by simp; omega)
  rw [List.drop_zero, List.take_of_length_le (by simp; omega)] at this
  have h2 : (loadVar U ⟨g, 0, none⟩).run Try.prog w = .ok (arr l) w := by
    simpa [Instr.loadAt, Instr.sureAddr, arr] using this
  have hp' : a.tmps[p]?.getD undef = .pointer (some ⟨g, 0, none⟩) := by simpa using hp
  simp [results, hr, hp', asAddr, h2]

/-! ### To stand still ahead of an operation on an array, and to take it -/
def Stop (p : Prop) : Prop := p
theorem zeros_length (n : Nat) : (zeros n).length = n := List.length_replicate
theorem put_all {α : Type} (l m : List α) (h : m.length = l.length) : put l 0 m = m := by
  simp [put, h]
section
variable {P : Program} {ops : Array Oper} {Q : Exit → Act → World → Prop} {rest : List Oper} {a : Act} {w : World}
theorem halt_alloc (T : TypeId) {d ty pos af gd} (h : Stop (wpList P ops Q (⟨d, .alloc T, ty, pos, af, gd⟩ :: rest) a w)) : wpList P ops Q (⟨d, .alloc T, ty, pos, af, gd⟩ :: rest) a w := h
theorem halt_box (T : TypeId) {d x ty pos af gd} (h : Stop (wpList P ops Q (⟨d, .box T x, ty, pos, af, gd⟩ :: rest) a w)) : wpList P ops Q (⟨d, .box T x, ty, pos, af, gd⟩ :: rest) a w := h
theorem halt_load (T : TypeId) {d x ty pos af gd} (h : Stop (wpList P ops Q (⟨d, .load T x, ty, pos, af, gd⟩ :: rest) a w)) : wpList P ops Q (⟨d, .load T x, ty, pos, af, gd⟩ :: rest) a w := h
theorem halt_store (T : TypeId) {d x y ty pos af gd} (h : Stop (wpList P ops Q (⟨d, .store T x y, ty, pos, af, gd⟩ :: rest) a w)) : wpList P ops Q (⟨d, .store T x y, ty, pos, af, gd⟩ :: rest) a w := h
theorem halt_bin (T : TypeId) {d op x y yt ty pos af gd} (h : Stop (wpList P ops Q (⟨d, .binOp op T x y yt, ty, pos, af, gd⟩ :: rest) a w)) : wpList P ops Q (⟨d, .binOp op T x y yt, ty, pos, af, gd⟩ :: rest) a w := h
theorem halt_build (T : TypeId) {d ps ty pos af gd} (h : Stop (wpList P ops Q (⟨d, .build T ps, ty, pos, af, gd⟩ :: rest) a w)) : wpList P ops Q (⟨d, .build T ps, ty, pos, af, gd⟩ :: rest) a w := h
theorem halt_builtin (b : Builtin) {d xs ts ty pos af gd} (h : Stop (wpList P ops Q (⟨d, .call { callee := .builtin b, args := xs, argTypes := ts }, ty, pos, af, gd⟩ :: rest) a w)) :
    wpList P ops Q (⟨d, .call { callee := .builtin b, args := xs, argTypes := ts }, ty, pos, af, gd⟩ :: rest) a w := h
theorem halt_slice (T : TypeId) {d x lo hi mx ty pos af gd} (h : Stop (wpList P ops Q (⟨d, .slice T x lo hi mx, ty, pos, af, gd⟩ :: rest) a w)) : wpList P ops Q (⟨d, .slice T x lo hi mx, ty, pos, af, gd⟩ :: rest) a w := h
theorem halt_make (T : TypeId) {d x y ty pos af gd} (h : Stop (wpList P ops Q (⟨d, .makeSlice T x y, ty, pos, af, gd⟩ :: rest) a w)) : wpList P ops Q (⟨d, .makeSlice T x y, ty, pos, af, gd⟩ :: rest) a w := h
theorem halt_buildSlice (T : TypeId) {d n ps ty pos af gd} (h : Stop (wpList P ops Q (⟨d, .buildSlice T n ps, ty, pos, af, gd⟩ :: rest) a w)) : wpList P ops Q (⟨d, .buildSlice T n ps, ty, pos, af, gd⟩ :: rest) a w := h
end
section
variable {ops : Array Oper} {Q : Exit → Act → World → Prop} {rest : List Oper} {o : Oper} {a : Act} {w : World}
theorem L.alloc {T : TypeId} {n : Nat} (ho : o.op = .alloc T) (hz : (Try.prog.info? T).map (·.zero) = some (some (arr (zeros n)))) (hw : Region.wanted o (yielded ops a.tmps) = true)
    (h : ∀ w', Blk w' w.heap.size T ((zeros n).map b8) → GB w w' → wpList Try.prog ops Q rest (a.put o.dst (.pointer (some ⟨w.heap.size, 0, none⟩))) w') : wpList Try.prog ops Q (o :: rest) a w :=
  L.val hw (X.alloc ho hz) (h _ (Blk.new _ _ _) ((Below.refl _ _).alloc (Nat.le_refl _) _))
theorem L.box {T : TypeId} {x : Operand} {l : List UInt8} (ho : o.op = .box T x) (hx : a.eval x = arr l) (hw : Region.wanted o (yielded ops a.tmps) = true)
    (h : ∀ w', Blk w' w.heap.size T (l.map b8) → GB w w' → wpList Try.prog ops Q rest (a.put o.dst (.pointer (some ⟨w.heap.size, 0, none⟩))) w') : wpList Try.prog ops Q (o :: rest) a w :=
  L.val hw (X.box ho hx) (h _ (Blk.new _ _ _) ((Below.refl _ _).alloc (Nat.le_refl _) _))
theorem L.load {T U : TypeId} {n g : Nat} {x : Operand} {l : List UInt8} (ho : o.op = .load U x) (hU : Try.prog.underlying U = some (.array n 5)) (hs : (Try.prog.info? U).map (·.size) = some n)
    (hx : a.eval x = .pointer (some ⟨g, 0, none⟩)) (hB : Blk w g T (l.map b8)) (hl : l.length = n) (hw : Region.wanted o (yielded ops a.tmps) = true)
    (h : wpList Try.prog ops Q rest (a.put o.dst (arr l)) w) : wpList Try.prog ops Q (o :: rest) a w :=
  L.val hw (X.load ho hx hU hs hB hl) h
/-- A whole array is stored over a whole array. -/
theorem L.store {T U : TypeId} {n g : Nat} {x y : Operand} {l : List UInt8} {cs : List Value} (ho : o.op = .store U x y) (hs : (Try.prog.info? U).map (·.size) = some n)
    (hx : a.eval x = .pointer (some ⟨g, 0, none⟩)) (hy : a.eval y = arr l) (hB : Blk w g T cs) (hc : cs.length = n) (hl : l.length = n) (hw : Region.wanted o (yielded ops a.tmps) = true)
    (h : ∀ w', Blk w' g T (l.map b8) → w.grownBy w' (some g) → wpList Try.prog ops Q rest (a.put o.dst undef) w') : wpList Try.prog ops Q (o :: rest) a w := by
  have hr := X.store (ρ := a.eval) (off := 0) ho hx hy hs hB hl (by omega)
  rw [put_all _ _ (by simp; omega)] at hr
  exact L.skip hw hr (h _ (hB.row _) (grown_row _ _ _))
theorem L.eql {T ty : TypeId} {n : Nat} {x y : Operand} {l m : List UInt8} (ho : o.op = .binOp .eql T x y ty) (hT : Try.prog.underlying T = some (.array n 5)) (hg : Try.prog.eqGuardType Try.prog.depth T = false)
    (hx : a.eval x = arr l) (hy : a.eval y = arr m) (hl : l.length = n) (hm : m.length = n) (hw : Region.wanted o (yielded ops a.tmps) = true)
    (h : wpList Try.prog ops Q rest (a.put o.dst (.bool (l == m))) w) : wpList Try.prog ops Q (o :: rest) a w :=
  L.val hw (X.eql ho hx hy hT hg hl hm) h
theorem L.neq {T ty : TypeId} {n : Nat} {x y : Operand} {l m : List UInt8} (ho : o.op = .binOp .neq T x y ty) (hT : Try.prog.underlying T = some (.array n 5)) (hg : Try.prog.eqGuardType Try.prog.depth T = false)
    (hx : a.eval x = arr l) (hy : a.eval y = arr m) (hl : l.length = n) (hm : m.length = n) (hw : Region.wanted o (yielded ops a.tmps) = true)
    (h : wpList Try.prog ops Q rest (a.put o.dst (.bool (!(l == m)))) w) : wpList Try.prog ops Q (o :: rest) a w :=
  L.val hw (X.neq ho hx hy hT hg hl hm) h
end
end Go.Proofs.Ytiihllfjlgbfcaa
