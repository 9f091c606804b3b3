/- Blocks of cells; arrays of bytes by value: made, read, stored, compared. -/
import Derived.Test.YtiihllfjlgbfcaaMem
namespace Go.Proofs.Ytiihllfjlgbfcaa
open Go.RowKit

/-! ### A block of cells -/
def Blk (w : World) (g : Nat) (T : TypeId) (cs : List Value) : Prop := w.heap[g]? = some (.cells cs.toArray T (0, 0))
theorem Blk.lt {w : World} {g : Nat} {T : TypeId} {cs : List Value} (h : Blk w g T cs) : g < w.heap.size := (Array.getElem?_eq_some_iff.1 h).1
theorem Blk.cell {w : World} {g : Nat} {T : TypeId} {cs : List Value} (h : Blk w g T cs) (j : Nat) : w.cell? ⟨g, j, none⟩ = cs[j]? := by
  rw [cell_of_row w g j _ T (0, 0) h]; simp
theorem Blk.frozen {w : World} {g : Nat} {T : TypeId} {cs : List Value} (h : Blk w g T cs) (j : Nat) : w.frozen? ⟨g, j, none⟩ = false := frozen_of_row w g j _ T h
theorem Blk.set {w : World} {g : Nat} {T : TypeId} {cs : List Value} (h : Blk w g T cs) (j : Nat) (v : Value) : Blk (w.setCell ⟨g, j, none⟩ v) g T (cs.set j v) := by
  unfold Blk; rw [heap_setCell_same w g j _ T v h]; simp
theorem Blk.of_below {w u : World} {B g : Nat} {T : TypeId} {cs : List Value} (h : Blk w g T cs) (hb : Below B w u) (hg : g < B) : Blk u g T cs := (hb.block g hg).trans h
theorem Blk.gb {w u : World} {g : Nat} {T : TypeId} {cs : List Value} (h : Blk w g T cs) (hb : GB w u) : Blk u g T cs := h.of_below hb h.lt
theorem Blk.new (w : World) (cs : List Value) (T : TypeId) : Blk (w.alloc (.cells cs.toArray T)) w.heap.size T cs := heap_alloc_new w _
theorem Blk.alloc {w : World} {g : Nat} {T : TypeId} {cs : List Value} (h : Blk w g T cs) (o : Obj) : Blk (w.alloc o) g T cs := (Below.heap_alloc w o g h.lt).trans h
theorem Blk.other {w : World} {g : Nat} {T : TypeId} {cs : List Value} (h : Blk w g T cs) {k : Nat} (hk : k ≠ g) (j : Nat) (v : Value) : Blk (w.setCell ⟨k, j, none⟩ v) g T cs :=
  (heap_setCell_other w ⟨k, j, none⟩ g v (fun e => hk e.symm)).trans h
theorem Blk.grown {w u : World} {row : Option Nat} {g : Nat} {T : TypeId} {cs : List Value} (h : Blk w g T cs) (hg : w.grownBy u row) (hr : some g ≠ row) : Blk u g T cs := (hg.block g h.lt hr).trans h
theorem Blk.rd {w : World} {g : Nat} {T : TypeId} {cs : List Value} (h : Blk w g T cs) (o : Nat) : Rd w (some ⟨g, o, none⟩) (cs.drop o) := by
  refine Rd.of_cells fun j v hv => ?_
  rw [Addr.add_lit, h.cell]
  rw [List.getElem?_drop] at hv; exact hv
theorem Blk.row {w : World} {g : Nat} {T : TypeId} {cs : List Value} (h : Blk w g T cs) (ds : List Value) : Blk (w.setRow g ds.toArray) g T ds := setRow_heap w g _ _ T _ h
theorem grown_row (w : World) (g : Nat) (ds : Array Value) : w.grownBy (w.setRow g ds) (some g) :=
  ⟨rfl, rfl, rfl, by simp, fun k _ hk => setRow_other w g k ds (fun e => hk (by rw [e]))⟩
theorem grown_cell (w : World) (g j : Nat) (v : Value) : w.grownBy (w.setCell ⟨g, j, none⟩ v) (some g) :=
  ⟨rfl, rfl, rfl, by simp, fun k _ hk => heap_setCell_other w ⟨g, j, none⟩ k v (fun e => hk (by rw [e]))⟩

/-! ### Bytes of an array, by value -/
def arr (l : List UInt8) : Value := .agg (l.map b8).toArray
def zeros (n : Nat) : List UInt8 := List.replicate n 0
/-- What lies ahead of, in, and behind a place. -/
def put {α : Type} (l : List α) (i : Nat) (m : List α) : List α := l.take i ++ m ++ l.drop (i + m.length)
theorem put_length {α : Type} (l : List α) (i : Nat) (m : List α) (h : i + m.length ≤ l.length) : (put l i m).length = l.length := by
  simp [put]; omega
theorem arr_cells (l : List UInt8) : (arr l).cells = (l.map b8).toArray := rfl

section
variable {P : Program}
theorem run_load_part {w : World} {g o n : Nat} {T U : TypeId} {cs : List Value} (h : Blk w g T cs) {d : TypeDesc} (hu : P.underlying U = some d) (hd : (match d with | .struct _ | .array _ _ => true | _ => false) = true)
    (hi : (P.info? U).map (·.size) = some n) (hn : o + n ≤ cs.length) :
    (Instr.loadAt U (.pointer (some ⟨g, o, none⟩))).run P w = .ok (.agg ((cs.drop o).take n).toArray) w := by
  have hl : (loadCells ⟨g, o, none⟩ ((cs.drop o).take n).length).run P w = .ok ((cs.drop o).take n).toArray w :=
    run_loadCells_list (P := P) w _ _ (fun j v hv => by
      rw [Addr.add_lit, h.cell]
      rw [List.getElem?_take] at hv
      split at hv
      · rw [List.getElem?_drop] at hv; exact hv
      · cases hv)
  have hlen : ((cs.drop o).take n).length = n := by rw [List.length_take, List.length_drop]; omega
  rw [hlen] at hl
  obtain ⟨i, hq, hs⟩ := Option.map_eq_some_iff.1 hi
  have hagg : (isAgg U).run P w = .ok true w := by
    unfold isAgg
    rw [Sem.run_bind, run_underlying hu w]
    cases d <;> simp_all
  simp [Instr.loadAt, Instr.sureAddr, loadVar, Sem.run_bind, hagg, sizeOf, typeInfo, hq, hs, hl]
theorem run_store_part {w : World} {g o n : Nat} {T U : TypeId} {cs : List Value} (h : Blk w g T cs) (v : Value) (vs : List Value) (hv : v.cells = vs.toArray) (h1 : ∀ u ∈ vs, u.oneCell' = true)
    (hi : (P.info? U).map (·.size) = some n) (hl : vs.length = n) (hn : o + n ≤ cs.length) :
    (Instr.storeAt U (.pointer (some ⟨g, o, none⟩)) v).run P w = .ok () (w.setRow g (put cs o vs).toArray) := by
  obtain ⟨i, hq, hs⟩ := Option.map_eq_some_iff.1 hi
  have hst := run_storeCells_at P g o T vs 0 cs.toArray w h (by simp; omega) h1
  simp only [Nat.add_zero] at hst
  simp [Instr.storeAt, Instr.sureAddr, storeVar, Sem.run_bind, sizeOf, typeInfo, hq, hs, hv, hl, hst, put]
/-- Arrays are the same if their bytes are. -/
theorem run_equal_bytes {T : TypeId} {n : Nat} (hT : P.underlying T = some (.array n 5)) (h5 : P.underlying 5 = some (.int .u8)) (hs : (P.info? 5).map (·.size) = some 1) (l m : List UInt8) (hl : l.length = n) (hm : m.length = n) (d : Nat) (w : World) :
    (Op.equalIn (d + 2) T (.agg (l.map b8).toArray) (.agg (m.map b8).toArray)).run P w = .ok (l == m) w := by
  obtain ⟨i5, hi5, hs5⟩ := Option.map_eq_some_iff.1 hs
  have hpart : ∀ (k : List UInt8) (j : Nat) (hj : j < k.length) (u : World), (part 5 (k.map b8).toArray (j * 1)).run P u = .ok (b8 k[j]) u := by
    intro k j hj u
    simp [part, isAgg, run_underlying h5, hj]
  have loop : ∀ (k : Nat) (j : Nat), j + k = n → l.take j = m.take j → ∀ u, (forIn (List.range' j k) ((none, ()) : Option Bool × Unit) fun i r => do
      if (!(← Op.equalIn (d + 1) 5 (← part 5 (l.map b8).toArray (i * 1)) (← part 5 (m.map b8).toArray (i * 1)))) = true then pure (ForInStep.done (some false, ())) else pure (ForInStep.yield (none, ()))).run P u =
      .ok (if l == m then (none, ()) else (some false, ())) u := by
    intro k
    induction k with
    | zero =>
      intro j hj ht u
      have : l = m := by rw [List.take_of_length_le (by omega), List.take_of_length_le (by omega)] at ht; exact ht
      subst this
      simp
    | succ k ih =>
      intro j hj ht u
      have hjl : j < l.length := by omega
      have hjm : j < m.length := by omega
      rw [List.range'_succ]
      simp only [List.forIn_cons, Sem.run_bind, hpart l j hjl, hpart m j hjm, Result.andThen_ok]
      rw [show (Op.equalIn (d + 1) 5 (b8 l[j]) (b8 m[j])).run P u = .ok (n8 l[j] == n8 m[j]) u from run_equalIn_int u d 5 .u8 .u8 _ _ h5]
      simp only [Result.andThen_ok, Sem.run_ite, Sem.run_pure]
      by_cases he : l[j] = m[j]
      · have hb : (n8 l[j] == n8 m[j]) = true := by simp [he]
        rw [hb]
        simp only [Bool.not_true, Bool.false_eq_true, if_false, Result.andThen_ok]
        exact ih (j + 1) (by omega) (by rw [List.take_succ_eq_append_getElem hjl, List.take_succ_eq_append_getElem hjm, ht, he]) u
      · have hb : (n8 l[j] == n8 m[j]) = false := by rw [beq_eq_false_iff_ne]; exact fun h => he (n8_inj h)
        have hlm : (l == m) = false := by rw [beq_eq_false_iff_ne]; rintro rfl; exact he rfl
        rw [hb, hlm]
        simp
  have h0 := loop n 0 (by omega) (by simp) w
  rw [Op.equalIn]
  simp only [Sem.run_bind, run_underlying hT, Result.andThen_ok, sizeOf, typeInfo, run_program, hi5, Sem.run_pure, hs5]
  rw [Std.Legacy.Range.forIn_eq_forIn_range']
  simp only [Std.Legacy.Range.size, Nat.sub_zero, Nat.add_sub_cancel, Nat.div_one]
  rw [h0]
  simp only [Result.andThen_ok]
  cases l == m <;> simp
end
end Go.Proofs.Ytiihllfjlgbfcaa
