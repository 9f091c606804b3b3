/- Structs of a number and an array, slices of one element: how they are built. -/
import Derived.Test.YtiihllfjlgbfcaaDisk3
import Derived.Great.BuildSlice
namespace Go.Proofs.Ytiihllfjlgbfcaa
open Go.RowKit
theorem foldl_zip (off : Nat) (v : Array Value) (cs : Array Value) : (v.zipIdx.foldl (fun cs (c, j) => cs.setIfInBounds (off + j) c) cs).size = cs.size ∧
    ∀ k, (v.zipIdx.foldl (fun cs (c, j) => cs.setIfInBounds (off + j) c) cs)[k]? = if off ≤ k ∧ k < off + v.size ∧ k < cs.size then v[k - off]? else cs[k]? := by
  have h := Great.foldl_set off v.toList 0 cs
  rw [← Array.toList_zipIdx, Array.foldl_toList] at h
  simpa using h
theorem fill_two (place : Nat → Option (Nat × Nat)) (n m : Nat) (h0 : place 0 = some (0, n)) (h1 : place 1 = some (n, m)) (u v : Value) (cs : Array Value) (hu : u.cells.size = n) (hv : v.cells.size = m) (hc : cs.size = n + m) :
    Instr.fill place cs [(0, u), (1, v)] = some (u.cells ++ v.cells) := by
  obtain ⟨a1, a2⟩ := foldl_zip 0 u.cells cs
  obtain ⟨b1, b2⟩ := foldl_zip n v.cells (u.cells.zipIdx.foldl (fun cs (c, j) => cs.setIfInBounds (0 + j) c) cs)
  have c1 : ¬ ((decide (u.cells.size ≠ n) || decide (0 + u.cells.size > cs.size)) = true) := by simp [hu, hc]
  have c2 : ¬ ((decide (v.cells.size ≠ m) || decide (n + v.cells.size > (u.cells.zipIdx.foldl (fun cs (c, j) => cs.setIfInBounds (0 + j) c) cs).size)) = true) := by rw [a1]; simp [hv, hc]
  simp only [Instr.fill, h0, h1]
  rw [if_neg c1, if_neg c2]
  congr 1
  apply Array.ext_getElem?
  intro k
  rw [b2 k, a1, hv, a2 k, hu, Array.getElem?_append, hu]
  by_cases hk : k < n
  · rw [if_neg (by omega), if_pos (by omega), if_pos hk]; simp
  · rw [if_neg hk]
    by_cases hk2 : k < n + m
    · rw [if_pos (by omega)]
    · rw [if_neg (by omega), if_neg (by omega), Array.getElem?_eq_none (by omega), Array.getElem?_eq_none (by omega)]
/-- A slice of one element. -/
theorem run_slice_one {T e : TypeId} {sz bytes : Nat} {z : Value} (hE : Elem T e sz bytes z) (hsz : sz ≤ 1000) (v : Value) (hv : v.cells.size = sz) (w : World) :
    (Instr.buildSlice T 1 #[(0, v)]).run Try.prog w = .ok (.slice (some ⟨w.heap.size, 0, none⟩) 1 1) (w.alloc (.cells v.cells e)) := by
  obtain ⟨hT, ⟨i, hi, hz0, hz1, hz2⟩, hz3, hz4, hz5⟩ := hE
  refine run_buildSlice w T e 1 _ _ i z hT hi hz0 (by rw [hz1]; omega) (by rw [hz1]; omega) ?_
  rw [hz1]
  have := Great.fill_whole (s := sz) hz4 [v] ((Array.range (1 * sz)).map (z.cells[· % z.cells.size]!)) (by simpa using hv) (by simp)
  simpa using this
theorem info151 : (Try.prog.info? 151).map (fun i => (i.zero, i.size, i.bytes)) = some (some (.agg (.int .i64 0 :: (zeros 64).map b8).toArray), 65, 72) := by kernel_rfl
theorem elem151 : Elem 50 151 65 72 (.agg (.int .i64 0 :: (zeros 64).map b8).toArray) := by
  obtain ⟨i, hi, hz0, hz1, hz2⟩ := info_parts info151
  exact ⟨Try.underlying50, ⟨i, hi, hz0, hz1, hz2⟩, rfl, by decide, by decide⟩
theorem info59' : (Try.prog.info? 59).map (fun i => (i.zero, i.size, i.bytes)) = some (some (arr (zeros 64)), 64, 64) := by kernel_rfl
theorem elem59 : Elem 49 59 64 64 (arr (zeros 64)) := by
  obtain ⟨i, hi, hz0, hz1, hz2⟩ := info_parts info59'
  exact ⟨Try.underlying49, ⟨i, hi, hz0, hz1, hz2⟩, rfl, by decide, by decide⟩
theorem info3' : (Try.prog.info? 3).map (fun i => (i.zero, i.size, i.bytes)) = some (some (.int .i64 0), 1, 8) := by kernel_rfl
theorem elemI : Elem 66 3 1 8 (.int .i64 0) := by
  obtain ⟨i, hi, hz0, hz1, hz2⟩ := info_parts info3'
  exact ⟨Try.underlying66, ⟨i, hi, hz0, hz1, hz2⟩, rfl, by decide, by decide⟩
theorem run_build151 (i : Int) (s : List UInt8) (hs : s.length = 64) (w : World) : (Instr.build 151 #[(0, .int .i64 i), (1, arr s)]).run Try.prog w = .ok (.agg (.int .i64 i :: s.map b8).toArray) w := by
  obtain ⟨i0, hi0, hz0, hz1, hz2⟩ := info_parts info151
  obtain ⟨i3, hi3, hz30, hz31, hz32⟩ := info_parts info3'
  obtain ⟨i59, hi59, hz590, hz591, hz592⟩ := info_parts info59'
  have hf := fill_two (fun x => ([(0, 1), (1, 64)] : List (Nat × Nat))[x]?) 1 64 rfl rfl (.int .i64 i) (arr s) (Value.agg (.int .i64 0 :: (zeros 64).map b8).toArray).cells rfl (by simp [arr, Value.cells, hs]) (by simp [zeros, Value.cells])
  unfold Instr.build
  simp only [Sem.run_bind, zeroValue, typeInfo, run_program, hi0, hz0, Result.andThen_ok, Sem.run_pure, run_underlying Try.underlying151]
  simp [sizeOf, typeInfo, hi3, hi59, hz31, hz591]
  rw [hf]
  simp [Value.cells, arr]
section
variable {ρ : Operand → Value} {o : Oper} {w : World}
theorem X.build151 {x y : Operand} {i : Int} {s : List UInt8} (ho : o.op = .build 151 #[(0, x), (1, y)]) (hx : ρ x = .int .i64 i) (hy : ρ y = arr s) (hs : s.length = 64) :
    (execOp ρ o).run Try.prog w = .ok (.value (.agg (.int .i64 i :: s.map b8).toArray)) w := by
  have := run_build151 i s hs w
  unfold execOp; rw [ho]
  simp [hx, hy, this]
theorem X.slice1 {T e : TypeId} {sz bytes : Nat} {z v : Value} {x : Operand} (hE : Elem T e sz bytes z) (hsz : sz ≤ 1000) (ho : o.op = .buildSlice T 1 #[(0, x)]) (hx : ρ x = v) (hv : v.cells.size = sz) :
    (execOp ρ o).run Try.prog w = .ok (.value (.slice (some ⟨w.heap.size, 0, none⟩) 1 1)) (w.alloc (.cells v.cells e)) := by
  have := run_slice_one hE hsz v hv w
  unfold execOp; rw [ho]
  simp [hx, this]
end
theorem ents_append (l m : List (Nat × List UInt8)) : ents (l ++ m) = ents l ++ ents m := by simp [ents]
theorem secs_append (l m : List (List UInt8)) : secs (l ++ m) = secs l ++ secs m := by simp [secs]
theorem ents_length {l : List (Nat × List UInt8)} (h : All65 l) : (ents l).length = l.length * 65 := fm_length h
end Go.Proofs.Ytiihllfjlgbfcaa
