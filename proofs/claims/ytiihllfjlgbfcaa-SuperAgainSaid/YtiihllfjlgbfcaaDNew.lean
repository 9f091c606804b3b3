/- The walks of disk.New, Grow and Copy's clones. -/
import Derived.Test.YtiihllfjlgbfcaaDWrite
namespace Go.Proofs.Ytiihllfjlgbfcaa
open Go.RowKit
def noughts (n : Nat) : List (List UInt8) := List.replicate n (zeros 64)
theorem secs_noughts (n : Nat) : secs (noughts n) = List.replicate (n * 64) (b8 0) := by
  induction n with
  | zero => simp [secs, noughts]
  | succ n ih =>
    have e : secs (noughts (n + 1)) = s8 (zeros 64) ++ secs (noughts n) := by simp [secs, noughts, List.replicate_succ]
    rw [e, ih]
    simp only [s8, zeros, List.map_replicate]
    rw [List.replicate_append_replicate]
    congr 1; omega
theorem made_rep (v : Value) (m k : Nat) (hm : 0 < m) : (madeCells (List.replicate m v).toArray k).toList = List.replicate k v := by
  apply List.ext_getElem
  · simp [madeCells]
  · intro i h1 h2
    have : i % m < m := Nat.mod_lt _ hm
    simp only [madeCells, List.getElem_replicate]
    simp
    rw [getElem!_pos _ _ (by simpa using this)]
    simp
theorem arr_zeros (n : Nat) : (arr (zeros n)).cells = (List.replicate n (b8 0)).toArray := by
  show ((List.replicate n (0 : UInt8)).map b8).toArray = _
  rw [List.map_replicate]
theorem made59 (n : Nat) : (madeCells (arr (zeros 64)).cells (n * 64)).toList = secs (noughts n) := by
  rw [secs_noughts, arr_zeros, made_rep _ _ _ (by decide)]
theorem all64_noughts (n : Nat) : All64 (noughts n) := by
  intro s hs
  rw [List.eq_of_mem_replicate hs, s8_length, zeros_length]
def DD.new (n : Nat) : DD := ⟨noughts n, [], -1, false⟩
theorem DD.new_good (n : Nat) (h0 : 0 < n) (h1 : n ≤ 8192) : DGood (DD.new n) :=
  ⟨by simpa [DD.new, noughts] using h0, by simpa [DD.new, noughts] using h1, all64_noughts n, fun x hx => by simp [DD.new] at hx, fun x hx => by simp [DD.new] at hx, by simp [DD.new], by simp [DD.new]⟩
def GivesDisk (d : DD) (w : World) (e : Ending) (w' : World) : Prop := ∃ g F, e = .returned (.tuple #[.pointer (some ⟨g, 0, none⟩), .int .i64 0]) ∧ DiskAt w' g d F ∧ Below w.heap.size w w' ∧ ∀ k, F k → w.heap.size ≤ k
set_option maxRecDepth 100000 in
theorem new_any (n : Nat) (w : World) (h0 : 0 < n) (h1 : n ≤ 8192) : Calls Try.prog 37 #[.int .i64 n] w (GivesDisk (DD.new n) w) := by
  go_enter Try.func37, Try.ntmps37
  go_wp2_with (first | with_reducible refine halt_make 49 ?_)
  refine L.make elem59 (.tmp 10) (.tmp 10) rfl (by rfl) (by rfl) (by omega) (by rfl) ?_
  intro w1 hB hG
  rw [made59] at hB
  simp only [Act.put, List.setIfInBounds_toArray, List.set_cons_zero, List.set_cons_succ]
  have hP := Blk.new w1 [.slice (some ⟨w.heap.size, 0, none⟩) n n, .slice none 0 0, .int .i64 (-1), .bool false] 52
  have gP : GB w1 (w1.alloc (.cells #[.slice (some ⟨w.heap.size, 0, none⟩) n n, .slice none 0 0, .int .i64 (-1), .bool false] 52)) := (Below.refl _ _).alloc (Nat.le_refl _) _
  have hB1 := hB.gb gP
  change Blk (w1.alloc (.cells #[.slice (some ⟨w.heap.size, 0, none⟩) n n, .slice none 0 0, .int .i64 (-1), .bool false] 52)) _ _ _ at hP
  go_wp2_with fail
  generalize w1.alloc (.cells #[.slice (some ⟨w.heap.size, 0, none⟩) n n, .slice none 0 0, .int .i64 (-1), .bool false] 52) = w2 at *
  go_ret2
  have hlt := hB.lt
  have hlt2 := hP.lt
  refine ⟨w1.heap.size, fun k => k = w1.heap.size ∨ k = w.heap.size, rfl, ⟨⟨w.heap.size, n, .slice none 0 0, []⟩, ?_, ?_, ?_, World.ownsRow_nil _ _ _ _, ⟨?_, ?_, ?_⟩, ⟨.inl rfl, .inr rfl, ?_⟩, ?_⟩, bgb hG gP hG.size, ?_⟩
  · simpa [DD.new, noughts] using hP
  · simpa [DD.new] using hB1
  · simp [DD.new, noughts, maxLen]; omega
  · simp only; omega
  · simp [Value.ownBlock]
  · simp [Value.ownBlock]
  · simp [Value.ownBlock]
  · intro k hk; rcases hk with rfl | rfl <;> omega
  · intro k hk; rcases hk with rfl | rfl <;> omega
theorem new_bad (n : Int) (w : World) (h : n < 1 ∨ 8192 < n) : Calls Try.prog 37 #[.int .i64 n] w fun e w' => e = .returned (.tuple #[.pointer none, .int .i64 2]) ∧ w = w' := by
  rcases (show n < 1 ∨ (¬ n < 1 ∧ 8192 < n) by omega) with h | ⟨h, h'⟩
  all_goals
    go_enter Try.func37, Try.ntmps37
    go_wp2_with fail
    go_ret2
    exact ⟨rfl, rfl⟩
end Go.Proofs.Ytiihllfjlgbfcaa
