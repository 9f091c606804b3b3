/- A disk, plainly; how it lies in memory; the walks of what only reads a little of it. -/
import Derived.Test.YtiihllfjlgbfcaaFr
import Derived.Test.YtiihllfjlgbfcaaNode
namespace Go.Proofs.Ytiihllfjlgbfcaa
open Go.RowKit

/-! ### Rows of elements of one size -/
section
variable {α : Type} {f : α → List Value} {n : Nat}
theorem fm_length : ∀ {l : List α}, (∀ x ∈ l, (f x).length = n) → (l.flatMap f).length = l.length * n
  | [], _ => by simp
  | x :: l, h => by
    rw [List.flatMap_cons, List.length_append, h x (by simp), fm_length (fun y hy => h y (by simp [hy])), List.length_cons, Nat.add_mul]; omega
theorem fm_drop : ∀ {l : List α}, (∀ x ∈ l, (f x).length = n) → ∀ i, (l.flatMap f).drop (i * n) = (l.drop i).flatMap f
  | [], _, i => by simp
  | x :: l, h, 0 => by simp
  | x :: l, h, i + 1 => by
    have hx := h x (by simp)
    rw [List.flatMap_cons, List.drop_succ_cons, ← fm_drop (fun y hy => h y (by simp [hy])) i, Nat.add_mul, Nat.one_mul, Nat.add_comm, ← List.drop_drop, ← hx, List.drop_left]
theorem fm_at {l : List α} (h : ∀ x ∈ l, (f x).length = n) (i : Nat) (hi : i < l.length) : ((l.flatMap f).drop (i * n)).take n = f l[i] := by
  rw [fm_drop h, List.drop_eq_getElem_cons hi, List.flatMap_cons, List.take_append_of_le_length (by rw [h _ (List.getElem_mem hi)]; exact Nat.le_refl _), List.take_of_length_le (by rw [h _ (List.getElem_mem hi)]; exact Nat.le_refl _)]
theorem fm_take {l : List α} (h : ∀ x ∈ l, (f x).length = n) (i : Nat) (hi : i ≤ l.length) : (l.flatMap f).take (i * n) = (l.take i).flatMap f := by
  have h1 : (l.take i).length = i := by rw [List.length_take]; omega
  have h2 := fm_length (f := f) (n := n) (l := l.take i) (fun x hx => h x (List.mem_of_mem_take hx))
  rw [h1] at h2
  conv => lhs; rw [← List.take_append_drop i l, List.flatMap_append]
  rw [← h2, List.take_left]
theorem fm_set {l : List α} (h : ∀ x ∈ l, (f x).length = n) (i : Nat) (hi : i < l.length) (y : α) (hy : (f y).length = n) : put (l.flatMap f) (i * n) (f y) = (l.set i y).flatMap f := by
  unfold put
  rw [hy, show i * n + n = (i + 1) * n by rw [Nat.add_mul, Nat.one_mul], fm_drop h, fm_take h i (by omega), List.set_eq_take_append_cons_drop, if_pos hi, List.flatMap_append, List.flatMap_cons, List.append_assoc]
end
theorem put_app {α : Type} (l m : List α) (i : Nat) (x : List α) (h : i + x.length ≤ l.length) : put (l ++ m) i x = put l i x ++ m := by
  unfold put
  rw [List.take_append_of_le_length (by omega), List.drop_append_of_le_length (by omega)]
  simp

/-! ### A disk, plainly -/
structure DD where
  img : List (List UInt8)
  jr : List (Nat × List UInt8)
  left : Int
  dead : Bool
def s8 (s : List UInt8) : List Value := s.map b8
def secs (l : List (List UInt8)) : List Value := l.flatMap s8
def entV (x : Nat × List UInt8) : List Value := .int .i64 x.1 :: x.2.map b8
def ents (l : List (Nat × List UInt8)) : List Value := l.flatMap entV
def All64 (l : List (List UInt8)) : Prop := ∀ s ∈ l, (s8 s).length = 64
def All65 (l : List (Nat × List UInt8)) : Prop := ∀ x ∈ l, (entV x).length = 65
theorem s8_length (s : List UInt8) : (s8 s).length = s.length := by simp [s8]
theorem entV_length (x : Nat × List UInt8) : (entV x).length = x.2.length + 1 := by simp [entV]
/-- What is true of each disk that was made. -/
structure DGood (d : DD) : Prop where
  some : 0 < d.img.length
  few : d.img.length ≤ 8192
  sec : All64 d.img
  ent : All65 d.jr
  inn : ∀ x ∈ d.jr, x.1 < d.img.length
  lo : -1 ≤ d.left
  hi : d.left ≤ 9223372036854775807

/-! ### A disk in memory -/
structure DLay where
  gi : Nat
  cap : Nat
  vj : Value
  spare : List Value
/-- The disk d lies at p, in blocks of which F is true. -/
structure DiskL (w : World) (p : Nat) (d : DD) (F : Nat → Prop) (y : DLay) : Prop where
  blk : Blk w p 52 [.slice (some ⟨y.gi, 0, none⟩) d.img.length y.cap, y.vj, .int .i64 d.left, .bool d.dead]
  img : Blk w y.gi 59 (secs d.img ++ y.spare)
  cap : d.img.length ≤ y.cap ∧ y.cap ≤ maxLen
  jr : w.ownsRow 0 151 65 y.vj d.jr.length (ents d.jr)
  dis : y.gi ≠ p ∧ y.vj.ownBlock ≠ some p ∧ y.vj.ownBlock ≠ some y.gi
  cov : F p ∧ F y.gi ∧ (∀ k, y.vj.ownBlock = some k → F k)
  bnd : ∀ k, F k → k < w.heap.size
def DiskAt (w : World) (p : Nat) (d : DD) (F : Nat → Prop) : Prop := ∃ y, DiskL w p d F y
theorem DiskL.fr {w u : World} {p : Nat} {d : DD} {F G : Nat → Prop} {y : DLay} (h : DiskL w p d F y) (f : Fr G w u) (hd : ∀ k, F k → ¬ G k) : DiskL u p d F y :=
  ⟨f.blk h.blk (hd _ h.cov.1), f.blk h.img (hd _ h.cov.2.1), h.cap, f.row h.jr (fun k hk => hd k (h.cov.2.2 k hk)), h.dis, h.cov, fun k hk => Nat.lt_of_lt_of_le (h.bnd k hk) f.size⟩
theorem DiskAt.fr {w u : World} {p : Nat} {d : DD} {F G : Nat → Prop} (h : DiskAt w p d F) (f : Fr G w u) (hd : ∀ k, F k → ¬ G k) : DiskAt u p d F := by
  obtain ⟨y, h⟩ := h; exact ⟨y, h.fr f hd⟩
theorem DiskL.gb {w u : World} {p : Nat} {d : DD} {F : Nat → Prop} {y : DLay} (h : DiskL w p d F y) (f : GB w u) : DiskL u p d F y := h.fr (Fr.of_gb (F := fun _ => False) f) (fun _ _ h => h)
theorem DiskAt.gb {w u : World} {p : Nat} {d : DD} {F : Nat → Prop} (h : DiskAt w p d F) (f : GB w u) : DiskAt u p d F := by
  obtain ⟨y, h⟩ := h; exact ⟨y, h.gb f⟩
/-- The call turned the disk at p into d: it wrote where F is true and in new blocks; the disk lies there now. -/
def Moved (p : Nat) (d : DD) (F : Nat → Prop) (w w' : World) : Prop := ∃ F' : Nat → Prop, DiskAt w' p d F' ∧ Fr F w w' ∧ ∀ k, F' k → F k ∨ w.heap.size ≤ k
theorem DiskL.cells {w : World} {p : Nat} {d : DD} {F : Nat → Prop} {y : DLay} (h : DiskL w p d F y) :
    w.cell? ⟨p, 0, none⟩ = some (.slice (some ⟨y.gi, 0, none⟩) d.img.length y.cap) ∧ w.cell? ⟨p, 1, none⟩ = some y.vj ∧ w.cell? ⟨p, 2, none⟩ = some (.int .i64 d.left) ∧ w.cell? ⟨p, 3, none⟩ = some (.bool d.dead) :=
  ⟨h.blk.cell 0, h.blk.cell 1, h.blk.cell 2, h.blk.cell 3⟩
/-- No disk: nil, or a struct of noughts. -/
def NoDisk (w : World) (v : Value) : Prop := v = .pointer none ∨ ∃ g, v = .pointer (some ⟨g, 0, none⟩) ∧ Blk w g 52 [.slice none 0 0, .slice none 0 0, .int .i64 0, .bool false]
theorem NoDisk.gb {w u : World} {v : Value} (h : NoDisk w v) (f : GB w u) : NoDisk u v := by
  rcases h with h | ⟨g, h, hb⟩
  · exact .inl h
  · exact .inr ⟨g, h, hb.gb f⟩
/-! ### The walks -/
theorem sectors_any (p : Nat) (d : DD) (F : Nat → Prop) (w : World) (h : DiskAt w p d F) : Calls Try.prog 39 #[.pointer (some ⟨p, 0, none⟩)] w fun e w' => e = .returned (.int .i64 d.img.length) ∧ w = w' := by
  obtain ⟨y, h⟩ := h
  obtain ⟨c0, -, -, -⟩ := h.cells
  go_enter Try.func39, Try.ntmps39
  go_wp2_with fail
  go_ret
  exact ⟨rfl, rfl⟩
theorem sectors_no (v : Value) (w : World) (h : NoDisk w v) : Calls Try.prog 39 #[v] w fun e w' => e = .returned (.int .i64 0) ∧ w = w' := by
  rcases h with rfl | ⟨g, rfl, hb⟩
  · go_enter Try.func39, Try.ntmps39
    go_wp2_with fail
    go_ret
    exact ⟨rfl, rfl⟩
  · have c0 := hb.cell 0
    go_enter Try.func39, Try.ntmps39
    go_wp2_with fail
    go_ret
    exact ⟨rfl, rfl⟩
def DD.has (d : DD) (i : Int) : Int := if i < 0 ∨ (d.img.length : Int) ≤ i then 2 else 0
theorem has_any (p : Nat) (d : DD) (F : Nat → Prop) (i : Int) (w : World) (h : DiskAt w p d F) (hg : 0 < d.img.length) : Calls Try.prog 102 #[.pointer (some ⟨p, 0, none⟩), .int .i64 i] w fun e w' => e = .returned (.int .i64 (d.has i)) ∧ w = w' := by
  have hz : ((d.img.length : Int) == 0) = false := by rw [beq_eq_false_iff_ne]; omega
  have hs := sectors_any p d F w h
  unfold DD.has
  by_cases h1 : i < 0
  · rw [if_pos (.inl h1)]
    go_enter Try.func102, Try.ntmps102
    go_wp2_with fail
    refine hs.mono ?_
    rintro e w2 ⟨rfl, rfl⟩
    go_wp2_with fail
    go_ret
    exact ⟨rfl, rfl⟩
  · by_cases h2 : (d.img.length : Int) ≤ i
    · rw [if_pos (.inr h2)]
      go_enter Try.func102, Try.ntmps102
      go_wp2_with fail
      refine hs.mono ?_
      rintro e w2 ⟨rfl, rfl⟩
      go_wp2_with fail
      go_ret
      exact ⟨rfl, rfl⟩
    · rw [if_neg (by omega)]
      go_enter Try.func102, Try.ntmps102
      go_wp2_with fail
      refine hs.mono ?_
      rintro e w2 ⟨rfl, rfl⟩
      go_wp2_with fail
      go_ret
      exact ⟨rfl, rfl⟩
theorem has_no (v : Value) (i : Int) (w : World) (h : NoDisk w v) : Calls Try.prog 102 #[v, .int .i64 i] w fun e w' => e = .returned (.int .i64 1) ∧ w = w' := by
  have hs := sectors_no v w h
  go_enter Try.func102, Try.ntmps102
  go_wp2_with fail
  refine hs.mono ?_
  rintro e w2 ⟨rfl, rfl⟩
  go_wp2_with fail
  go_ret
  exact ⟨rfl, rfl⟩
theorem dead_any (p : Nat) (d : DD) (F : Nat → Prop) (w : World) (h : DiskAt w p d F) : Calls Try.prog 47 #[.pointer (some ⟨p, 0, none⟩)] w fun e w' => e = .returned (.bool d.dead) ∧ w = w' := by
  obtain ⟨y, h⟩ := h
  obtain ⟨-, -, -, c3⟩ := h.cells
  go_enter Try.func47, Try.ntmps47
  go_wp2_with fail
  go_ret
  exact ⟨rfl, rfl⟩
theorem dead_no (v : Value) (w : World) (h : NoDisk w v) : Calls Try.prog 47 #[v] w fun e w' => e = .returned (.bool false) ∧ w = w' := by
  rcases h with rfl | ⟨g, rfl, hb⟩
  · go_enter Try.func47, Try.ntmps47
    go_wp2_with fail
    go_ret
    exact ⟨rfl, rfl⟩
  · have c0 := hb.cell 3
    go_enter Try.func47, Try.ntmps47
    go_wp2_with fail
    go_ret
    exact ⟨rfl, rfl⟩
end Go.Proofs.Ytiihllfjlgbfcaa
