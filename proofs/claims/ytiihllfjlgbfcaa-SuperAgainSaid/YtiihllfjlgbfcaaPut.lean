/- Plain lists: what is put where, and what a block of 256 bytes is: a sum of 4 bytes, and 252 bytes. -/
import Derived.Test.YtiihllfjlgbfcaaBase2
import Derived.Test.YtiihllfjlgbfcaaCrcLaw3
namespace Go.Proofs.Ytiihllfjlgbfcaa
open Go.RowKit

theorem put_nil {α : Type} (l : List α) (i : Nat) : put l i [] = l := by simp [put]
theorem put_set {α : Type} (l m : List α) (i k : Nat) (hk : k < m.length) (hi : i + k < l.length) : (put l i (m.take k)).set (i + k) m[k] = put l i (m.take (k + 1)) := by
  have h1 : (m.take k).length = k := by simp; omega
  have h2 : (m.take (k + 1)).length = k + 1 := by simp; omega
  unfold put
  rw [h1, h2, List.take_succ_eq_append_getElem hk]
  rw [List.drop_eq_getElem_cons hi]
  rw [List.set_append_right _ _ (by simp; omega)]
  have : i + k - (l.take i ++ m.take k).length = 0 := by simp; omega
  rw [this, List.set_cons_zero]
  simp only [List.append_assoc, List.singleton_append, Nat.add_assoc]
theorem put_end {α : Type} (l : List α) (i : Nat) (m : List α) (k : Nat) (hk : k = i + m.length) (x : α) (hx : k < l.length) : (put l i m).set k x = put l i (m ++ [x]) := by
  subst hk
  have hk : m.length < (m ++ [x]).length := by simp
  have := put_set l (m ++ [x]) i m.length hk (by omega)
  rw [List.take_of_length_le (l := m ++ [x]) (i := m.length + 1) (by simp)] at this
  simpa using this
theorem put_drop {α : Type} (l : List α) (i : Nat) (m : List α) (h : i ≤ l.length) : (put l i m).drop i = m ++ l.drop (i + m.length) := by
  unfold put
  rw [List.append_assoc, List.drop_append_of_le_length (by simp; omega)]
  simp
theorem put_zero {α : Type} (l m : List α) : put l 0 m = m ++ l.drop m.length := by simp [put]
theorem Blk.cell8 {w : World} {g : Nat} {T : TypeId} {L : List UInt8} (h : Blk w g T (L.map b8)) (j : Nat) (hj : j < L.length) : ∃ x, w.cell? ⟨g, j, none⟩ = some (.int .u8 (n8 x)) :=
  ⟨L[j], by rw [h.cell]; simp [hj, b8]⟩
theorem Blk.get8 {w : World} {g : Nat} {T : TypeId} {L : List UInt8} (h : Blk w g T (L.map b8)) (j : Nat) (hj : j < L.length) : w.cell? ⟨g, j, none⟩ = some (.int .u8 (n8 L[j])) := by
  rw [h.cell]; simp [hj, b8]
theorem Blk.set8 {w : World} {g : Nat} {T : TypeId} {L : List UInt8} (h : Blk w g T (L.map b8)) (j : Nat) (x : UInt8) : Blk (w.setCell ⟨g, j, none⟩ (.int .u8 (n8 x))) g T ((L.set j x).map b8) := by
  rw [List.map_set]; exact h.set j (b8 x)
theorem Blk.rd8 {w : World} {g : Nat} {T : TypeId} {L : List UInt8} (h : Blk w g T (L.map b8)) (o : Nat) : Rd w (some ⟨g, o, none⟩) ((L.drop o).map b8) := by
  rw [List.map_drop]; exact h.rd o
theorem Rd.keep {w u : World} {ad : Addr} {cs : List Value} (h : Rd w (some ad) cs) (hk : u.heap[ad.block]? = w.heap[ad.block]?) : Rd u (some ad) cs := by
  intro i hi
  obtain ⟨ad', he, hc⟩ := h i hi
  cases he
  exact ⟨ad, rfl, (World.cell?_of_block (w := w) (by rw [Addr.block_add]; exact hk)).trans hc⟩
theorem Rd.other {w : World} {ad : Addr} {cs : List Value} (h : Rd w (some ad) cs) {k : Nat} (hk : ad.block ≠ k) (j : Nat) (v : Value) : Rd (w.setCell ⟨k, j, Option.none⟩ v) (some ad) cs :=
  h.keep (heap_setCell_other w ⟨k, j, Option.none⟩ ad.block v hk)
def pad (n : Nat) (l : List UInt8) : List UInt8 := (l ++ zeros n).take n
theorem pad_length (n : Nat) (l : List UInt8) : (pad n l).length = n := by simp [pad, zeros]
theorem put_zeros (l : List UInt8) (n k : Nat) : (put (zeros (n + k)) k (l.take n)).drop k = pad n l := by
  rw [put_drop _ _ _ (by simp [zeros])]
  unfold pad zeros
  rw [List.take_append, List.drop_replicate]
  simp
  all_goals omega
def summed (l : List UInt8) : List UInt8 := Crc.tail (Crc.sum (pad 252 l)) ++ pad 252 l
theorem tail_length (s : UInt32) : (Crc.tail s).length = 4 := rfl
theorem summed_length (l : List UInt8) : (summed l).length = 256 := by simp [summed, pad_length, tail_length]
end Go.Proofs.Ytiihllfjlgbfcaa
