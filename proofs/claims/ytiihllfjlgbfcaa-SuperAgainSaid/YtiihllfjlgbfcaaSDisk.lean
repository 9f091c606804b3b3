/- Superblocks on a disk, plainly: blocks read and written, the one that counts, and how one is saved. -/
import Derived.Test.YtiihllfjlgbfcaaSPlain
import Derived.Test.YtiihllfjlgbfcaaDNew
namespace Go.Proofs.Ytiihllfjlgbfcaa
open Go.RowKit
theorem sgetD_set {α : Type} (l : List α) (i j : Nat) (x z : α) : (l.set i x).getD j z = if i = j ∧ j < l.length then x else l.getD j z := by
  simp only [List.getD, List.getElem?_set]
  by_cases h : i = j
  · subst h
    by_cases h2 : i < l.length
    · simp [h2]
    · simp [h2]
  · simp [h]
theorem SGood.step {d : DD} (h : DGood d) : DGood d.step.2 := by
  have hi := DD.step_img d
  refine ⟨by rw [hi.1]; exact h.some, by rw [hi.1]; exact h.few, by rw [hi.1]; exact h.sec, by rw [hi.2]; exact h.ent, by rw [hi.1, hi.2]; exact h.inn, ?_, ?_⟩
  · have := h.lo; unfold DD.step; split
    · exact this
    · simp only; split <;> omega
  · have := h.hi; unfold DD.step; split
    · exact this
    · simp only; split <;> omega
theorem SGood.put {d : DD} (h : DGood d) (k : Nat) (hk : k < d.img.length) (s : List UInt8) (hs : s.length = 64) : DGood (d.put k s) := by
  have hget : d.img.getD k [] = d.img[k] := by simp [List.getD, hk]
  refine ⟨by simp only [DD.put, List.length_set]; exact h.some, by simp only [DD.put, List.length_set]; exact h.few, fun x hx => ?_, fun x hx => ?_, fun x hx => ?_, h.lo, h.hi⟩
  · simp only [DD.put] at hx
    rcases List.mem_or_eq_of_mem_set hx with h' | rfl
    · exact h.sec x h'
    · rw [s8_length]; exact hs
  · simp only [DD.put] at hx
    rcases List.mem_append.1 hx with h' | h'
    · exact h.ent x h'
    · simp only [List.mem_singleton] at h'
      subst h'
      rw [entV_length, hget]
      have := h.sec.at k hk
      simp only; omega
  · simp only [DD.put, List.length_set] at hx ⊢
    rcases List.mem_append.1 hx with h' | h'
    · exact h.inn x h'
    · simp only [List.mem_singleton] at h'
      subst h'; exact hk
theorem SGood.flushed {d : DD} (h : DGood d) : DGood { d with jr := [] } := ⟨h.some, h.few, h.sec, (fun x hx => by cases hx), (fun x hx => by cases hx), h.lo, h.hi⟩
theorem write_in' {d : DD} (k : Nat) (hk : k < d.img.length) (s : List UInt8) : d.write (k : Int) s = if d.step.1 = 0 then (0, d.step.2.put k s) else d.step := by
  have hh : d.has (k : Int) = 0 := by unfold DD.has; rw [if_neg (by omega)]
  unfold DD.write
  rw [hh, if_pos rfl, Int.toNat_natCast]
theorem write_good' {d : DD} (h : DGood d) (k : Nat) (hk : k < d.img.length) (s : List UInt8) (hs : s.length = 64) : DGood (d.write k s).2 ∧ (d.write k s).2.img.length = d.img.length ∧ (d.write k s).2.jr.length ≤ d.jr.length + 1 ∧ (d.write k s).1 ≠ 2 := by
  have hi := DD.step_img d
  rw [write_in' k hk]
  split
  · rename_i h0
    refine ⟨SGood.put (SGood.step h) k (by rw [hi.1]; exact hk) s hs, ?_, ?_, ?_⟩
    · simp only [DD.put, List.length_set]; rw [hi.1]
    · simp only [DD.put, List.length_append, List.length_singleton]; rw [hi.2]; omega
    · simp
  · rename_i h0
    refine ⟨SGood.step h, by rw [hi.1], by rw [hi.2]; omega, ?_⟩
    rcases step_code d with e | e
    · exact absurd e h0
    · rw [e]; decide
theorem flush_good' {d : DD} (h : DGood d) : DGood d.flush.2 ∧ d.flush.2.img = d.img ∧ d.flush.2.jr.length ≤ d.jr.length := by
  have hi := DD.step_img d
  unfold DD.flush
  split
  · exact ⟨SGood.flushed (SGood.step h), hi.1, by simp⟩
  · exact ⟨SGood.step h, hi.1, by rw [hi.2]; omega⟩
namespace DD
def hasB (d : DD) (k : Int) : Int := if k < 0 ∨ ((d.img.length / 4 : Nat) : Int) ≤ k then 2 else 0
def blk (d : DD) (k : Nat) : List UInt8 := d.img.getD (4 * k) [] ++ (d.img.getD (4 * k + 1) [] ++ (d.img.getD (4 * k + 2) [] ++ d.img.getD (4 * k + 3) []))
def readB (d : DD) (k : Int) : List UInt8 × Int := if d.hasB k = 0 then (d.blk k.toNat, 0) else (zeros 256, 2)
end DD
def sect (B : List UInt8) (i : Nat) : List UInt8 := (B.drop (64 * i)).take 64
namespace DD
def writeUp (d : DD) (k : Nat) (B : List UInt8) : Nat → Int × DD
  | 0 => (0, d)
  | i + 1 => if (writeUp d k B i).1 = 0 then (writeUp d k B i).2.write ((4 * k + i : Nat) : Int) (sect B i) else writeUp d k B i
def writeB (d : DD) (k : Int) (B : List UInt8) : Int × DD := if d.hasB k = 0 then writeUp d k.toNat B 4 else (2, d)
def cand (d : DD) (slot : Nat) (best : Su) : Su := if (ofS (d.blk slot)).2 = 0 ∧ (ofS (d.blk slot)).1.tx.toNat % 2 = slot ∧ best.tx < (ofS (d.blk slot)).1.tx then (ofS (d.blk slot)).1 else best
def best (d : DD) : Su := d.cand 1 (d.cand 0 zeroS)
def load (d : DD) : Su × Int := if d.img.length < 8 then (zeroS, 2) else if d.best.tx = 0 then (zeroS, 6) else (d.best, 0)
def wipe (d : DD) (slot : Nat) : Int × DD :=
  if d.hasB slot = 0 then
    if (ofS (d.blk slot)).2 = 0 ∨ sect (d.blk slot) 0 = zeros 64 then (0, d)
    else if (d.write ((4 * slot : Nat) : Int) (zeros 64)).1 = 0 then (d.write ((4 * slot : Nat) : Int) (zeros 64)).2.flush else d.write ((4 * slot : Nat) : Int) (zeros 64)
  else (2, d)
def saveAt (d : DD) (slot : Nat) (B : List UInt8) : Int × DD :=
  if (d.wipe slot).1 = 0 then
    if ((d.wipe slot).2.writeB slot B).1 = 0 then ((d.wipe slot).2.writeB slot B).2.flush else (d.wipe slot).2.writeB slot B
  else d.wipe slot
def save (d : DD) (s : Su) : Int × DD := if mayS s then d.saveAt (s.tx.toNat % 2) (blockS s) else (2, d)
end DD
theorem sect_length (B : List UInt8) (i : Nat) (hB : B.length = 256) (hi : i < 4) : (sect B i).length = 64 := by
  unfold sect; rw [List.length_take, List.length_drop]; omega
theorem img_at64 {d : DD} (h : DGood d) (i : Nat) (hi : i < d.img.length) : (d.img.getD i []).length = 64 := by
  have : d.img.getD i [] = d.img[i] := by simp [List.getD, hi]
  rw [this]; exact h.sec.at i hi
theorem blk_length {d : DD} (h : DGood d) (k : Nat) (hk : k < d.img.length / 4) : (d.blk k).length = 256 := by
  unfold DD.blk
  rw [List.length_append, List.length_append, List.length_append, img_at64 h _ (by omega), img_at64 h _ (by omega), img_at64 h _ (by omega), img_at64 h _ (by omega)]
theorem sect_blk {d : DD} (h : DGood d) (k : Nat) (hk : k < d.img.length / 4) (i : Nat) (hi : i < 4) : sect (d.blk k) i = d.img.getD (4 * k + i) [] := by
  have l0 := img_at64 h (4 * k) (by omega)
  have l1 := img_at64 h (4 * k + 1) (by omega)
  have l2 := img_at64 h (4 * k + 2) (by omega)
  have l3 := img_at64 h (4 * k + 3) (by omega)
  unfold sect DD.blk
  rcases (show i = 0 ∨ i = 1 ∨ i = 2 ∨ i = 3 by omega) with rfl | rfl | rfl | rfl
  · rw [List.drop_zero, List.take_left' l0]; rfl
  · rw [show 64 * 1 = 64 from rfl, List.drop_left' l0, List.take_left' l1]
  · rw [show 64 * 2 = 64 + 64 from rfl, ← List.drop_drop, List.drop_left' l0, List.drop_left' l1, List.take_left' l2]
  · rw [show 64 * 3 = 64 + (64 + 64) from rfl, ← List.drop_drop, List.drop_left' l0, ← List.drop_drop, List.drop_left' l1, List.drop_left' l2, List.take_of_length_le (by omega)]
theorem sects (B : List UInt8) (hB : B.length = 256) : sect B 0 ++ (sect B 1 ++ (sect B 2 ++ sect B 3)) = B := by
  unfold sect
  have e3 : (B.drop (64 * 3)).take 64 = B.drop (64 * 3) := List.take_of_length_le (by rw [List.length_drop]; omega)
  have e2 : (B.drop (64 * 2)).take 64 ++ B.drop (64 * 3) = B.drop (64 * 2) := by
    conv => rhs; rw [← List.take_append_drop 64 (B.drop (64 * 2))]
    rw [List.drop_drop]
  have e1 : (B.drop (64 * 1)).take 64 ++ B.drop (64 * 2) = B.drop (64 * 1) := by
    conv => rhs; rw [← List.take_append_drop 64 (B.drop (64 * 1))]
    rw [List.drop_drop]
  have e0 : (B.drop (64 * 0)).take 64 ++ B.drop (64 * 1) = B := by
    rw [Nat.mul_zero, List.drop_zero, Nat.mul_one, List.take_append_drop]
  rw [e3, e2, e1, e0]
theorem sect_ext (B C : List UInt8) (hB : B.length = 256) (hC : C.length = 256) (h : ∀ i, i < 4 → sect B i = sect C i) : B = C := by
  rw [← sects B hB, ← sects C hC, h 0 (by omega), h 1 (by omega), h 2 (by omega), h 3 (by omega)]
theorem writeUp_good {d : DD} (h : DGood d) (k : Nat) (hk : k < d.img.length / 4) (B : List UInt8) (hB : B.length = 256) : ∀ i, i ≤ 4 → DGood (d.writeUp k B i).2 ∧ (d.writeUp k B i).2.img.length = d.img.length ∧ (d.writeUp k B i).2.jr.length ≤ d.jr.length + i
  | 0, _ => ⟨h, rfl, Nat.le_refl _⟩
  | i + 1, hi => by
    obtain ⟨h1, h2, h3⟩ := writeUp_good h k hk B hB i (by omega)
    unfold DD.writeUp
    split
    · obtain ⟨g1, g2, g3, -⟩ := write_good' h1 (4 * k + i) (by omega) (sect B i) (sect_length B i hB (by omega))
      exact ⟨g1, by omega, by omega⟩
    · exact ⟨h1, h2, by omega⟩
theorem hasB_in (d : DD) (k : Nat) (hk : k < d.img.length / 4) : d.hasB (k : Int) = 0 := by unfold DD.hasB; rw [if_neg (by omega)]
theorem hasB_lt {d : DD} {k : Int} (h : d.hasB k = 0) : ∃ j : Nat, k = j ∧ j < d.img.length / 4 := by
  unfold DD.hasB at h
  split at h
  · cases h
  · exact ⟨k.toNat, by omega, by omega⟩
theorem writeB_good {d : DD} (h : DGood d) (k : Int) (B : List UInt8) (hB : B.length = 256) : DGood (d.writeB k B).2 ∧ (d.writeB k B).2.img.length = d.img.length ∧ (d.writeB k B).2.jr.length ≤ d.jr.length + 4 := by
  unfold DD.writeB
  split
  · rename_i h0
    obtain ⟨j, rfl, hj⟩ := hasB_lt h0
    exact writeUp_good h j hj B hB 4 (by omega)
  · exact ⟨h, rfl, Nat.le_add_right _ _⟩
theorem wipe_good {d : DD} (h : DGood d) (slot : Nat) : DGood (d.wipe slot).2 ∧ (d.wipe slot).2.img.length = d.img.length ∧ (d.wipe slot).2.jr.length ≤ d.jr.length + 1 := by
  unfold DD.wipe
  split
  · rename_i h0
    obtain ⟨j, hj, hlt⟩ := hasB_lt h0
    have hsj : slot = j := by omega
    subst hsj
    obtain ⟨g1, g2, g3, -⟩ := write_good' h (4 * slot) (by omega) (zeros 64) (zeros_length 64)
    split
    · exact ⟨h, rfl, Nat.le_add_right _ _⟩
    · split
      · obtain ⟨f1, f2, f3⟩ := flush_good' g1
        exact ⟨f1, by rw [f2, g2], by omega⟩
      · exact ⟨g1, g2, g3⟩
  · exact ⟨h, rfl, Nat.le_add_right _ _⟩
theorem save_good {d : DD} (h : DGood d) (s : Su) : DGood (d.save s).2 ∧ (d.save s).2.img.length = d.img.length ∧ (d.save s).2.jr.length ≤ d.jr.length + 5 := by
  unfold DD.save
  split
  · unfold DD.saveAt
    obtain ⟨h1, h2, h3⟩ := wipe_good h (s.tx.toNat % 2)
    split
    · obtain ⟨g1, g2, g3⟩ := writeB_good h1 ((s.tx.toNat % 2 : Nat) : Int) (blockS s) (blockS_length s)
      split
      · obtain ⟨f1, f2, f3⟩ := flush_good' g1
        exact ⟨f1, by rw [f2, g2, h2], by omega⟩
      · exact ⟨g1, by rw [g2, h2], by omega⟩
    · exact ⟨h1, h2, by omega⟩
  · exact ⟨h, rfl, Nat.le_add_right _ _⟩
/-! ### A disk without a fuse -/
structure Live (d : DD) : Prop where
  dead : d.dead = false
  left : d.left = -1
theorem Live.step {d : DD} (h : Live d) : d.step = (0, d) := by
  obtain ⟨img, jr, l, b⟩ := d
  obtain ⟨h1, h2⟩ := h
  simp only at h1 h2
  subst h1 h2
  rfl
theorem Live.write {d : DD} (h : Live d) (k : Nat) (hk : k < d.img.length) (s : List UInt8) : d.write (k : Int) s = (0, d.put k s) := by
  rw [write_in' k hk, h.step, if_pos rfl]
theorem Live.put {d : DD} (h : Live d) (k : Nat) (s : List UInt8) : Live (d.put k s) := ⟨h.dead, h.left⟩
theorem Live.flush {d : DD} (h : Live d) : d.flush = (0, { d with jr := [] }) := by
  unfold DD.flush; rw [h.step, if_pos rfl]
theorem Live.flushed {d : DD} (h : Live d) : Live { d with jr := [] } := ⟨h.dead, h.left⟩
theorem Live.new (n : Nat) : Live (DD.new n) := ⟨rfl, rfl⟩
theorem Live.writeUp {d : DD} (h : Live d) (k : Nat) (hk : k < d.img.length / 4) (B : List UInt8) : ∀ i, i ≤ 4 → (d.writeUp k B i).1 = 0 ∧ Live (d.writeUp k B i).2 ∧ (d.writeUp k B i).2.img.length = d.img.length ∧ ∀ j, (d.writeUp k B i).2.img.getD j [] = if 4 * k ≤ j ∧ j < 4 * k + i then sect B (j - 4 * k) else d.img.getD j []
  | 0, _ => ⟨rfl, h, rfl, fun j => by rw [if_neg (by omega)]; rfl⟩
  | i + 1, hi => by
    obtain ⟨h0, h1, h2, h3⟩ := h.writeUp k hk B i (by omega)
    unfold DD.writeUp
    rw [if_pos h0, h1.write (4 * k + i) (by omega)]
    refine ⟨rfl, h1.put _ _, by simp only [DD.put, List.length_set]; exact h2, fun j => ?_⟩
    simp only [DD.put]
    rw [sgetD_set, h3 j, h2]
    by_cases e : 4 * k + i = j
    · subst e
      rw [if_pos ⟨rfl, by omega⟩, if_pos ⟨by omega, by omega⟩]
      congr 1; omega
    · rw [if_neg (fun x => e x.1)]
      by_cases e2 : 4 * k ≤ j ∧ j < 4 * k + i
      · rw [if_pos e2, if_pos ⟨e2.1, by omega⟩]
      · rw [if_neg e2, if_neg (by omega)]
/-- A block that is written is what is read; no other one is changed. -/
theorem Live.writeB {d : DD} (h : Live d) (hg : DGood d) (k : Nat) (hk : k < d.img.length / 4) (B : List UInt8) (hB : B.length = 256) :
    ∃ d', d.writeB k B = (0, d') ∧ Live d' ∧ DGood d' ∧ d'.img.length = d.img.length ∧ d'.jr.length ≤ d.jr.length + 4 ∧ d'.blk k = B ∧ ∀ j, j ≠ k → d'.blk j = d.blk j := by
  obtain ⟨h0, h1, h2, h3⟩ := h.writeUp k hk B 4 (by omega)
  obtain ⟨g1, g2, g3⟩ := writeUp_good hg k hk B hB 4 (by omega)
  refine ⟨(d.writeUp k B 4).2, ?_, h1, g1, h2, g3, ?_, fun j hj => ?_⟩
  · unfold DD.writeB
    rw [hasB_in d k hk, if_pos rfl, Int.toNat_natCast, ← h0]
  · refine sect_ext _ _ (blk_length g1 k (by omega)) hB (fun i hi => ?_)
    rw [sect_blk g1 k (by omega) i hi, h3, if_pos ⟨by omega, by omega⟩]
    congr 1; omega
  · unfold DD.blk
    rw [h3, h3, h3, h3, if_neg (by omega), if_neg (by omega), if_neg (by omega), if_neg (by omega)]
theorem flushed_blk (d : DD) (k : Nat) : DD.blk { d with jr := [] } k = d.blk k := rfl
/-- One that may be is saved on a disk without a fuse, where one stands or noughts. -/
theorem Live.save {d : DD} (h : Live d) (hg : DGood d) (s : Su) (hm : mayS s = true) (hl : 2 ≤ d.img.length / 4) (hw : (ofS (d.blk (s.tx.toNat % 2))).2 = 0 ∨ sect (d.blk (s.tx.toNat % 2)) 0 = zeros 64) :
    ∃ d', d.save s = (0, d') ∧ Live d' ∧ DGood d' ∧ d'.img.length = d.img.length ∧ d'.jr = [] ∧ d'.blk (s.tx.toNat % 2) = blockS s ∧ ∀ j, j ≠ s.tx.toNat % 2 → d'.blk j = d.blk j := by
  have hk : s.tx.toNat % 2 < d.img.length / 4 := by omega
  obtain ⟨d', h1, h2, h3, h4, -, h6, h7⟩ := h.writeB hg _ hk (blockS s) (blockS_length s)
  refine ⟨{ d' with jr := [] }, ?_, h2.flushed, SGood.flushed h3, h4, rfl, h6, h7⟩
  have hwp : d.wipe (s.tx.toNat % 2) = (0, d) := by unfold DD.wipe; rw [hasB_in d _ hk, if_pos rfl, if_pos hw]
  unfold DD.save DD.saveAt
  rw [if_pos hm, hwp]
  simp only [if_true, h1, h2.flush]
theorem zeros_may : (ofS (zeros 256)).2 = 4 := by
  have h : okS (zeros 256) = false := by
    have : mayS (parseS (zeros 256)) = false := by decide
    unfold okS; rw [this]; rfl
  unfold ofS; rw [h]; rfl
theorem new_blk (n k : Nat) (hk : k < n / 4) : (DD.new n).blk k = zeros 256 := by
  have h : ∀ i, i < n → (noughts n).getD i [] = zeros 64 := fun i hi => by simp [noughts, List.getD, hi]
  unfold DD.blk DD.new
  simp only
  rw [h _ (by omega), h _ (by omega), h _ (by omega), h _ (by omega)]
  simp [zeros]
theorem sect_zeros : sect (zeros 256) 0 = zeros 64 := by decide
def someS (tx : UInt64) : Su := { zeroS with tx := tx, me := 16, da := 8 }
theorem best_of {d : DD} {a b : Su} (h0 : ofS (d.blk 0) = (a, 0)) (h1 : ofS (d.blk 1) = (b, 0)) (ha : a.tx.toNat % 2 = 0) (hb : b.tx.toNat % 2 = 1) (hp : 0 < a.tx) : d.best = if a.tx < b.tx then b else a := by
  have e0 : d.cand 0 zeroS = a := by
    unfold DD.cand; rw [h0]; exact if_pos ⟨rfl, ha, hp⟩
  unfold DD.best
  rw [e0]
  unfold DD.cand
  rw [h1]
  by_cases h : a.tx < b.tx
  · rw [if_pos h, if_pos ⟨rfl, hb, h⟩]
  · rw [if_neg h, if_neg (fun x => h x.2.2)]
/-- The chapter's rows. -/
theorem known5 : ∃ d1 d2, (DD.new 40).save (someS 1) = (0, d1) ∧ DGood d1 ∧ d1.jr = [] ∧ d1.img.length = 40 ∧ d1.save (someS 2) = (0, d2) ∧ DGood d2 ∧ d2.jr = [] ∧ d2.img.length = 40 ∧ d2.load = (someS 2, 0) := by
  have g0 := DD.new_good 40 (by decide) (by decide)
  have l0 : (DD.new 40).img.length = 40 := by simp [DD.new, noughts]
  have m1 : mayS (someS 1) = true := by decide
  have m2 : mayS (someS 2) = true := by decide
  have t1 : (someS 1).tx.toNat % 2 = 1 := by decide
  have t2 : (someS 2).tx.toNat % 2 = 0 := by decide
  obtain ⟨d1, e1, L1, G1, n1, j1, b1, r1⟩ := (Live.new 40).save g0 (someS 1) m1 (by omega) (by rw [t1, new_blk 40 1 (by decide)]; exact .inr sect_zeros)
  rw [t1] at b1 r1
  obtain ⟨d2, e2, L2, G2, n2, j2, b2, r2⟩ := L1.save G1 (someS 2) m2 (by omega) (by rw [t2, r1 0 (by decide), new_blk 40 0 (by decide)]; exact .inr sect_zeros)
  rw [t2] at b2 r2
  refine ⟨d1, d2, e1, G1, j1, by omega, e2, G2, j2, by omega, ?_⟩
  have o0 : ofS (d2.blk 0) = (someS 2, 0) := by rw [b2]; exact of_block _ rfl m2
  have o1 : ofS (d2.blk 1) = (someS 1, 0) := by rw [r2 1 (by decide), b1]; exact of_block _ rfl m1
  have hb : d2.best = someS 2 := by rw [best_of o0 o1 t2 t1 (by decide)]; rfl
  unfold DD.load
  rw [if_neg (by omega), hb, if_neg (by decide)]
end Go.Proofs.Ytiihllfjlgbfcaa
