/- The walks of a disk's steps: step, Fuse, Flush, Read. -/
import Derived.Test.YtiihllfjlgbfcaaDisk
namespace Go.Proofs.Ytiihllfjlgbfcaa
open Go.RowKit
theorem DiskL.keep {w u : World} {p : Nat} {d : DD} {F : Nat → Prop} {y : DLay} {l : Int} {b : Bool} (h : DiskL w p d F y) (f : Fr (· = p) w u)
    (hb : Blk u p 52 [.slice (some ⟨y.gi, 0, none⟩) d.img.length y.cap, y.vj, .int .i64 l, .bool b]) : DiskL u p { d with left := l, dead := b } F y :=
  ⟨hb, f.blk h.img h.dis.1, h.cap, f.row h.jr (fun k hk e => h.dis.2.1 (by rw [hk, e])), h.dis, h.cov, fun k hk => Nat.lt_of_lt_of_le (h.bnd k hk) f.size⟩
theorem DiskL.moved {w u : World} {p : Nat} {d : DD} {F : Nat → Prop} {y : DLay} (h : DiskL u p d F y) (f : Fr F w u) : Moved p d F w u := ⟨F, ⟨y, h⟩, f, fun _ hk => .inl hk⟩
theorem DiskL.frp {w u : World} {p : Nat} {d : DD} {F : Nat → Prop} {y : DLay} (h : DiskL w p d F y) (f : Fr (· = p) w u) : Fr F w u := f.mono (fun k _ hk => by rw [hk]; exact h.cov.1)
def DD.step (d : DD) : Int × DD := if d.dead || d.left == 0 then (10, { d with dead := true }) else (0, { d with left := if 0 < d.left then d.left - 1 else d.left, dead := false })
theorem step_any (p : Nat) (d : DD) (F : Nat → Prop) (w : World) (h : DiskAt w p d F) (hlo : -1 ≤ d.left) (hhi : d.left ≤ 9223372036854775807) :
    Calls Try.prog 103 #[.pointer (some ⟨p, 0, none⟩)] w fun e w' => e = .returned (.int .i64 d.step.1) ∧ Moved p d.step.2 F w w' := by
  obtain ⟨y, h⟩ := h
  obtain ⟨-, -, c2, c3⟩ := h.cells
  have nf := fun j => h.blk.frozen j
  have hb1 := fun b => h.blk.set 3 (.bool b)
  have hf1 := fun b => (Fr.refl (· = p) w).setCell p 3 (.bool b) (.inl rfl)
  by_cases hd : d.dead = true
  · have e1 : d.step = (10, { d with dead := true }) := by simp [DD.step, hd]
    have hk := h.keep (hf1 true) (hb1 true)
    have HE := Lib.hid e1
    rw [hd] at c3
    clear e1 hd
    go_enter Try.func103, Try.ntmps103
    go_wp2_with fail
    go_ret
    exact ⟨by rw [HE.out]; rfl, by rw [HE.out]; exact hk.moved (h.frp (hf1 true))⟩
  · by_cases hl : d.left = 0
    · have e1 : d.step = (10, { d with dead := true }) := by simp [DD.step, hl]
      have hk := h.keep (hf1 true) (hb1 true)
      have HE := Lib.hid e1
      have hd' : d.dead = false := by simpa using hd
      rw [hd'] at c3
      rw [hl] at c2
      clear e1 hd hd' hl
      go_enter Try.func103, Try.ntmps103
      go_wp2_with fail
      go_ret
      exact ⟨by rw [HE.out]; rfl, by rw [HE.out]; exact hk.moved (h.frp (hf1 true))⟩
    · have hd' : d.dead = false := by simpa using hd
      have hz : (d.left == 0) = false := by simpa using hl
      by_cases hp : 0 < d.left
      · have e1 : d.step = (0, { d with left := d.left - 1, dead := false }) := by simp [DD.step, hd', hl, hp]
        have hw : IntKind.i64.wrap (d.left - 1) = d.left - 1 := wrapi _ (by omega) (by omega)
        have hk := h.keep ((hf1 false).setCell p 2 (.int .i64 (d.left - 1)) (.inl rfl)) ((hb1 false).set 2 (.int .i64 (d.left - 1)))
        have hff := (hf1 false).setCell p 2 (.int .i64 (d.left - 1)) (.inl rfl)
        have HE := Lib.hid e1
        rw [hd'] at c3
        clear e1 hd hd' hl
        go_enter Try.func103, Try.ntmps103
        go_wp2_with fail
        go_ret
        exact ⟨by rw [HE.out]; rfl, by rw [HE.out]; exact hk.moved (h.frp hff)⟩
      · have e1 : d.step = (0, { d with left := d.left, dead := false }) := by simp [DD.step, hd', hl, hp]
        have hk := h.keep (hf1 false) (hb1 false)
        have HE := Lib.hid e1
        rw [hd'] at c3
        clear e1 hd hd' hl
        go_enter Try.func103, Try.ntmps103
        go_wp2_with fail
        go_ret
        exact ⟨by rw [HE.out]; rfl, by rw [HE.out]; exact hk.moved (h.frp (hf1 false))⟩
def DD.fuse (d : DD) (n : Int) : Int × DD := if n < 0 then (2, d) else (0, { d with left := n })
theorem Moved.refl {w : World} {p : Nat} {d : DD} {F : Nat → Prop} (h : DiskAt w p d F) : Moved p d F w w := ⟨F, h, Fr.refl _ _, fun _ hk => .inl hk⟩
theorem fuse_any (p : Nat) (d : DD) (F : Nat → Prop) (n : Int) (w : World) (h : DiskAt w p d F) (hg : 0 < d.img.length) :
    Calls Try.prog 41 #[.pointer (some ⟨p, 0, none⟩), .int .i64 n] w fun e w' => e = .returned (.int .i64 (d.fuse n).1) ∧ Moved p (d.fuse n).2 F w w' := by
  have hz : ((d.img.length : Int) == 0) = false := by rw [beq_eq_false_iff_ne]; omega
  have hs := sectors_any p d F w h
  have h0 := h
  obtain ⟨y, h⟩ := h
  have nf := fun j => h.blk.frozen j
  have hk := h.keep ((Fr.refl (· = p) w).setCell p 2 (.int .i64 n) (.inl rfl)) (h.blk.set 2 (.int .i64 n))
  have hff := (Fr.refl (· = p) w).setCell p 2 (.int .i64 n) (.inl rfl)
  obtain ⟨-, -, c2, -⟩ := h.cells
  by_cases hn : n < 0
  · have HE : Hid (d.fuse n = (2, d)) := Lib.hid (by simp [DD.fuse, hn])
    go_enter Try.func41, Try.ntmps41
    go_wp2_with fail
    refine hs.mono ?_
    rintro e w2 ⟨rfl, rfl⟩
    go_wp2_with fail
    go_ret
    exact ⟨by rw [HE.out]; rfl, by rw [HE.out]; exact Moved.refl h0⟩
  · have HE : Hid (d.fuse n = (0, { d with left := n })) := Lib.hid (by simp [DD.fuse, hn])
    go_enter Try.func41, Try.ntmps41
    go_wp2_with fail
    refine hs.mono ?_
    rintro e w2 ⟨rfl, rfl⟩
    go_wp2_with fail
    go_ret
    exact ⟨by rw [HE.out]; rfl, by rw [HE.out]; exact hk.moved (h.frp hff)⟩
theorem fuse_no (v : Value) (n : Int) (w : World) (h : NoDisk w v) : Calls Try.prog 41 #[v, .int .i64 n] w fun e w' => e = .returned (.int .i64 1) ∧ w = w' := by
  have hs := sectors_no v w h
  go_enter Try.func41, Try.ntmps41
  go_wp2_with fail
  refine hs.mono ?_
  rintro e w2 ⟨rfl, rfl⟩
  go_wp2_with fail
  go_ret
  exact ⟨rfl, rfl⟩
def DD.flush (d : DD) : Int × DD := if d.step.1 = 0 then (0, { d.step.2 with jr := [] }) else d.step
theorem flush_no (v : Value) (w : World) (h : NoDisk w v) : Calls Try.prog 44 #[v] w fun e w' => e = .returned (.int .i64 1) ∧ w = w' := by
  have hs := sectors_no v w h
  go_enter Try.func44, Try.ntmps44
  go_wp2_with fail
  refine hs.mono ?_
  rintro e w2 ⟨rfl, rfl⟩
  go_wp2_with fail
  go_ret
  exact ⟨rfl, rfl⟩
theorem step_code (d : DD) : d.step.1 = 0 ∨ d.step.1 = 10 := by unfold DD.step; split <;> simp
theorem Fr.chain {F F' : Nat → Prop} {w u v : World} (hf : Fr F w u) (hs : ∀ k, F' k → F k ∨ w.heap.size ≤ k) (hf2 : Fr F' u v) : Fr F w v := by
  refine ⟨hf2.os.trans hf.os, hf2.tape.trans hf.tape, hf2.output.trans hf.output, Nat.le_trans hf.size hf2.size, fun k hk hn => ?_⟩
  refine (hf2.block k (Nat.lt_of_lt_of_le hk hf.size) (fun h => ?_)).trans (hf.block k hk hn)
  rcases hs k h with h' | h'
  · exact hn h'
  · omega
theorem Moved.chain {w u v : World} {p : Nat} {e : DD} {F F' : Nat → Prop} (hf : Fr F w u) (hs : ∀ k, F' k → F k ∨ w.heap.size ≤ k) (k : Moved p e F' u v) : Moved p e F w v := by
  obtain ⟨F'', hd2, hf2, hs2⟩ := k
  refine ⟨F'', hd2, hf.chain hs hf2, fun k hk => ?_⟩
  rcases hs2 k hk with h | h
  · exact hs k h
  · exact .inr (Nat.le_trans hf.size h)
theorem flush_any (p : Nat) (d : DD) (F : Nat → Prop) (w : World) (h : DiskAt w p d F) (hg : DGood d) :
    Calls Try.prog 44 #[.pointer (some ⟨p, 0, none⟩)] w fun e w' => e = .returned (.int .i64 d.flush.1) ∧ Moved p d.flush.2 F w w' := by
  have hz : ((d.img.length : Int) == 0) = false := by rw [beq_eq_false_iff_ne]; have := hg.some; omega
  have hs := sectors_any p d F w h
  have ht := step_any p d F w h hg.lo hg.hi
  have HC := Lib.hid (step_code d)
  have HF : Hid (d.flush = if d.step.1 = 0 then (0, { d.step.2 with jr := [] }) else d.step) := Lib.hid rfl
  generalize d.flush = fl at *
  generalize d.step = st at *
  obtain ⟨code, d2⟩ := st
  go_enter Try.func44, Try.ntmps44
  go_wp2_with fail
  refine hs.mono ?_
  rintro e w2 ⟨rfl, rfl⟩
  go_wp2_with fail
  refine ht.mono ?_
  rintro e w2 ⟨rfl, hm⟩
  rcases HC.out with h0 | h0
  · obtain rfl : code = 0 := h0
    have hfl := HF.out
    rw [if_pos rfl] at hfl
    subst hfl
    obtain ⟨F', ⟨y, hd⟩, hf, hsub⟩ := hm
    obtain ⟨-, c1, -, -⟩ := hd.cells
    have nf := fun j => hd.blk.frozen j
    have hb := hd.blk.set 1 (.slice none 0 0)
    have hff := (Fr.refl (· = p) w2).setCell p 1 (.slice none 0 0) (.inl rfl)
    have hk : DiskL (w2.setCell ⟨p, 1, none⟩ (.slice none 0 0)) p { d2 with jr := [] } F' { y with vj := .slice none 0 0 } :=
      ⟨hb, hff.blk hd.img hd.dis.1, hd.cap, World.ownsRow_nil _ _ _ _, ⟨hd.dis.1, by simp [Value.ownBlock], by simp [Value.ownBlock]⟩, ⟨hd.cov.1, hd.cov.2.1, by simp [Value.ownBlock]⟩, fun k hk => Nat.lt_of_lt_of_le (hd.bnd k hk) hff.size⟩
    have hm2 : Moved p { d2 with jr := [] } F w (w2.setCell ⟨p, 1, none⟩ (.slice none 0 0)) :=
      Moved.chain hf hsub (hk.moved (hd.frp hff))
    go_wp2_with fail
    go_ret
    exact ⟨rfl, hm2⟩
  · obtain rfl : code = 10 := h0
    have hfl := HF.out
    rw [if_neg (by decide)] at hfl
    subst hfl
    go_wp2_with fail
    go_ret
    exact ⟨rfl, hm⟩
end Go.Proofs.Ytiihllfjlgbfcaa
