/- The walk of a disk's Read. -/
import Derived.Test.YtiihllfjlgbfcaaDisk2
import Derived.Test.YtiihllfjlgbfcaaPBlock
namespace Go.Proofs.Ytiihllfjlgbfcaa
open Go.RowKit
theorem s8_at {l : List (List UInt8)} (h : All64 l) (i : Nat) (hi : i < l.length) (sp : List Value) : ((secs l ++ sp).drop (i * 64)).take 64 = (l[i]).map b8 := by
  have hl := fm_length h
  have h2 : i * 64 + 64 ≤ (secs l).length := by unfold secs; rw [hl]; omega
  rw [List.drop_append_of_le_length (by omega), List.take_append_of_le_length (by rw [List.length_drop]; omega)]
  exact fm_at h i hi
theorem secs_length {l : List (List UInt8)} (h : All64 l) : (secs l).length = l.length * 64 := fm_length h
theorem All64.at {l : List (List UInt8)} (h : All64 l) (i : Nat) (hi : i < l.length) : (l[i]).length = 64 := by
  have := h _ (List.getElem_mem hi); rwa [s8_length] at this
def DD.read (d : DD) (i : Int) : List UInt8 × Int := if d.has i = 0 then (d.img.getD i.toNat [], 0) else (zeros 64, 2)
set_option maxRecDepth 100000 in
theorem read_any (p : Nat) (d : DD) (F : Nat → Prop) (i : Int) (w : World) (h : DiskAt w p d F) (hg : DGood d) :
    Calls Try.prog 42 #[.pointer (some ⟨p, 0, none⟩), .int .i64 i] w (GivesArr (d.read i).1 (d.read i).2 w) := by
  have hs := hg.some
  have hs64 := hg.sec
  have hz := Lib.hid (zeros_length 64)
  unfold DD.read
  by_cases hb : i < 0 ∨ (d.img.length : Int) ≤ i
  · have he : d.has i = 2 := by simp [DD.has, hb]
    have hh := fun w1 (hG : GB w w1) => has_any p d F i w1 (h.gb hG) hs
    rw [he] at hh
    rw [he, if_neg (by decide)]
    have HH := Lib.hid hh
    clear hh he
    go_enter Try.func42, Try.ntmps42
    go_wp2_with (first | with_reducible refine halt_alloc 59 ?_)
    refine L.alloc rfl zero59 (by rfl) ?_
    intro w1 hA hG
    simp only [Act.put, List.setIfInBounds_toArray, List.set_cons_zero, List.set_cons_succ]
    go_wp2_with fail
    refine (HH.out _ hG).mono ?_
    rintro e w2 ⟨rfl, rfl⟩
    go_wp2_with (first | with_reducible refine halt_build 59 ?_ | with_reducible refine halt_store 59 ?_)
    refine L.val (by rfl) (X.build59 rfl) ?_
    simp only [Act.put, List.setIfInBounds_toArray, List.set_cons_zero, List.set_cons_succ]
    go_wp2_with (first | with_reducible refine halt_build 59 ?_ | with_reducible refine halt_store 59 ?_)
    refine L.store rfl info59 (by rfl) (by rfl) hA (by rw [List.length_map]; exact hz.out) hz.out (by rfl) ?_
    intro w3 hB hG3
    simp only [Act.put]
    go_wp2_with fail
    refine ret_cell2 rfl (by rfl) Try.underlying59 info59 hB hz.out (by rfl) rfl ?_
    exact ⟨rfl, Below.grown hG hG3 hG.size (fun k hk => by cases hk; exact Nat.le_refl _)⟩
  · have he : d.has i = 0 := by unfold DD.has; rw [if_neg hb]
    obtain ⟨k, rfl⟩ : ∃ k : Nat, i = k := ⟨i.toNat, by omega⟩
    have hk : k < d.img.length := by omega
    have hh := fun w1 (hG : GB w w1) => has_any p d F k w1 (h.gb hG) hs
    rw [he] at hh
    rw [he, if_pos rfl]
    have hget : d.img.getD (Int.toNat (k : Int)) [] = d.img[k] := by simp [List.getD, hk]
    rw [hget]
    have hsl := hs64.at k hk
    obtain ⟨y, hy⟩ := h
    have hat := s8_at hs64 k hk y.spare
    have hle : k * 64 + 64 ≤ (secs d.img ++ y.spare).length := by rw [List.length_append, secs_length hs64]; omega
    generalize d.img[k] = s at *
    have HH := Lib.hid hh
    have HS := Lib.hid hsl
    have HA := Lib.hid hat
    clear hh he hget hsl hat
    go_enter Try.func42, Try.ntmps42
    go_wp2_with (first | with_reducible refine halt_alloc 59 ?_)
    refine L.alloc rfl zero59 (by rfl) ?_
    intro w1 hA hG
    simp only [Act.put, List.setIfInBounds_toArray, List.set_cons_zero, List.set_cons_succ]
    go_wp2_with fail
    refine (HH.out _ hG).mono ?_
    rintro e w2 ⟨rfl, rfl⟩
    have hy1 := hy.gb hG
    have hI := hy1.img
    obtain ⟨c0, -, -, -⟩ := hy1.cells
    go_wp2_with (first | with_reducible refine halt_load 59 ?_ | with_reducible refine halt_store 59 ?_)
    refine L.val (by rfl) (X.loadAt rfl (by rfl) Try.underlying59 info59 hI HA.out hle) ?_
    simp only [Act.put, List.setIfInBounds_toArray, List.set_cons_zero, List.set_cons_succ]
    go_wp2_with (first | with_reducible refine halt_build 59 ?_ | with_reducible refine halt_store 59 ?_)
    refine L.store rfl info59 (by rfl) (by rfl) hA (by rw [List.length_map]; exact hz.out) HS.out (by rfl) ?_
    intro w3 hB hG3
    simp only [Act.put]
    go_wp2_with fail
    refine ret_cell2 rfl (by rfl) Try.underlying59 info59 hB HS.out (by rfl) rfl ?_
    exact ⟨rfl, Below.grown hG hG3 hG.size (fun k hk => by cases hk; exact Nat.le_refl _)⟩
end Go.Proofs.Ytiihllfjlgbfcaa
