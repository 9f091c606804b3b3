/- The walk of voileref07.Of. -/
import Derived.Test.YtiihllfjlgbfcaaPOf
namespace Go.Proofs.Ytiihllfjlgbfcaa
open Go.RowKit
theorem cut_arr {T : TypeId} {n : Nat} (hu : Try.prog.underlying T = some (.array n 5)) (w : World) (g o l h : Nat) (x y : Int) (k k' : IntKind) (hx : x = l) (hy : y = h) (hlh : l ≤ h) (hn : h ≤ n) (hl : l < n) :
    (Instr.sliceAt T (.pointer (some ⟨g, o, none⟩)) (some (.int k x)) (some (.int k' y)) none).run Try.prog w = .ok (.slice (some ⟨g, o + l, none⟩) (h - l) (n - l)) w := by
  subst hx hy
  have hA : Try.prog.arrayLen T = n := by simp [Program.arrayLen, hu]
  have hE : Try.prog.elem T = 5 := by simp [Program.elem, hu]
  obtain ⟨i, hi, h1⟩ := info5_size
  rw [run_sliceAt_array_lh (P := Try.prog) w T ⟨g, o, none⟩ (by rw [hA, hE]; exact hu) k k' l h (by omega) (by omega) (by rw [hA]; omega), hE, hA]
  simp [sizeOf, typeInfo, hi, h1, slicedAt]
  split
  · omega
  · rw [Addr.add_lit]
theorem num_word (B : List UInt8) (k : Nat) (h : 16 + 2 * k + 1 < B.length) : (Num.num [B[16 + 2 * k], B[16 + 2 * k + 1]]).toUInt16 = word B k := by
  rw [Num.num_two, word_get B k h]
theorem cut_two (B : List UInt8) (k : Nat) (h : 16 + 2 * k + 1 < B.length) : (B.drop (16 + 2 * k)).take 2 = [B[16 + 2 * k], B[16 + 2 * k + 1]] := by
  rw [List.drop_eq_getElem_cons (by omega), List.drop_eq_getElem_cons (by omega)]; rfl
/-- What the reference says of any block. -/
def GivesRef (cs : List UInt16) (b : Bool) (w : World) (e : Ending) (w' : World) : Prop := ∃ a c, e = .returned (.tuple #[.slice a cs.length c, .bool b]) ∧ Rd w' a (cs.map b16) ∧ Below w.heap.size w w'
set_option maxRecDepth 100000 in
theorem rof_any (no : UInt32) (i : Int) (B : List UInt8) (w : World) (hB : B.length = 256) :
    Calls Try.prog 35 #[.int .u32 (n32 no), .int .i64 i, arr B] w (GivesRef (words B 120) (pageBlock no i (words B 120) == B) w) := by
  have HL := Lib.hid hB
  clear hB
  go_enter Try.func35, Try.ntmps35
  go_wp2_with (first | with_reducible refine halt_box 37 ?_)
  refine L.box rfl (by rfl) (by rfl) ?_
  intro w1 hB1 hG1
  simp only [Act.put, List.setIfInBounds_toArray, List.set_cons_zero, List.set_cons_succ]
  have hg1 := hB1.lt
  go_wp2_with fail
  go_loopw [8, 9] (fun v x wr => ∃ k : Nat, k ≤ 120 ∧ x = .int .i64 k ∧ wr.ownsRow w1.heap.size 73 1 v k ((words B k).map b16) ∧ Below w1.heap.size w1 wr) (fun _ x _ => 120 - (intOf x).toNat)
  case atStart => exact ⟨0, by omega, rfl, World.ownsRow_nil _ _ _ _, Below.refl _ _⟩
  case round =>
    obtain ⟨k, hk, rfl, hO, hb⟩ := hrel
    have hwl := words_length B k
    have hBk := hB1.gb hb
    by_cases hlt : k < 120
    · have hrd := (hBk.rd8 (16 + 2 * k)).take 2
      rw [← List.map_take, cut_two B k (by rw [HL.out]; omega)] at hrd
      have hnum := num_word B k (by rw [HL.out]; omega)
      generalize B[16 + 2 * k]'(by rw [HL.out]; omega) = x at *
      generalize B[16 + 2 * k + 1]'(by rw [HL.out]; omega) = y at *
      have HN := Lib.hid hnum
      clear hnum
      have hcut := cut_arr Try.underlying37 wr w.heap.size 0 (16 + 2 * k) (18 + 2 * k) (16 + 2 * (k : Int)) (18 + 2 * (k : Int)) .i64 .i64 (by omega) (by omega) (by omega) (by omega) (by omega)
      rw [show 18 + 2 * k - (16 + 2 * k) = 2 by omega, Nat.zero_add] at hcut
      have hcall := number_any (some ⟨w.heap.size, 16 + 2 * k, none⟩) [x, y] (256 - (16 + 2 * k)) wr (by unfold maxLen; simp) hrd
      clear hrd
      have l1 := w64_16
      go_wp2_with fail
      refine hcall.mono ?_
      rintro e w2 ⟨rfl, rfl⟩
      clear hcall hcut
      have hs := hb.size
      go_wp2_with (first | (at_builtin; refine wpList_appendV (ms := [b16 (word B k)]) (m := 1) elem16 rfl (.tmp 14) (.tmp 24) rfl rfl (Row.gb hO ((Below.refl _ _).alloc (Nat.le_refl _) _)) rfl rfl (by rw [← HN.out]; exact Rd.alloc_new wr [b16 (Num.num [x, y]).toUInt16] 73) (by simp [b16, Value.oneCell']) (by omega) (by simp; omega) ?_))
      intro v' w3 hO3 hG3
      go_wp2_with fail
      go_roundw
      case rel => exact ⟨k + 1, by omega, by go_num, by rw [words_succ, List.map_append]; exact hO3, (hb.alloc hs _).grown hG3 (by simp; omega) (fun k hk => (hO.lt k hk).1)⟩
      case measure => simp [intOf]; omega
    · obtain rfl : k = 120 := by omega
      obtain ⟨a, c, rfl, hrd, -, -, -, -⟩ := Row.shape hO
      have hB2 := hB1.gb hb
      have hb2 := bgb hG1 hb hG1.size
      have hcall : Calls Try.prog 33 #[.int .u32 (n32 no), .int .i64 i, .slice a 120 c] wr.drew fun e w' => e = .returned (arr (pageBlock no i (words B 120))) ∧ Below wr.drew.heap.size wr.drew w' := by
        have := rblock_any no i a (words B 120) c wr.drew (by omega) (hrd.below (GB.drew _))
        rwa [hwl] at this
      have hsl : (pageBlock no i (words B 120)).length = 256 := summed_length _
      generalize pageBlock no i (words B 120) = C at *
      have HC := Lib.hid hsl
      have HW := Lib.hid hwl
      clear hsl hwl hO
      have hB2' := Blk.gb hB2 (GB.drew wr)
      go_wp2_with fail
      refine region_gb [(0,0),(1,0),(2,0),(3,0),(5,0),(4,1),(6,0),(7,0),(8,0)] [] (by kernel_rfl) ?_
      iterate 4 (refine S0w (v := ?_) (by rfl) (by rfl) (fun u hu N hN => ?_) ?_; rotate_left; (go_simp; exact hN); simp only [Act.put, List.setIfInBounds_toArray, List.set_cons_zero, List.set_cons_succ])
      refine S0 (by rfl) (by rfl) (fun u hu => X.load rfl (by rfl) Try.underlying37 info37 (hB2'.gb hu) HL.out) ?_
      simp only [Act.put, List.setIfInBounds_toArray, List.set_cons_zero, List.set_cons_succ]
      refine S1 (by rfl) (by rfl) (fun K hK => ?_)
      go_wp2_with fail
      refine hcall.mono ?_
      rintro e w3 ⟨rfl, hb3⟩
      refine hK _ _ hb3 ?_
      clear hK K
      refine S0 (by rfl) (by rfl) (fun u hu => X.eql rfl (by rfl) (by rfl) Try.underlying37 guard37 HC.out HL.out) ?_
      simp only [Act.put, List.setIfInBounds_toArray, List.set_cons_zero, List.set_cons_succ]
      repeat (refine S0w (v := ?_) (by rfl) (by rfl) (fun u hu N hN => ?_) ?_; rotate_left; (go_simp; exact hN); simp only [Act.put, List.setIfInBounds_toArray, List.set_cons_zero, List.set_cons_succ])
      refine S.done ?_
      go_wp2_with fail
      go_ret2
      have h3 := GB.trans _ _ _ (GB.drew wr) hb3
      exact ⟨a, c, by rw [HW.out]; rfl, hrd.below h3, bgb hb2 h3 hb2.size⟩
end Go.Proofs.Ytiihllfjlgbfcaa
