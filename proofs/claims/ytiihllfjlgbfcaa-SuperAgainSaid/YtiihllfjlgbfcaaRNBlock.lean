/- The walk of voileref04.Block. -/
import Derived.Test.YtiihllfjlgbfcaaNPut
namespace Go.Proofs.Ytiihllfjlgbfcaa
open Go.RowKit
theorem Blk.c4 {w : World} {g : Nat} {T : TypeId} {a b c d : Value} (h : Blk w g T [a, b, c, d]) :
    w.cell? ⟨g, 0, none⟩ = some a ∧ w.cell? ⟨g, 1, none⟩ = some b ∧ w.cell? ⟨g, 2, none⟩ = some c ∧ w.cell? ⟨g, 3, none⟩ = some d := ⟨h.cell 0, h.cell 1, h.cell 2, h.cell 3⟩
def nodeHead (no : UInt32) (kind : Int) (birth : UInt64) (n : Nat) : List UInt8 := [i8 kind, i8 n, 0, 0] ++ Crc.tail no ++ Num.low 8 birth
def pairs : List UInt64 → List UInt64 → List UInt8
  | k :: ks, v :: vs => Num.low 8 k ++ Num.low 8 v ++ pairs ks vs
  | _, _ => []
theorem pairs_take (ks vs : List UInt64) (j : Nat) (hk : j < ks.length) (hv : j < vs.length) : pairs (ks.take (j + 1)) (vs.take (j + 1)) = pairs (ks.take j) (vs.take j) ++ Num.low 8 ks[j] ++ Num.low 8 vs[j] := by
  induction j generalizing ks vs with
  | zero =>
    match ks, vs with
    | k :: ks, v :: vs => simp [pairs]
  | succ j ih =>
    match ks, vs with
    | k :: ks, v :: vs => simp [pairs, ih ks vs (by simpa using hk) (by simpa using hv)]
theorem pairs_length : ∀ (ks vs : List UInt64), ks.length = vs.length → (pairs ks vs).length = 16 * ks.length
  | [], [], _ => rfl
  | k :: ks, v :: vs, h => by
    have := pairs_length ks vs (by simpa using h)
    simp [pairs, Num.low_length, this]; omega
  | [], _ :: _, h => by simp at h
  | _ :: _, [], h => by simp at h
def nodeBlock (no : UInt32) (kind : Int) (birth : UInt64) (ks vs : List UInt64) : List UInt8 := summed (nodeHead no kind birth ks.length ++ pairs ks vs)
theorem nodeHead_length (no : UInt32) (kind : Int) (birth : UInt64) (n : Nat) : (nodeHead no kind birth n).length = 16 := by simp [nodeHead, Num.low_length, tail_length]
set_option maxRecDepth 100000 in
theorem rnblock_any (no : UInt32) (kind : Int) (birth : UInt64) (ka : Option Addr) (ks : List UInt64) (kc : Nat) (va : Option Addr) (vs : List UInt64) (vc : Nat) (w : World) (hk : ks.length ≤ 6) (hkv : ks.length = vs.length)
    (hrk : Rd w ka (ks.map b64)) (hrv : Rd w va (vs.map b64)) :
    Calls Try.prog 67 #[.int .u32 (n32 no), nodeV kind birth ka ks.length kc va vs.length vc] w fun e w' => e = .returned (arr (nodeBlock no kind birth ks vs)) ∧ Below w.heap.size w w' := by
  have HKV := Lib.hid hkv
  clear hkv
  unfold nodeV
  go_enter Try.func67, Try.ntmps67
  have hbl := Blk.new w [.int .i64 kind, .int .u64 (n64 birth), .slice ka ks.length kc, .slice va vs.length vc] 95
  have hg := (Below.refl w.heap.size w).alloc (Nat.le_refl _) (.cells #[.int .i64 kind, .int .u64 (n64 birth), .slice ka ks.length kc, .slice va vs.length vc] 95)
  go_wp2_with (first | with_reducible refine halt_alloc 37 ?_)
  change Blk (w.alloc (.cells #[.int .i64 kind, .int .u64 (n64 birth), .slice ka ks.length kc, .slice va vs.length vc] 95)) _ _ _ at hbl
  generalize w.alloc (.cells #[.int .i64 kind, .int .u64 (n64 birth), .slice ka ks.length kc, .slice va vs.length vc] 95) = w0 at *
  refine L.alloc rfl zero37 (by rfl) ?_
  intro w1 hB1 hG1
  simp only [Act.put, List.setIfInBounds_toArray, List.set_cons_zero, List.set_cons_succ]
  have hbl1 := hbl.gb hG1
  have hlt := hbl.lt
  have hs0 := hg.size
  have hs1 := hG1.size
  have hg1 := bgb hg hG1 hg.size
  have hrk1 := hrk.below hg1
  have hrv1 := hrv.below hg1
  clear hbl
  obtain ⟨c0, c1, c2, c3⟩ := hbl1.c4
  have li := wrap_i8 kind
  have ln := wrap_i8 ks.length
  have l1 := w32_64
  go_wp2_with fail
  have hO1 : Own8 w1.heap.size (w1.alloc (.cells #[.int .u8 (n8 (i8 kind)), .int .u8 (n8 (i8 ks.length)), .int .u8 0, .int .u8 0] 5)) (.slice (some ⟨w1.heap.size, 0, none⟩) 4 4) [i8 kind, i8 ks.length, 0, 0] :=
    Own8.lit w1 [i8 kind, i8 ks.length, 0, 0] (by unfold maxLen; simp)
  have hb1 : Below w1.heap.size w1 (w1.alloc (.cells #[.int .u8 (n8 (i8 kind)), .int .u8 (n8 (i8 ks.length)), .int .u8 0, .int .u8 0] 5)) := (Below.refl _ _).alloc (Nat.le_refl _) _
  generalize (w1.alloc (.cells #[.int .u8 (n8 (i8 kind)), .int .u8 (n8 (i8 ks.length)), .int .u8 0, .int .u8 0] 5)) = w2 at *
  refine (low_any _ 4 _ (by omega)).mono ?_
  rintro e w3 ⟨v3, rfl, hown3, hb3⟩
  change Own8 _ _ _ (Num.low 4 _) at hown3
  rw [Num.low4] at hown3
  obtain ⟨a3, d3, rfl, hrd3, -, -, -, -⟩ := hown3.shape
  have hO2 := hO1.gb hb3
  have hb2 := bgb hb1 hb3 hb1.size
  have ht := tail_length no
  generalize hT : Crc.tail no = T at *
  have HT := Lib.hid hT
  have H4 := Lib.hid ht
  clear hT ht c0 c1 c2 c3
  go_wp2_with (first | (at_builtin; refine wpList_append8 rfl (.tmp 15) (.tmp 18) rfl rfl hO2 rfl hrd3 (by have := H4.out; simp; omega) hb2.size ?_))
  intro v4 w4 hO4 hG4
  have hb4 := hb2.grown hG4 hb2.size (fun k hk => (hO2.lt k hk).1)
  obtain ⟨c0, c1, c2, c3⟩ := (hbl1.gb hb4).c4
  go_wp2_with fail
  refine (low_any birth 8 _ (by omega)).mono ?_
  rintro e w5 ⟨v5, rfl, hown5, hb5⟩
  change Own8 _ _ _ (Num.low 8 _) at hown5
  obtain ⟨a5, d5, rfl, hrd5, -, -, -, -⟩ := hown5.shape
  have hO5 := hO4.gb hb5
  have hb6 := bgb hb4 hb5 hb4.size
  have hl8 := Num.low_length 8 birth
  have H8 := Lib.hid hl8
  clear hl8 c0 c1 c2 c3
  go_wp2_with (first | (at_builtin; refine wpList_append8 rfl (.tmp 20) (.tmp 23) rfl rfl hO5 rfl hrd5 (by have := H4.out; have := H8.out; simp; omega) hb6.size ?_))
  intro v6 w6 hO6 hG6
  have hb7 := hb6.grown hG6 hb6.size (fun k hk => (hO5.lt k hk).1)
  replace hO6 : Own8 w1.heap.size w6 v6 (nodeHead no kind birth ks.length) := by
    have e : nodeHead no kind birth ks.length = ([i8 kind, i8 ks.length, 0, 0] ++ T) ++ Num.low 8 birth := by unfold nodeHead; rw [HT.out]
    rw [e]; exact hO6
  have hH := nodeHead_length no kind birth ks.length
  generalize hHH : nodeHead no kind birth ks.length = H at *
  have HHH := Lib.hid hHH
  have HL := Lib.hid hH
  clear hHH hH hO4 hO5 hG4 hG6 hO2 hO1 hrd3 hown3 hrd5 hown5 hb1 hb2 hb3 hb4 hb5 hb6
  go_wp2_with fail
  go_loopw [5, 6] (fun v x wr => ∃ k : Nat, k ≤ ks.length ∧ x = .int .i64 k ∧ Own8 w1.heap.size wr v (H ++ pairs (ks.take k) (vs.take k)) ∧ Below w1.heap.size w1 wr) (fun _ x _ => ks.length - (intOf x).toNat)
  case atStart => exact ⟨0, by omega, rfl, by simpa [pairs] using hO6, hb7⟩
  case round =>
    obtain ⟨k, hkk, rfl, hO, hb⟩ := hrel
    obtain ⟨c0, c1, c2, c3⟩ := (hbl1.gb hb).c4
    by_cases hlt' : k < ks.length
    · have hlv : k < vs.length := by rw [← HKV.out]; exact hlt'
      obtain ⟨ad, rfl, hc⟩ := (hrk1.below hb) k (by simpa using hlt')
      obtain ⟨bd, rfl, hd⟩ := (hrv1.below hb) k (by simpa using hlv)
      simp only [List.getElem_map, b64] at hc hd
      have hlk : (H ++ pairs (ks.take k) (vs.take k)).length ≤ 1000 := by
        rw [List.length_append, pairs_length _ _ (by rw [List.length_take, List.length_take, HKV.out]), HL.out, List.length_take]; omega
      have HP := Lib.hid (pairs_take ks vs k hlt' hlv)
      generalize hP : H ++ pairs (ks.take k) (vs.take k) = P at *
      have HPP := Lib.hid hP
      have HK := Lib.hid hlk
      clear hP hlk
      go_wp2_with fail
      refine (low_any _ 8 _ (by omega)).mono ?_
      rintro e w7 ⟨v7, rfl, hown7, hb8⟩
      change Own8 _ _ _ (Num.low 8 _) at hown7
      obtain ⟨a7, d7, rfl, hrd7, -, -, -, -⟩ := hown7.shape
      have hO7 := hO.gb hb8
      have hb9 := bgb hb hb8 hb.size
      have H8 := Lib.hid (Num.low_length 8 ks[k])
      have H9 := Lib.hid (Num.low_length 8 vs[k])
      clear c0 c1 c2 c3 hc
      go_wp2_with (first | (at_builtin; refine wpList_append8 rfl (.tmp 32) (.tmp 38) rfl rfl hO7 rfl hrd7 (by have := HK.out; have := H8.out; omega) hb9.size ?_))
      intro v8 w8 hO8 hG8
      have hb10 := hb9.grown hG8 hb9.size (fun k hk => (hO7.lt k hk).1)
      obtain ⟨c0, c1, c2, c3⟩ := (hbl1.gb hb10).c4
      obtain ⟨bd', he, hd'⟩ := (hrv1.below hb10) k (by simpa using hlv)
      cases he
      simp only [List.getElem_map, b64] at hd'
      clear hd hown7 hb8 hb9 hG8 hrd7
      go_wp2_with fail
      refine (low_any _ 8 _ (by omega)).mono ?_
      rintro e w9 ⟨v9, rfl, hown9, hb11⟩
      change Own8 _ _ _ (Num.low 8 _) at hown9
      obtain ⟨a9, d9, rfl, hrd9, -, -, -, -⟩ := hown9.shape
      have hO9 := hO8.gb hb11
      have hb12 := bgb hb10 hb11 hb10.size
      clear c0 c1 c2 c3 hd'
      go_wp2_with (first | (at_builtin; refine wpList_append8 rfl (.tmp 40) (.tmp 46) rfl rfl hO9 rfl hrd9 (by have := HK.out; have := H8.out; have := H9.out; simp; omega) hb12.size ?_))
      intro v10 w10 hO10 hG10
      go_wp2_with fail
      go_roundw
      case rel => exact ⟨k + 1, by omega, by go_num, by rw [HP.out, ← List.append_assoc, ← List.append_assoc, HPP.out]; simpa using hO10, hb12.grown hG10 hb12.size (fun k hk => (hO9.lt k hk).1)⟩
      case measure => simp [intOf]; omega
    · obtain rfl : k = ks.length := by omega
      obtain ⟨a7, d7, rfl, hrd7, -, -, -, -⟩ := hO.shape
      have hB7 := hB1.of_below hb hB1.lt
      have hlt1 := hB1.lt
      have hfin : summed (H ++ pairs (ks.take ks.length) (vs.take ks.length)) = nodeBlock no kind birth ks vs := by
        rw [List.take_length, HKV.out, List.take_length, ← HHH.out]; rfl
      have hsl := summed_length (H ++ pairs (ks.take ks.length) (vs.take ks.length))
      have hlen : (H ++ pairs (ks.take ks.length) (vs.take ks.length)).length ≤ 1000000 := by
        rw [List.length_append, pairs_length _ _ (by rw [List.length_take, List.length_take, HKV.out]), HL.out, List.length_take]; omega
      generalize H ++ pairs (ks.take ks.length) (vs.take ks.length) = M at *
      have HSL := Lib.hid hsl
      have HF := Lib.hid hfin
      have hb8 := bgb hg1 hb hg1.size
      clear hsl hfin
      go_wp2_with fail
      refine (summed_any a7 M d7 _ hlen hrd7).mono ?_
      rintro e w9 ⟨rfl, hb9⟩
      go_wp2_with (first | with_reducible refine halt_store 37 ?_)
      refine L.store rfl info37 (by rfl) (by rfl) (hB7.gb hb9) (by rw [List.length_map]; exact zeros_length 256) HSL.out (by rfl) ?_
      intro w10 hB10 hG10
      simp only [Act.put]
      go_wp2_with fail
      refine ret_cell1 rfl (by rfl) Try.underlying37 info37 hB10 HSL.out rfl ?_
      exact ⟨by rw [HF.out], (bgb hb8 hb9 hb8.size).grown hG10 (by have := hb8.size; have := hb9.size; omega) (fun k hk => by simp at hk; omega)⟩
end Go.Proofs.Ytiihllfjlgbfcaa
