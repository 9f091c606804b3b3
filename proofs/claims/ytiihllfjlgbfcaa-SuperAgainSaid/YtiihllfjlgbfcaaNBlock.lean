/- The walks of block.Block and of voilelaw04.known. -/
import Derived.Test.YtiihllfjlgbfcaaRNBlock
import Derived.Test.YtiihllfjlgbfcaaPBlock
import Derived.Test.YtiihllfjlgbfcaaHalt
namespace Go.Proofs.Ytiihllfjlgbfcaa
open Go.RowKit
theorem nput_app (x : UInt64) (s : Nat) (g h : Nat) (X : List UInt8) (w : World) (B : Nat) (hs : s ≤ 8) (hgh : g ≠ h) (hBg : B ≤ g) (hBh : B ≤ h) (hX : 4 + X.length + s ≤ 256) (hB : Blk w g 37 ((put (zeros 256) 4 X).map b8)) (hA : Blk w h 3 [.int .i64 ((4 + X.length : Nat) : Int)]) :
    Calls Try.prog 119 #[.int .u64 (n64 x), .int .i64 s, .pointer (some ⟨g, 0, none⟩), .pointer (some ⟨h, 0, none⟩)] w fun e w' => e = .returned (.tuple #[]) ∧ Blk w' g 37 ((put (zeros 256) 4 (X ++ Num.low s x)).map b8) ∧ Blk w' h 3 [.int .i64 ((4 + (X ++ Num.low s x).length : Nat) : Int)] ∧ Below B w w' := by
  have hz := zeros_length 256
  refine (nput_any x s g h (4 + X.length) (put (zeros 256) 4 X) w B hs hgh hBg hBh (by rw [put_length _ _ _ (by omega)]; exact hz) hX hB hA).mono ?_
  rintro e w' ⟨rfl, h1, h2, h3⟩
  rw [put_append _ _ _ _ _ rfl (by omega)] at h1
  refine ⟨rfl, h1, ?_, h3⟩
  rw [List.length_append, Num.low_length, ← Nat.add_assoc]
  exact h2
theorem low1 (i : Int) (h0 : 0 ≤ i) (h1 : i ≤ 255) : IntKind.u64.wrap i = n64 (UInt64.ofNat i.toNat) ∧ Num.low 1 (UInt64.ofNat i.toNat) = [i8 i] := by
  constructor
  · show i % 18446744073709551616 = _
    unfold n64
    simp
    omega
  · simp only [Num.low, List.nil_append]
    congr 1
    rw [← UInt8.toNat_inj, Num.byte]
    unfold i8
    simp
    omega
theorem low2_zero : Num.low 2 0 = [0, 0] := by decide
set_option maxHeartbeats 4000000 in
set_option maxRecDepth 100000 in
theorem nblock_good (no : UInt32) (kind : Int) (birth : UInt64) (ka : Option Addr) (ks : List UInt64) (kc : Nat) (va : Option Addr) (vs : List UInt64) (vc : Nat) (w : World) (hm : mayN kind ks vs.length = true)
    (hk : ks.length ≤ 6) (hkv : ks.length = vs.length) (hrk : Rd w ka (ks.map b64)) (hrv : Rd w va (vs.map b64)) :
    Calls Try.prog 66 #[.int .u32 (n32 no), nodeV kind birth ka ks.length kc va vs.length vc] w (GivesArr (nodeBlock no kind birth ks vs) 0 w) := by
  have hmf : ∀ (fn : Fn) (first cap : Array Value) (w : World), (Instr.makeFunc fn first cap).run Try.prog w = .ok (.func fn first cap) w := fun _ _ _ _ => rfl
  have HKV := Lib.hid hkv
  have HM := Lib.hid hm
  have hmay := fun u (hu : GB w u) => may_any kind birth ka ks kc va vs.length vc u (by unfold maxLen; omega) (hu.rd hrk)
  have HMAY := Lib.hid hmay
  clear hkv hm hmay
  unfold nodeV at *
  go_enter Try.func66, Try.ntmps66
  have hbl := Blk.new w [.int .i64 kind, .int .u64 (n64 birth), .slice ka ks.length kc, .slice va vs.length vc] 95
  have hg := (Below.refl w.heap.size w).alloc (Nat.le_refl _) (.cells #[.int .i64 kind, .int .u64 (n64 birth), .slice ka ks.length kc, .slice va vs.length vc] 95)
  go_wp2_with (first | with_reducible refine halt_alloc 37 ?_)
  change Blk (w.alloc (.cells #[.int .i64 kind, .int .u64 (n64 birth), .slice ka ks.length kc, .slice va vs.length vc] 95)) _ _ _ at hbl
  generalize w.alloc (.cells #[.int .i64 kind, .int .u64 (n64 birth), .slice ka ks.length kc, .slice va vs.length vc] 95) = w0 at *
  refine L.alloc rfl zero37 (by rfl) ?_
  intro w1 hB1 hG1
  simp only [Act.put, List.setIfInBounds_toArray, List.set_cons_zero, List.set_cons_succ]
  have hbl1 := hbl.gb hG1
  have hlt := hbl.lt
  have hs0 := hg.size
  have hs1 := hG1.size
  have hg1 := bgb hg hG1 hg.size
  obtain ⟨c0, c1, c2, c3⟩ := hbl1.c4
  go_wp2_with fail
  refine (HMAY.out _ hg1).mono ?_
  rintro e w2 ⟨rfl, hb2⟩
  rw [HM.out]
  have hbl2 := hbl1.gb hb2
  have hB2 := hB1.gb hb2
  have hg2 := bgb hg1 hb2 hg1.size
  have hlt1 := hB1.lt
  have hs2 := hb2.size
  clear c0 c1 c2 c3 hbl1 hB1 hb2 hbl hg1
  have hal := Blk.new w2 [.int .i64 4] 3
  have hb3 : GB w2 (w2.alloc (.cells #[.int .i64 4] 3)) := (Below.refl _ _).alloc (Nat.le_refl _) _
  go_wp2_with (first | with_reducible refine halt_dst 14 ?_)
  change Blk (w2.alloc (.cells #[.int .i64 4] 3)) w2.heap.size 3 [.int .i64 4] at hal
  generalize w2.alloc (.cells #[.int .i64 4] 3) = w3 at *
  have hbl3 := hbl2.gb hb3
  have hB3 := hB2.gb hb3
  obtain ⟨c0, c1, c2, c3⟩ := hbl3.c4
  have hw := wrap_i8
  have hkd : 1 ≤ kind ∧ kind ≤ 3 := by
    have := HM.out; unfold mayN at this; simp at this; omega
  obtain ⟨k1, k2⟩ := low1 kind (by omega) (by omega)
  obtain ⟨n1, n2⟩ := low1 ks.length (by omega) (by omega)
  rw [Int.toNat_natCast] at n1 n2
  have K2 := Lib.hid k2
  have N2 := Lib.hid n2
  have hgh : w0.heap.size ≠ w2.heap.size := by omega
  clear k2 n2 hw
  refine L.go ?_
  go_wp2_with fail
  refine (nput_app _ 1 w0.heap.size w2.heap.size [] w3 w0.heap.size (by omega) hgh (Nat.le_refl _) (by omega) (by simp) (by rw [put_nil]; exact hB3) hal).mono ?_
  rintro e w4 ⟨rfl, hB4, hA4, hb4⟩
  rw [K2.out] at hB4 hA4
  obtain ⟨c0, c1, c2, c3⟩ := (hbl3.of_below hb4 hlt).c4
  have hg3 := bgb hg2 hb3 hg2.size
  have hg4 := hg3.trans (hb4.mono hs0)
  clear hal hB3 hB2
  go_wp2_with fail
  refine (nput_app _ 1 w0.heap.size w2.heap.size _ w4 w0.heap.size (by omega) hgh (Nat.le_refl _) (by omega) (by simp) hB4 hA4).mono ?_
  rintro e w5 ⟨rfl, hB5, hA5, hb5⟩
  rw [N2.out] at hB5 hA5
  have hb35 := hb4.trans hb5
  clear c0 c1 c2 c3 hB4 hA4 hb4 hb5 hg4
  go_wp2_with fail
  refine (nput_app 0 2 w0.heap.size w2.heap.size _ w5 w0.heap.size (by omega) hgh (Nat.le_refl _) (by omega) (by simp) hB5 hA5).mono ?_
  rintro e w6 ⟨rfl, hB6, hA6, hb6⟩
  rw [low2_zero] at hB6 hA6
  have hb36 := hb35.trans hb6
  have l1 := w32_64
  clear hB5 hA5 hb6 hb35
  go_wp2_with fail
  refine (nput_app _ 4 w0.heap.size w2.heap.size _ w6 w0.heap.size (by omega) hgh (Nat.le_refl _) (by omega) (by simp) hB6 hA6).mono ?_
  rintro e w7 ⟨rfl, hB7, hA7, hb7⟩
  rw [Num.low4] at hB7 hA7
  have hb37 := hb36.trans hb7
  clear hB6 hA6 hb7 hb36
  obtain ⟨c0, c1, c2, c3⟩ := (hbl3.of_below hb37 hlt).c4
  go_wp2_with fail
  refine (nput_app _ 8 w0.heap.size w2.heap.size _ w7 w0.heap.size (by omega) hgh (Nat.le_refl _) (by omega) (by simp [tail_length]) hB7 hA7).mono ?_
  rintro e w8 ⟨rfl, hB8, hA8, hb8⟩
  have hb38 := hb37.trans hb8
  clear hB7 hA7 hb8 hb37
  replace hB8 : Blk w8 w0.heap.size 37 ((put (zeros 256) 4 (nodeHead no kind birth ks.length)).map b8) := hB8
  replace hA8 : Blk w8 w2.heap.size 3 [.int .i64 ((4 + (nodeHead no kind birth ks.length).length : Nat) : Int)] := hA8
  have hbl8 := hbl3.of_below hb38 hlt
  have hH := nodeHead_length no kind birth ks.length
  have hg8 := hg3.trans (hb38.mono hs0)
  have hrk8 := hrk.below hg8
  have hrv8 := hrv.below hg8
  have hnb : summed (nodeHead no kind birth ks.length ++ pairs ks vs) = nodeBlock no kind birth ks vs := rfl
  generalize nodeHead no kind birth ks.length = H at *
  have HH := Lib.hid hH
  have HNB := Lib.hid hnb
  clear c0 c1 c2 c3 hbl3 hb38 hb3 hg2 hbl2 hH hnb
  obtain ⟨c0, c1, c2, c3⟩ := hbl8.c4
  go_wp2_with fail
  clear c0 c1 c2 c3
  go_loopw [39] (fun x wr => ∃ k : Nat, k ≤ ks.length ∧ x = .int .i64 k ∧ Blk wr w0.heap.size 37 ((put (zeros 256) 4 (H ++ pairs (ks.take k) (vs.take k))).map b8) ∧ Blk wr w2.heap.size 3 [.int .i64 ((4 + (H ++ pairs (ks.take k) (vs.take k)).length : Nat) : Int)] ∧ Below w0.heap.size w8 wr) (fun x _ => ks.length - (intOf x).toNat)
  case atStart => exact ⟨0, by omega, rfl, by simpa [pairs] using hB8, by simpa [pairs] using hA8, Below.refl _ _⟩
  case round =>
    obtain ⟨k, hkk, rfl, hB, hA, hb⟩ := hrel
    have hbl9 := hbl8.of_below hb hlt
    obtain ⟨c0, c1, c2, c3⟩ := hbl9.c4
    have hplen : (pairs (ks.take k) (vs.take k)).length = 16 * k := by
      rw [pairs_length _ _ (by rw [List.length_take, List.length_take, HKV.out]), List.length_take, Nat.min_eq_left hkk]
    by_cases hlt' : k < ks.length
    · have hlv : k < vs.length := by rw [← HKV.out]; exact hlt'
      have hgr := hg8.trans (hb.mono hs0)
      obtain ⟨ad, rfl, hc⟩ := (hrk.below hgr) k (by simpa using hlt')
      simp only [List.getElem_map, b64] at hc
      have HP := Lib.hid (pairs_take ks vs k hlt' hlv)
      have HPL := Lib.hid hplen
      clear hplen
      go_wp2_with fail
      refine (nput_app _ 8 w0.heap.size w2.heap.size _ wr w0.heap.size (by omega) hgh (Nat.le_refl _) (by omega) (by rw [List.length_append, HPL.out, HH.out]; omega) hB hA).mono ?_
      rintro e w9 ⟨rfl, hB9, hA9, hb9⟩
      have hbr := hb.trans hb9
      clear c0 c1 c2 c3 hB hA hc
      have hgr2 := hg8.trans (hbr.mono hs0)
      obtain ⟨bd, rfl, hd⟩ := (hrv.below hgr2) k (by simpa using hlv)
      simp only [List.getElem_map, b64] at hd
      obtain ⟨c0, c1, c2, c3⟩ := (hbl8.of_below hbr hlt).c4
      go_wp2_with fail
      refine (nput_app _ 8 w0.heap.size w2.heap.size _ w9 w0.heap.size (by omega) hgh (Nat.le_refl _) (by omega) (by rw [List.length_append, List.length_append, HPL.out, HH.out, Num.low_length]; omega) hB9 hA9).mono ?_
      rintro e w10 ⟨rfl, hB10, hA10, hb10⟩
      go_wp2_with fail
      go_roundw
      case rel => exact ⟨k + 1, by omega, by go_num, by rw [HP.out, ← List.append_assoc, ← List.append_assoc]; exact hB10, by rw [HP.out, ← List.append_assoc, ← List.append_assoc]; exact hA10, hbr.trans hb10⟩
      case measure => simp [intOf]; omega
    · obtain rfl : k = ks.length := by omega
      have hX : (H ++ pairs (ks.take ks.length) (vs.take ks.length)) = H ++ pairs ks vs := by rw [List.take_length, HKV.out, List.take_length]
      rw [hX] at hB hA
      have hxl : (H ++ pairs ks vs).length ≤ 252 := by
        rw [List.length_append, pairs_length _ _ HKV.out, HH.out]; omega
      have hpad := pad_length 252 (H ++ pairs ks vs)
      have hdrop : (put (zeros 256) 4 (H ++ pairs ks vs)).drop 4 = pad 252 (H ++ pairs ks vs) := by
        rw [← put_zeros _ 252 4, List.take_of_length_le (by omega)]
      have hlen : (put (zeros 256) 4 (H ++ pairs ks vs)).length = 256 := by rw [put_length _ _ _ (by rw [zeros_length]; omega)]; exact zeros_length 256
      have hsum : ∀ u, Blk u w0.heap.size 37 ((put (zeros 256) 4 (H ++ pairs ks vs)).map b8) → Calls Try.prog 21 #[.slice (some ⟨w0.heap.size, 4, none⟩) 252 252] u fun e w' => e = .returned (.int .u32 (n32 (Crc.sum (pad 252 (H ++ pairs ks vs))))) ∧ Below u.heap.size u w' := by
        intro u hu
        have hr := hu.rd8 4
        rw [hdrop] at hr
        have := sum_any (some ⟨w0.heap.size, 4, none⟩) (pad 252 (H ++ pairs ks vs)) 252 u (by rw [hpad]; unfold maxLen; omega) hr
        rwa [hpad] at this
      have hfin : put (put (zeros 256) 4 (H ++ pairs ks vs)) 0 (Num.low 4 (Crc.sum (pad 252 (H ++ pairs ks vs))).toUInt64) = nodeBlock no kind birth ks vs := by
        rw [Num.low4, put_zero, tail_length, hdrop, ← HNB.out]; rfl
      generalize put (zeros 256) 4 (H ++ pairs ks vs) = C at *
      generalize Crc.sum (pad 252 (H ++ pairs ks vs)) = sm at *
      have HS := Lib.hid hsum
      have HFN := Lib.hid hfin
      have HL := Lib.hid hlen
      have hA0 := hA.cell 0
      have hAf := hA.frozen 0
      have hA1 := hA.set 0 (.int .i64 0)
      have hB1 := hB.other (Ne.symm hgh) 0 (.int .i64 0)
      have hgf := (hg8.trans (hb.mono hs0)).setCell (show w.heap.size ≤ (⟨w2.heap.size, 0, none⟩ : Addr).block by show _ ≤ w2.heap.size; omega) (.int .i64 0)
      clear hsum hfin hlen hdrop hpad hX hA hB hplen c0 c1 c2 c3
      go_wp2_with fail
      generalize wr.setCell ⟨w2.heap.size, 0, none⟩ (.int .i64 0) = wf at *
      clear hA0 hAf
      refine (HS.out _ hB1).mono ?_
      rintro e w9 ⟨rfl, hb9⟩
      have hB9 := hB1.gb hb9
      have hA9 := Blk.gb hA1 hb9
      have hg9 := bgb hgf hb9 hgf.size
      clear hB1 hA1 hb9
      go_wp2_with fail
      refine (nput_any _ 4 w0.heap.size w2.heap.size 0 C w9 w0.heap.size (by omega) hgh (Nat.le_refl _) (by omega) HL.out (by omega) hB9 hA9).mono ?_
      rintro e w10 ⟨rfl, hB10, hA10, hb10⟩
      rw [HFN.out] at hB10
      have hg10 := hg9.trans (hb10.mono hs0)
      have hsl : (nodeBlock no kind birth ks vs).length = 256 := summed_length _
      generalize nodeBlock no kind birth ks vs = D at *
      have HSL := Lib.hid hsl
      clear hsl hB9 hA9
      go_wp2_with (first | with_reducible refine halt_load 37 ?_ | with_reducible refine halt_store 37 ?_)
      refine L.load rfl Try.underlying37 info37 (by rfl) hB10 HSL.out (by rfl) ?_
      simp only [Act.put, List.setIfInBounds_toArray, List.set_cons_zero, List.set_cons_succ]
      go_wp2_with (first | with_reducible refine halt_load 37 ?_ | with_reducible refine halt_store 37 ?_)
      refine L.store rfl info37 (by rfl) (by rfl) hB10 (by rw [List.length_map]; exact HSL.out) HSL.out (by rfl) ?_
      intro w11 hB11 hG11
      simp only [Act.put]
      go_wp2_with fail
      refine ret_cell2 rfl (by rfl) Try.underlying37 info37 hB11 HSL.out (by rfl) rfl ?_
      exact ⟨rfl, hg10.grown hG11 hg10.size (fun k hk => by simp at hk; omega)⟩
set_option maxRecDepth 100000 in
theorem nblock_bad (no : UInt32) (kind : Int) (birth : UInt64) (ka : Option Addr) (ks : List UInt64) (kc : Nat) (va : Option Addr) (vn vc : Nat) (w : World) (hm : mayN kind ks vn = false) (hk : ks.length ≤ maxLen) (hrk : Rd w ka (ks.map b64)) :
    Calls Try.prog 66 #[.int .u32 (n32 no), nodeV kind birth ka ks.length kc va vn vc] w (GivesArr (zeros 256) 2 w) := by
  have hz := zeros_length 256
  have HZ := Lib.hid hz
  have HM := Lib.hid hm
  have hmay := fun u (hu : GB w u) => may_any kind birth ka ks kc va vn vc u hk (hu.rd hrk)
  have HMAY := Lib.hid hmay
  clear hz hm hmay hk
  unfold nodeV at *
  go_enter Try.func66, Try.ntmps66
  have hbl := Blk.new w [.int .i64 kind, .int .u64 (n64 birth), .slice ka ks.length kc, .slice va vn vc] 95
  have hg := (Below.refl w.heap.size w).alloc (Nat.le_refl _) (.cells #[.int .i64 kind, .int .u64 (n64 birth), .slice ka ks.length kc, .slice va vn vc] 95)
  go_wp2_with (first | with_reducible refine halt_alloc 37 ?_)
  change Blk (w.alloc (.cells #[.int .i64 kind, .int .u64 (n64 birth), .slice ka ks.length kc, .slice va vn vc] 95)) _ _ _ at hbl
  generalize w.alloc (.cells #[.int .i64 kind, .int .u64 (n64 birth), .slice ka ks.length kc, .slice va vn vc] 95) = w0 at *
  refine L.alloc rfl zero37 (by rfl) ?_
  intro w1 hB1 hG1
  simp only [Act.put, List.setIfInBounds_toArray, List.set_cons_zero, List.set_cons_succ]
  have hbl1 := hbl.gb hG1
  have hs0 := hg.size
  have hg1 := bgb hg hG1 hg.size
  obtain ⟨c0, c1, c2, c3⟩ := hbl1.c4
  go_wp2_with fail
  refine (HMAY.out _ hg1).mono ?_
  rintro e w2 ⟨rfl, hb2⟩
  rw [HM.out]
  have hB2 := hB1.gb hb2
  have hg2 := bgb hg1 hb2 hg1.size
  clear c0 c1 c2 c3 hbl1 hB1 hb2 hbl hg1
  go_wp2_with (first | with_reducible refine halt_load 37 ?_ | with_reducible refine halt_store 37 ?_)
  refine L.load rfl Try.underlying37 info37 (by rfl) hB2 HZ.out (by rfl) ?_
  simp only [Act.put, List.setIfInBounds_toArray, List.set_cons_zero, List.set_cons_succ]
  go_wp2_with (first | with_reducible refine halt_load 37 ?_ | with_reducible refine halt_store 37 ?_)
  refine L.store rfl info37 (by rfl) (by rfl) hB2 (by rw [List.length_map]; exact HZ.out) HZ.out (by rfl) ?_
  intro w3 hB3 hG3
  simp only [Act.put]
  go_wp2_with fail
  refine ret_cell2 rfl (by rfl) Try.underlying37 info37 hB3 HZ.out (by rfl) rfl ?_
  exact ⟨rfl, hg2.grown hG3 hg2.size (fun k hk => by simp at hk; omega)⟩
theorem may_known : mayN 2 [] 0 = true := by decide
theorem node_known : ∀ j ∈ [(4, (2 : UInt8)), (5, 0), (8, 5), (12, 1), (20, 0)], (nodeBlock 5 2 1 [] [])[j.1]? = some j.2 := by
  have hp : ∀ j ∈ [(4, (2 : UInt8)), (5, 0), (8, 5), (12, 1), (20, 0)], (pad 252 (nodeHead 5 2 1 0 ++ pairs [] []))[j.1 - 4]? = some j.2 := by decide +kernel
  intro j hj
  have := hp j hj
  unfold nodeBlock summed
  rw [List.getElem?_append_right (by rw [tail_length]; simp at hj; rcases hj with rfl | rfl | rfl | rfl | rfl <;> simp), tail_length]
  exact this
set_option maxRecDepth 100000 in
theorem known4_any (w : World) : Calls Try.prog 63 #[] w fun e w' => e = .returned (.bool true) ∧ Below w.heap.size w w' := by
  have hk := fun u => nblock_good 5 2 1 none [] 0 none [] 0 u may_known (by simp) rfl (Rd.nil _ _) (Rd.nil _ _)
  have hD := node_known
  have hl : (nodeBlock 5 2 1 [] []).length = 256 := summed_length _
  generalize nodeBlock 5 2 1 [] [] = D at *
  have HK := Lib.hid hk
  have HD := Lib.hid hD
  have HL := Lib.hid hl
  clear hk hD hl
  go_enter Try.func63, Try.ntmps63
  go_wp2_with fail
  refine (HK.out w).mono ?_
  rintro e w1 ⟨rfl, hb1⟩
  go_wp2_with (first | with_reducible refine halt_alloc 37 ?_ | with_reducible refine halt_store 37 ?_)
  refine L.alloc rfl zero37 (by rfl) ?_
  intro w2 hB2 hG2
  simp only [Act.put, List.setIfInBounds_toArray, List.set_cons_zero, List.set_cons_succ]
  go_wp2_with (first | with_reducible refine halt_alloc 37 ?_ | with_reducible refine halt_store 37 ?_)
  refine L.store rfl info37 (by rfl) (by rfl) hB2 (by rw [List.length_map]; exact zeros_length 256) HL.out (by rfl) ?_
  intro w3 hB3 hG3
  simp only [Act.put]
  have hcell : ∀ j x, (j, x) ∈ [(4, (2 : UInt8)), (5, 0), (8, 5), (12, 1), (20, 0)] → w3.cell? ⟨w1.heap.size, j, none⟩ = some (.int .u8 (n8 x)) := by
    intro j x hj
    have := HD.out (j, x) hj
    rw [hB3.cell, List.getElem?_map, this]; rfl
  have c4 := hcell 4 2 (by simp)
  have c5 := hcell 5 0 (by simp)
  have c8 := hcell 8 5 (by simp)
  have c12 := hcell 12 1 (by simp)
  have c20 := hcell 20 0 (by simp)
  change w3.cell? _ = some (.int .u8 2) at c4
  change w3.cell? _ = some (.int .u8 0) at c5
  change w3.cell? _ = some (.int .u8 5) at c8
  change w3.cell? _ = some (.int .u8 1) at c12
  change w3.cell? _ = some (.int .u8 0) at c20
  have hs1 := hb1.size
  have hb3 := (bgb hb1 hG2 hs1).grown hG3 (by have := hG2.size; omega) (fun k hk => by simp at hk; omega)
  clear hcell hG2 hG3 hB2 hB3 hb1
  go_wp2_with fail
  go_ret
  exact ⟨rfl, hb3⟩
end Go.Proofs.Ytiihllfjlgbfcaa
