/- The walks of super.has, Read, Write. -/
import Derived.Test.YtiihllfjlgbfcaaSOf
import Derived.Test.YtiihllfjlgbfcaaSDisk
import Derived.Laws.Cover3
namespace Go.Proofs.Ytiihllfjlgbfcaa
open Go.RowKit
theorem has5_no (v : Value) (k : Int) (w : World) (h : NoDisk w v) : Calls Try.prog 117 #[v, .int .i64 k] w fun e w' => e = .returned (.int .i64 1) ∧ w = w' := by
  have hs := sectors_no v w h
  go_enter Try.func117, Try.ntmps117
  go_wp2_with fail
  refine hs.mono ?_
  rintro e w2 ⟨rfl, rfl⟩
  go_wp2_with fail
  go_ret
  exact ⟨rfl, rfl⟩
theorem has5_any (p : Nat) (d : DD) (F : Nat → Prop) (k : Int) (w : World) (h : DiskAt w p d F) (hg : 0 < d.img.length) (hm : d.img.length ≤ 8192) : Calls Try.prog 117 #[.pointer (some ⟨p, 0, none⟩), .int .i64 k] w fun e w' => e = .returned (.int .i64 (d.hasB k)) ∧ w = w' := by
  have hz : ((d.img.length : Int) == 0) = false := by rw [beq_eq_false_iff_ne]; omega
  have hs := sectors_any p d F w h
  have hq : (d.img.length : Int).tdiv 4 = ((d.img.length / 4 : Nat) : Int) := by rw [Int.tdiv_eq_ediv_of_nonneg (by omega)]; omega
  have HB : Hid (d.hasB k = if k < 0 ∨ ((d.img.length / 4 : Nat) : Int) ≤ k then 2 else 0) := Lib.hid rfl
  have hmb : d.img.length / 4 ≤ 2048 := by omega
  generalize d.hasB k = c at *
  generalize d.img.length / 4 = m at *
  have hw : RowKit.wrap64 (m : Int) = m := by unfold RowKit.wrap64; omega
  have HS := Lib.hid hs
  clear hs
  by_cases h0 : k < 0
  · have HC : Hid (c = 2) := Lib.hid (by rw [HB.out, if_pos (.inl h0)])
    go_enter Try.func117, Try.ntmps117
    go_wp2_with fail
    refine HS.out.mono ?_
    rintro e w2 ⟨rfl, rfl⟩
    go_wp2_with fail
    go_ret
    exact ⟨by rw [HC.out]; rfl, rfl⟩
  · by_cases h1 : (m : Int) ≤ k
    · have HC : Hid (c = 2) := Lib.hid (by rw [HB.out, if_pos (.inr h1)])
      go_enter Try.func117, Try.ntmps117
      go_wp2_with fail
      refine HS.out.mono ?_
      rintro e w2 ⟨rfl, rfl⟩
      go_wp2_with fail
      refine HS.out.mono ?_
      rintro e w2 ⟨rfl, rfl⟩
      go_wp2_with fail
      go_ret
      exact ⟨by rw [HC.out]; rfl, rfl⟩
    · have HC : Hid (c = 0) := Lib.hid (by rw [HB.out, if_neg (by omega)])
      go_enter Try.func117, Try.ntmps117
      go_wp2_with fail
      refine HS.out.mono ?_
      rintro e w2 ⟨rfl, rfl⟩
      go_wp2_with fail
      refine HS.out.mono ?_
      rintro e w2 ⟨rfl, rfl⟩
      go_wp2_with fail
      go_ret
      exact ⟨by rw [HC.out]; rfl, rfl⟩
theorem cut_arr_from {T : TypeId} {n : Nat} (hu : Try.prog.underlying T = some (.array n 5)) (w : World) (g o l : Nat) (x : Int) (k : IntKind) (hx : x = l) (hl : l < n) :
    (Instr.sliceAt T (.pointer (some ⟨g, o, none⟩)) (some (.int k x)) none none).run Try.prog w = .ok (.slice (some ⟨g, o + l, none⟩) (n - l) (n - l)) w := by
  subst hx
  have hA : Try.prog.arrayLen T = n := by simp [Program.arrayLen, hu]
  have hE : Try.prog.elem T = 5 := by simp [Program.elem, hu]
  obtain ⟨i, hi, h1⟩ := info5_size
  rw [run_sliceAt_array_l (P := Try.prog) w T ⟨g, o, none⟩ (by rw [hA, hE]; exact hu) k l (by omega) (by rw [hA]; omega), hE, hA]
  simp [sizeOf, typeInfo, hi, h1, slicedAt]
  split
  · omega
  · rw [Addr.add_lit]
theorem cut_arr_all {T : TypeId} {n : Nat} (hu : Try.prog.underlying T = some (.array n 5)) (w : World) (g o : Nat) :
    (Instr.sliceAt T (.pointer (some ⟨g, o, none⟩)) none none none).run Try.prog w = .ok (.slice (some ⟨g, o, none⟩) n n) w := by
  have hA : Try.prog.arrayLen T = n := by simp [Program.arrayLen, hu]
  have hE : Try.prog.elem T = 5 := by simp [Program.elem, hu]
  obtain ⟨i, hi, h1⟩ := info5_size
  rw [run_sliceAt_array_all (P := Try.prog) w T ⟨g, o, none⟩ (by rw [hA, hE]; exact hu), hE, hA]
  simp [sizeOf, typeInfo, hi, h1, slicedAt, Addr.add_zero]
theorem wp_copyR {w : World} {o : Oper} {a : Act} {K : Act → World → Prop} {Q : Exit → Act → World → Prop} (d s : Operand) (ho : o.op = .call { callee := .builtin .copy, args := #[d, s], argTypes := #[22, 22] }) {g off n dc sc : Nat} {T : TypeId} {A m : List UInt8} {ad : Addr}
    (hd : a.eval d = .slice (some ⟨g, off, none⟩) n dc) (hs : a.eval s = .slice (some ad) m.length sc) (hB : Blk w g T (A.map b8)) (hrd : Rd w (some ad) (m.map b8)) (hn : m.length ≤ n) (hfit : off + m.length ≤ A.length)
    (h : ∀ w', Blk w' g T ((put A off m).map b8) → w.grownBy w' (some g) → K (a.put o.dst (goInt m.length)) w') : o.wp Try.prog a w K Q := by
  have hput : (A.map b8).take off ++ m.map b8 ++ (A.map b8).drop (off + m.length) = (put A off m).map b8 := by simp [put, List.map_take, List.map_drop]
  have hrun := run_copy_row (P := Try.prog) w 22 22 o.type 5 g off n dc ad m.length sc (A.map b8).toArray T (m.map b8) Try.underlying22 size5 hB (by rw [List.length_map]; exact (Nat.min_eq_left hn).symm) hrd.cells (by simpa using hfit) (b8_oneCell m)
  have hrun' : (Builtin.copy_ #[22, 22] o.type #[.slice (some ⟨g, off, none⟩) n dc, .slice (some ad) m.length sc]).run Try.prog w = .ok (goInt m.length) (w.setRow g ((put A off m).map b8).toArray) := by
    rw [← hput]
    simpa using hrun
  refine wp_run (v := goInt m.length) ?_ (h _ (hB.row _) (grown_row _ _ _))
  simp only [execOp, ho, resolve, invoke, builtin, Sem.run_bind, Sem.run_pure, Result.andThen_ok, List.map_toArray, List.map_cons, List.map_nil, hd, hs, hrun']
theorem take_sect (B : List UInt8) (i : Nat) : B.take (64 * i) ++ sect B i = B.take (64 * (i + 1)) := by
  unfold sect
  rw [show 64 * (i + 1) = 64 * i + 64 by omega, List.take_add]
set_option maxHeartbeats 1000000 in
set_option maxRecDepth 100000 in
theorem read5_any (p : Nat) (d : DD) (F : Nat → Prop) (k : Int) (w : World) (h : DiskAt w p d F) (hg : DGood d) : Calls Try.prog 60 #[.pointer (some ⟨p, 0, none⟩), .int .i64 k] w (GivesArr (d.readB k).1 (d.readB k).2 w) := by
  have HZ := Lib.hid (zeros_length 256)
  have HZ64 := Lib.hid (zeros_length 64)
  have HH := Lib.hid (fun u (g : GB w u) => has5_any p d F k u (h.gb g) hg.some hg.few)
  have hcode : d.hasB k = 0 ∨ d.hasB k = 2 := by unfold DD.hasB; split <;> simp
  unfold DD.readB
  rcases hcode with h0 | h0
  · obtain ⟨j, rfl, hj⟩ := hasB_lt h0
    rw [h0] at HH
    rw [h0, if_pos rfl, Int.toNat_natCast]
    have hbl := blk_length hg j hj
    have hse := fun (i : Nat) hi => sect_blk hg j hj i hi
    have hfew := hg.few
    have HRD : Hid (∀ i : Nat, i < 4 → ∀ u, GB w u → Calls Try.prog 42 #[.pointer (some ⟨p, 0, none⟩), .int .i64 ((j : Int) * 4 + i)] u (GivesArr (sect (d.blk j) i) 0 u)) := Lib.hid (fun i hi u g => by
      have := read_any p d F ((j : Int) * 4 + i) u (h.gb g) hg
      have hh : d.read ((j : Int) * 4 + i) = (d.img.getD (4 * j + i) [], 0) := by
        have e : ((j : Int) * 4 + i) = ((4 * j + i : Nat) : Int) := by push_cast; omega
        rw [e]
        have h1 : d.has ((4 * j + i : Nat) : Int) = 0 := by unfold DD.has; rw [if_neg (by omega)]
        unfold DD.read
        rw [h1, if_pos rfl, Int.toNat_natCast]
      rw [hh, ← hse i hi] at this
      exact this)
    have hjb : j < 2048 := by omega
    clear h0 hse hj
    generalize d.blk j = B at *
    have HL := Lib.hid hbl
    clear hbl
    go_enter Try.func60, Try.ntmps60
    go_wp2_with (first | with_reducible refine halt_alloc 37 ?_)
    refine L.alloc rfl zero37 (by rfl) ?_
    intro w1 hB1 hG1
    simp only [Act.put, List.setIfInBounds_toArray, List.set_cons_zero, List.set_cons_succ]
    go_wp2_with fail
    refine (HH.out _ hG1).mono ?_
    rintro e w2 ⟨rfl, rfl⟩
    go_wp2_with fail
    go_loopw [17] (fun x wr => ∃ i : Nat, i ≤ 4 ∧ x = .int .i64 i ∧ Blk wr w.heap.size 37 ((put (zeros 256) 0 (B.take (64 * i))).map b8) ∧ GB w wr) (fun x _ => 4 - (intOf x).toNat)
    case atStart => exact ⟨0, by omega, rfl, by simpa [put_nil] using hB1, hG1⟩
    case round =>
      obtain ⟨i, hi, rfl, hB, hb⟩ := hrel
      by_cases hlt : i < 4
      · have hrd := HRD.out i hlt wr hb
        have hsl := sect_length B i HL.out hlt
        have hts := take_sect B i
        have htl : (B.take (64 * i)).length = 64 * i := by rw [List.length_take, HL.out]; omega
        have hpl : (put (zeros 256) 0 (B.take (64 * i))).length = 256 := by rw [put_length _ _ _ (by rw [HZ.out, htl]; omega)]; exact HZ.out
        have hpa := put_append (zeros 256) 0 (64 * i) (B.take (64 * i)) (sect B i) (by rw [htl]; omega) (by omega)
        rw [hts] at hpa
        generalize sect B i = Sx at *
        have HSL := Lib.hid hsl
        have HPA := Lib.hid hpa
        have HPL := Lib.hid hpl
        clear hsl hts htl hpl hpa
        go_wp2_with fail
        refine hrd.mono ?_
        rintro e w3 ⟨rfl, hb3⟩
        have hB3 := hB.gb hb3
        have hbw3 := bgb hb hb3 hb.size
        clear hrd
        go_wp2_with (first | with_reducible refine halt_alloc 59 ?_ | with_reducible refine halt_store 59 ?_)
        refine L.alloc rfl zero59 (by rfl) ?_
        intro w4 hA4 hG4
        simp only [Act.put, List.setIfInBounds_toArray, List.set_cons_zero, List.set_cons_succ]
        go_wp2_with (first | with_reducible refine halt_alloc 59 ?_ | with_reducible refine halt_store 59 ?_)
        refine L.store rfl info59 (by rfl) (by rfl) hA4 (by rw [List.length_map]; exact HZ64.out) HSL.out (by rfl) ?_
        intro w5 hA5 hG5
        simp only [Act.put]
        have f5 : Fr (fun _ => False) w3 w5 := (Fr.of_gb hG4).grown hG5 (fun j hj => .inr (by cases hj; omega))
        have hB5 := f5.blk hB3 (fun h => h)
        have hb5 : GB w w5 := hbw3.trans (f5.below (B := w.heap.size) (fun _ _ h => h.elim) hbw3.size)
        have hlt5 : w.heap.size < w3.heap.size := hB3.lt
        have hcA := fun u => cut_arr_from Try.underlying37 u w.heap.size 0 (64 * i) ((i : Int) * 64) .i64 (by omega) (by omega)
        have hcB := fun u => cut_arr_all Try.underlying59 u w3.heap.size 0
        rw [Nat.zero_add] at hcA
        have hBd := Blk.gb hB5 (GB.drew w5)
        have hAd := Blk.gb hA5 (GB.drew w5)
        have hbd := GB.trans _ _ _ hb5 (GB.drew w5)
        clear f5 hG4 hG5 hA4 hA5 hB5 hb5 hB3 hB hb hb3
        have hw64 : IntKind.i64.wrap ((i : Int) * 64) = (i : Int) * 64 := wrapi _ (by omega) (by omega)
        go_upto_region 10 with fail
        refine region_gb [(0,0),(1,0),(2,0),(3,0),(4,2)] [4] (by kernel_rfl) ?_
        iterate 4 (refine S0w (v := ?_) (by rfl) (by rfl) (fun u hu N hN => ?_) ?_; rotate_left; (go_simp; exact hN); simp only [Act.put, List.setIfInBounds_toArray, List.set_cons_zero, List.set_cons_succ])
        refine S2 (by rfl) (by rfl) (fun K hK => ?_)
        refine wp_copyR (.tmp 35) (.tmp 36) rfl (by rfl) (by rw [HSL.out]; rfl) hBd (by simpa using hAd.rd8 0) (by rw [HSL.out]; omega) (by rw [HSL.out, HPL.out]; omega) (fun w6 hB6 hG6 => hK _ _ ?_)
        clear hK K
        simp only [Act.put, List.setIfInBounds_toArray, List.set_cons_zero, List.set_cons_succ]
        refine S.done ?_
        go_wp2_with fail
        go_roundw
        case rel => exact ⟨i + 1, by omega, by go_num, by rw [← HPA.out]; exact hB6, hbd.grown hG6 hbd.size (fun k hk => by cases hk; exact Nat.le_refl _)⟩
        case measure => simp [intOf]; omega
      · obtain rfl : i = 4 := by omega
        have hfin : put (zeros 256) 0 (B.take (64 * 4)) = B := by rw [List.take_of_length_le (by rw [HL.out]; decide), put_all _ _ (by rw [HL.out, HZ.out])]
        rw [hfin] at hB
        go_wp2_with (first | with_reducible refine halt_load 37 ?_ | with_reducible refine halt_store 37 ?_)
        refine L.load rfl Try.underlying37 info37 (by rfl) hB HL.out (by rfl) ?_
        simp only [Act.put, List.setIfInBounds_toArray, List.set_cons_zero, List.set_cons_succ]
        go_wp2_with (first | with_reducible refine halt_load 37 ?_ | with_reducible refine halt_store 37 ?_)
        refine L.store rfl info37 (by rfl) (by rfl) hB (by rw [List.length_map]; exact HL.out) HL.out (by rfl) ?_
        intro w5 hB5 hG5
        simp only [Act.put]
        go_wp2_with fail
        refine ret_cell2 rfl (by rfl) Try.underlying37 info37 hB5 HL.out (by rfl) rfl ?_
        exact ⟨rfl, hb.grown hG5 hb.size (fun k hk => by cases hk; exact Nat.le_refl _)⟩
  · rw [h0] at HH
    rw [h0, if_neg (by decide)]
    go_enter Try.func60, Try.ntmps60
    go_wp2_with (first | with_reducible refine halt_alloc 37 ?_)
    refine L.alloc rfl zero37 (by rfl) ?_
    intro w1 hB1 hG1
    simp only [Act.put, List.setIfInBounds_toArray, List.set_cons_zero, List.set_cons_succ]
    go_wp2_with fail
    refine (HH.out _ hG1).mono ?_
    rintro e w2 ⟨rfl, rfl⟩
    go_wp2_with (first | with_reducible refine halt_load 37 ?_ | with_reducible refine halt_store 37 ?_)
    refine L.load rfl Try.underlying37 info37 (by rfl) hB1 HZ.out (by rfl) ?_
    simp only [Act.put, List.setIfInBounds_toArray, List.set_cons_zero, List.set_cons_succ]
    go_wp2_with (first | with_reducible refine halt_load 37 ?_ | with_reducible refine halt_store 37 ?_)
    refine L.store rfl info37 (by rfl) (by rfl) hB1 (by rw [List.length_map]; exact HZ.out) HZ.out (by rfl) ?_
    intro w5 hB5 hG5
    simp only [Act.put]
    go_wp2_with fail
    refine ret_cell2 rfl (by rfl) Try.underlying37 info37 hB5 HZ.out (by rfl) rfl ?_
    exact ⟨rfl, Below.grown hG1 hG5 hG1.size (fun k hk => by cases hk; exact Nat.le_refl _)⟩
theorem writeUp_stuck (d : DD) (k : Nat) (B : List UInt8) (i : Nat) (h : (d.writeUp k B i).1 ≠ 0) : ∀ m, d.writeUp k B (i + m) = d.writeUp k B i
  | 0 => rfl
  | m + 1 => by
    have ih := writeUp_stuck d k B i h m
    show DD.writeUp d k B (i + m + 1) = _
    rw [DD.writeUp, ih, if_neg h]
theorem Moved.late {w u v : World} {p : Nat} {d : DD} {F : Nat → Prop} (g : GB w u) (m : Moved p d F u v) : Moved p d F w v := Moved.chain (Fr.of_gb g) (fun _ hk => .inl hk) m
theorem DiskAt.lt {w : World} {p : Nat} {d : DD} {F : Nat → Prop} (h : DiskAt w p d F) : ∀ k, F k → k < w.heap.size := by obtain ⟨y, hy⟩ := h; exact hy.bnd
set_option maxHeartbeats 1000000 in
set_option maxRecDepth 100000 in
theorem write5_any (p : Nat) (d : DD) (F : Nat → Prop) (k : Int) (B : List UInt8) (w : World) (h : DiskAt w p d F) (hg : DGood d) (hL : B.length = 256) (hj : d.jr.length ≤ 1000000) :
    Calls Try.prog 74 #[.pointer (some ⟨p, 0, none⟩), .int .i64 k, arr B] w fun e w' => e = .returned (.int .i64 (d.writeB k B).1) ∧ Moved p (d.writeB k B).2 F w w' := by
  have HL := Lib.hid hL
  have hFl := h.lt
  have HH := Lib.hid (fun u (g : GB w u) => has5_any p d F k u (h.gb g) hg.some hg.few)
  have hcode : d.hasB k = 0 ∨ d.hasB k = 2 := by unfold DD.hasB; split <;> simp
  rcases hcode with h0 | h0
  · obtain ⟨j, rfl, hjl⟩ := hasB_lt h0
    have HW : Hid (d.writeB (j : Int) B = d.writeUp j B 4) := Lib.hid (by unfold DD.writeB; rw [h0, if_pos rfl, Int.toNat_natCast])
    rw [h0] at HH
    have HG := Lib.hid (fun i hi => writeUp_good hg j hjl B hL i hi)
    have HS := Lib.hid (fun i hi => writeUp_stuck d j B i hi)
    have HU : Hid (∀ i, (d.writeUp j B i).1 = 0 → d.writeUp j B (i + 1) = (d.writeUp j B i).2.write ((j : Int) * 4 + i) (sect B i)) := Lib.hid (fun i hi => by
      show DD.writeUp d j B (i + 1) = _
      rw [DD.writeUp, if_pos hi]
      congr 1
      push_cast; omega)
    have hjb : j < 2048 := by have := hg.few; omega
    generalize hU : d.writeUp j B = U at *
    have hU0 : U 0 = (0, d) := by rw [← hU]; rfl
    clear h0 hU hg hL
    generalize d.writeB (j : Int) B = R at *
    go_enter Try.func74, Try.ntmps74
    go_wp2_with (first | with_reducible refine halt_box 37 ?_)
    refine L.box rfl (by rfl) (by rfl) ?_
    intro w1 hB1 hG1
    simp only [Act.put, List.setIfInBounds_toArray, List.set_cons_zero, List.set_cons_succ]
    have hlt1 := hB1.lt
    have hd1 := h.gb hG1
    go_wp2_with fail
    refine (HH.out _ hG1).mono ?_
    rintro e w2 ⟨rfl, rfl⟩
    go_wp2_with fail
    go_loopw [16] (fun x wr => ∃ i : Nat, i ≤ 4 ∧ x = .int .i64 i ∧ Hid ((U i).1 = 0) ∧ Moved p (U i).2 F w1 wr) (fun x _ => 4 - (intOf x).toNat)
    case atStart => exact ⟨0, by omega, rfl, Lib.hid (by rw [hU0]), by rw [hU0]; exact Moved.refl hd1⟩
    case round =>
      obtain ⟨i, hi, rfl, HU0, Fi, hdi, hfi, hsi⟩ := hrel
      by_cases hlt : i < 4
      · obtain ⟨g1, g2, g3⟩ := HG.out i (by omega)
        have hbx := hfi.blk hB1 (fun hf => by have := hFl _ hf; omega)
        have hwr := write_any p (U i).2 Fi ((j : Int) * 4 + i) (sect B i) wr hdi g1 (sect_length B i HL.out hlt) (by omega)
        rw [← HU.out i HU0.out] at hwr
        have hcut := cut_arr Try.underlying37 wr w.heap.size 0 (64 * i) (64 * (i + 1)) ((i : Int) * 64) (((i : Int) + 1) * 64) .i64 .i64 (by omega) (by omega) (by omega) (by omega) (by omega)
        rw [Nat.zero_add, show 64 * (i + 1) - 64 * i = 64 by omega] at hcut
        have hap := run_arrayAt (P := Try.prog) wr 59 5 64 (some ⟨w.heap.size, 64 * i, none⟩) 64 (256 - 64 * i) Try.underlying59 (Nat.le_refl _)
        have hsx : ((B.map b8).drop (64 * i)).take 64 = (sect B i).map b8 := by unfold sect; rw [List.map_take, List.map_drop]
        have hst := HS.out (i + 1)
        generalize sect B i = Sx at *
        generalize hUn : U (i + 1) = Un at *
        obtain ⟨code, dn⟩ := Un
        simp only at hwr hst
        have HUN := Lib.hid hUn
        have HST := Lib.hid hst
        clear hst g1 g2 g3
        have hs1 : IntKind.i64.wrap ((i : Int) * 64) = (i : Int) * 64 := wrapi _ (by omega) (by omega)
        have hs2 : IntKind.i64.wrap (((i : Int) + 1) * 64) = ((i : Int) + 1) * 64 := wrapi _ (by omega) (by omega)
        go_wp2_with (first | with_reducible refine halt_load 59 ?_)
        refine L.val (by rfl) (X.loadAt (l := Sx) (off := 64 * i) rfl (by rfl) Try.underlying59 info59 hbx hsx (by rw [List.length_map, HL.out]; omega)) ?_
        simp only [Act.put, List.setIfInBounds_toArray, List.set_cons_zero, List.set_cons_succ]
        go_wp2_with fail
        refine hwr.mono ?_
        rintro e w3 ⟨rfl, hm⟩
        have hm3 : Moved p dn F w1 w3 := Moved.chain hfi hsi hm
        clear hcut hap hwr hm hdi hfi hsi
        by_cases hc : code = 0
        · subst hc
          go_wp2_with fail
          go_roundw
          case rel => exact ⟨i + 1, by omega, by go_num, Lib.hid (by rw [HUN.out]), by rw [HUN.out]; exact hm3⟩
          case measure => simp [intOf]; omega
        · have hcb : (code != 0) = true := by rw [bne_iff_ne]; exact hc
          have HF : Hid (R = (code, dn)) := Lib.hid (by
            obtain ⟨m, hm⟩ : ∃ m, 4 = i + 1 + m := ⟨3 - i, by omega⟩
            rw [HW.out, hm, HST.out hc m])
          clear hc
          go_wp2_with fail
          go_ret
          exact ⟨by rw [HF.out]; rfl, by rw [HF.out]; exact Moved.late hG1 hm3⟩
      · obtain rfl : i = 4 := by omega
        have hm4 : Moved p (U 4).2 F w1 wr := ⟨Fi, hdi, hfi, hsi⟩
        go_wp2_with fail
        go_ret
        exact ⟨by rw [HW.out, HU0.out]; rfl, by rw [HW.out]; exact Moved.late hG1 hm4⟩
  · have HW : Hid (d.writeB k B = (2, d)) := Lib.hid (by unfold DD.writeB; rw [h0, if_neg (by decide)])
    rw [h0] at HH
    go_enter Try.func74, Try.ntmps74
    go_wp2_with (first | with_reducible refine halt_box 37 ?_)
    refine L.box rfl (by rfl) (by rfl) ?_
    intro w1 hB1 hG1
    simp only [Act.put, List.setIfInBounds_toArray, List.set_cons_zero, List.set_cons_succ]
    go_wp2_with fail
    refine (HH.out _ hG1).mono ?_
    rintro e w2 ⟨rfl, rfl⟩
    go_wp2_with fail
    go_ret
    exact ⟨by rw [HW.out]; rfl, by rw [HW.out]; exact Moved.late hG1 (Moved.refl (h.gb hG1))⟩
end Go.Proofs.Ytiihllfjlgbfcaa
