/- The walk of super.Block. -/
import Derived.Test.YtiihllfjlgbfcaaSNum
import Derived.Lib.BufferWrite
namespace Go.Proofs.Ytiihllfjlgbfcaa
open Go.RowKit
theorem shr64s (x : UInt64) (k : Nat) : n64 x / (2 : Int) ^ (8 * k) = n64 (Num.dn k x) := by
  unfold n64
  rw [Num.dn_toNat, show (2 : Int) ^ (8 * k) = ((256 ^ k : Nat) : Int) by rw [Int.pow_mul]; simp]
  simp
theorem nth64s (x : UInt64) (k : Nat) : n64 x / (2 : Int) ^ (8 * k) % (256 : Int) = n8 (Num.dn k x % 256).toUInt8 := by
  rw [shr64s, u64_u8]
  congr 1
  rw [← UInt8.toNat_inj, UInt64.toNat_toUInt8, UInt64.toNat_toUInt8, UInt64.toNat_mod]
  simp
section
variable {o : Oper} {w : World} {ops : Array Oper} {rest : List Oper} {a : Act} {Q : Exit → Act → World → Prop}
theorem L.copyVoil (hgd : o.guard = none) (d : Operand) {st : ByteArray} (ho : o.op = .call { callee := .builtin .copy, args := #[d, .const (.string st)], argTypes := #[22, 9] }) (hst : st.data.toList = [86, 79, 73, 76]) {g n dc : Nat} {T : TypeId} {A : List UInt8}
    (hd : a.eval d = .slice (some ⟨g, 4, none⟩) n dc) (hB : Blk w g T (A.map b8)) (hn : 4 ≤ n) (hfit : 8 ≤ A.length)
    (h : ∀ w', Blk w' g T ((put A 4 [86, 79, 73, 76]).map b8) → w.grownBy w' (some g) → wpList Try.prog ops Q rest (a.put o.dst (goInt 4)) w') : wpList Try.prog ops Q (o :: rest) a w :=
  wpList_plain hgd fun _ hK => by
    have hsz : st.size = 4 := by
      show st.data.size = 4
      rw [← Array.length_toList, hst]; rfl
    have hr := Lib.run_copy_row_string (P := Try.prog) w 22 9 o.type 5 g 4 n dc st (A.map b8).toArray T Try.underlying22 size5 hB (by omega) (by rw [hsz]; simpa using hfit)
    have hput : ((A.map b8).toArray.toList.take 4 ++ Lib.byteCells st.data.toList ++ (A.map b8).toArray.toList.drop (4 + st.size)) = (put A 4 [86, 79, 73, 76]).map b8 := by
      rw [hst, hsz]
      unfold put
      rw [List.map_append, List.map_append, List.map_take, List.map_drop]
      rfl
    rw [hput, hsz] at hr
    refine wp_run ?_ (hK _ _ (h _ (hB.row _) (grown_row _ _ _)))
    simp only [execOp, ho, resolve, invoke, builtin, Sem.run_bind, Sem.run_pure, Result.andThen_ok, List.map_toArray, List.map_cons, List.map_nil, hd, show a.eval (.const (.string st)) = .string st from rfl, hr]
    rfl
theorem L.load167 {T : TypeId} {g off : Nat} {x : Operand} {cs l : List Value} (ho : o.op = .load 167 x) (hx : a.eval x = .pointer (some ⟨g, off, none⟩)) (hB : Blk w g T cs) (hl : (cs.drop off).take 2 = l) (hn : off + 2 ≤ cs.length) (hw : Region.wanted o (yielded ops a.tmps) = true)
    (h : wpList Try.prog ops Q rest (a.put o.dst (.agg l.toArray)) w) : wpList Try.prog ops Q (o :: rest) a w := by
  refine L.val hw ?_ h
  have := run_load_part (P := Try.prog) (o := off) hB Try.underlying167 rfl info167 hn
  rw [hl] at this
  unfold execOp; rw [ho]
  simp only [hx, Sem.run_bind, this, Result.andThen_ok, Sem.run_pure]
theorem zero167 : (Try.prog.info? 167).map (·.zero) = some (some (.agg #[.int .u64 0, .int .u64 0])) := by kernel_rfl
theorem L.alloc167 (ho : o.op = .alloc 167) (hw : Region.wanted o (yielded ops a.tmps) = true)
    (h : ∀ w', Blk w' w.heap.size 167 [.int .u64 0, .int .u64 0] → GB w w' → wpList Try.prog ops Q rest (a.put o.dst (.pointer (some ⟨w.heap.size, 0, none⟩))) w') : wpList Try.prog ops Q (o :: rest) a w := by
  refine L.val (w' := w.alloc (.cells #[.int .u64 0, .int .u64 0] 167)) (v := .pointer (some ⟨w.heap.size, 0, none⟩)) hw ?_ (h _ (Blk.new w [.int .u64 0, .int .u64 0] 167) ((Below.refl _ _).alloc (Nat.le_refl _) _))
  unfold execOp; rw [ho]
  simp only [Instr.alloc, Sem.run_bind, run_zero zero167, Result.andThen_ok]
  rfl
end
theorem cells2_at : ∀ (l : List (UInt64 × UInt64)) (k : Nat) (h : k < l.length), ((cells2 l).drop (k * 2)).take 2 = [b64 l[k].1, b64 l[k].2]
  | p :: l, 0, _ => rfl
  | p :: l, k + 1, h => by
    have e : cells2 (p :: l) = [b64 p.1, b64 p.2] ++ cells2 l := rfl
    rw [e, show (k + 1) * 2 = 2 + k * 2 by omega, ← List.drop_drop, List.drop_left' (by rfl)]
    exact cells2_at l k (by simpa using h)
theorem offN_le (l : List (UInt64 × Nat)) (k : Nat) (hk : k < l.length) : offN (l.take k) + l[k].2 = offN (l.take (k + 1)) := by
  rw [List.take_succ_eq_append_getElem hk]
  unfold offN
  rw [List.map_append, List.foldr_append]
  generalize l[k] = p
  induction (l.take k) with
  | nil => simp
  | cons q r ih => simp only [List.map_cons, List.foldr_cons] at *; omega
theorem offN_mono (l : List (UInt64 × Nat)) (k : Nat) : offN (l.take k) ≤ offN l := by
  conv => rhs; rw [← List.take_append_drop k l]
  unfold offN
  rw [List.map_append, List.foldr_append]
  have : ∀ (m : List Nat) (x : Nat), m.foldr (· + ·) 0 ≤ m.foldr (· + ·) x := by
    intro m x
    induction m with
    | nil => simp
    | cons q r ih => simp only [List.foldr_cons]; omega
  exact this _ _
theorem numS_small (s : Su) : ∀ p ∈ numS s, p.2 ≤ 8 := by
  intro p hp
  simp only [numS, List.mem_append, List.mem_cons, List.mem_map, List.not_mem_nil, or_false] at hp
  rcases hp with (rfl | rfl | rfl) | ⟨q, -, rfl⟩ | rfl | rfl | rfl | rfl | rfl | rfl | rfl | rfl | rfl | rfl <;> simp
set_option maxHeartbeats 4000000 in
set_option maxRecDepth 100000 in
theorem block5_bad (s : Su) (hs : s.Ok) (hm : mayS s = false) (w : World) : Calls Try.prog 61 #[suV s] w (GivesArr (zeros 256) 2 w) := by
  have hz := zeros_length 256
  have HZ := Lib.hid hz
  clear hz
  have HM := Lib.hid (fun u => may5_any s hs u)
  rw [hm] at HM
  go_enter Try.func61, Try.ntmps61
  go_wp2_with (first | with_reducible refine halt_box 82 ?_)
  refine L.box82 rfl (by rfl) (by rfl) ?_
  intro w1 hB1 hG1
  simp only [Act.put, List.setIfInBounds_toArray, List.set_cons_zero, List.set_cons_succ]
  go_wp2_with (first | with_reducible refine halt_alloc 37 ?_)
  refine L.alloc rfl zero37 (by rfl) ?_
  intro w2 hB2 hG2
  simp only [Act.put, List.setIfInBounds_toArray, List.set_cons_zero, List.set_cons_succ]
  go_wp2_with (first | with_reducible refine halt_load 82 ?_)
  refine L.load82 rfl (by rfl) (hB1.gb hG2) hs.pg (by rfl) ?_
  simp only [Act.put, List.setIfInBounds_toArray, List.set_cons_zero, List.set_cons_succ]
  go_wp2_with fail
  refine (HM.out _).mono ?_
  rintro e w3 ⟨rfl, hb3⟩
  have hB3 := hB2.gb hb3
  have hg3 := GB.trans _ _ _ (GB.trans _ _ _ hG1 hG2) hb3
  have hlt := hG1.size
  go_wp2_with (first | with_reducible refine halt_load 37 ?_ | with_reducible refine halt_store 37 ?_)
  refine L.load rfl Try.underlying37 info37 (by rfl) hB3 HZ.out (by rfl) ?_
  simp only [Act.put, List.setIfInBounds_toArray, List.set_cons_zero, List.set_cons_succ]
  go_wp2_with (first | with_reducible refine halt_load 37 ?_ | with_reducible refine halt_store 37 ?_)
  refine L.store rfl info37 (by rfl) (by rfl) hB3 (by rw [List.length_map]; exact HZ.out) HZ.out (by rfl) ?_
  intro w4 hB4 hG4
  simp only [Act.put]
  go_wp2_with fail
  refine ret_cell2 rfl (by rfl) Try.underlying37 info37 hB4 HZ.out (by rfl) rfl ?_
  exact ⟨rfl, hg3.grown hG4 hg3.size (fun k hk => by cases hk; omega)⟩
set_option maxHeartbeats 8000000 in
set_option maxRecDepth 100000 in
theorem block5_good (s : Su) (hs : s.Ok) (hm : mayS s = true) (w : World) : Calls Try.prog 61 #[suV s] w (GivesArr (blockS s) 0 w) := by
  have HZ := Lib.hid (zeros_length 256)
  have HM := Lib.hid (fun u => may5_any s hs u)
  rw [hm] at HM
  have HNU := Lib.hid (fun u => numbers_any s hs hm u)
  have hl19 := numS_len s hs.pg
  have hbl := bodyS_length s hs.pg
  go_enter Try.func61, Try.ntmps61
  go_wp2_with (first | with_reducible refine halt_box 82 ?_)
  refine L.box82 rfl (by rfl) (by rfl) ?_
  intro w1 hB1 hG1
  simp only [Act.put, List.setIfInBounds_toArray, List.set_cons_zero, List.set_cons_succ]
  go_wp2_with (first | with_reducible refine halt_alloc 37 ?_)
  refine L.alloc rfl zero37 (by rfl) ?_
  intro w2 hB2 hG2
  simp only [Act.put, List.setIfInBounds_toArray, List.set_cons_zero, List.set_cons_succ]
  go_wp2_with (first | with_reducible refine halt_load 82 ?_)
  refine L.load82 rfl (by rfl) (hB1.gb hG2) hs.pg (by rfl) ?_
  simp only [Act.put, List.setIfInBounds_toArray, List.set_cons_zero, List.set_cons_succ]
  go_wp2_with fail
  refine (HM.out _).mono ?_
  rintro e w3 ⟨rfl, hb3⟩
  have hB3 := hB2.gb hb3
  have hS3 := (hB1.gb hG2).gb hb3
  have hg3 := GB.trans _ _ _ (GB.trans _ _ _ hG1 hG2) hb3
  have hlt := hG1.size
  have hlt3 := hB3.lt
  have hltS := hB1.lt
  go_wp2_with (first | with_reducible refine halt_builtin .copy ?_)
  refine L.copyVoil rfl (.tmp 14) rfl (by rfl) (by rfl) hB3 (by omega) (by rw [HZ.out]; omega) ?_
  intro w4 hB4 hG4
  simp only [Act.put, List.setIfInBounds_toArray, List.set_cons_zero, List.set_cons_succ]
  have hS4 := hS3.grown hG4 (fun e => by injection e with e; omega)
  have hg4 : Below w.heap.size w w4 := hg3.grown hG4 hg3.size (fun k hk => by cases hk; omega)
  have hs4 := hG4.size
  clear hB1 hB2 hG2 hb3 hB3 hS3 hg3 hG4
  go_wp2_with (first | with_reducible refine halt_load 82 ?_)
  refine L.load82 rfl (by rfl) hS4 hs.pg (by rfl) ?_
  simp only [Act.put, List.setIfInBounds_toArray, List.set_cons_zero, List.set_cons_succ]
  go_wp2_with fail
  refine (HNU.out _).mono ?_
  rintro e w5 ⟨gn, cn, cur, rfl, hBn, hcur, hcl, hgn, hb5⟩
  have hB5 := hB4.gb hb5
  have hg5 : Below w.heap.size w w5 := bgb hg4 hb5 hg4.size
  have hPl : (numP s).length = 19 := by rw [numP, List.length_map]; exact hl19
  have hat : ∀ (k : Nat) (h : k < (numS s).length), (cur.drop (k * 2)).take 2 = [b64 (numS s)[k].1, b64 (UInt64.ofNat (numS s)[k].2)] := fun k h => by
    have h1 := cells2_at (numP s) k (by rw [hPl]; omega)
    rw [← hcur, List.drop_take, List.take_take, Nat.min_eq_left (by rw [hPl]; omega)] at h1
    rw [h1]
    simp [numP]
  rw [hPl] at hcl
  rw [hPl]
  have HAT := Lib.hid hat
  have HSM := Lib.hid (numS_small s)
  have hbody : bodyS s = [86, 79, 73, 76] ++ flatN (numS s) := rfl
  have hoff := flatN_length (numS s)
  have hfl : offN (numS s) = 97 := by
    rw [hbody, List.length_append, hoff] at hbl
    have : ([86, 79, 73, 76] : List UInt8).length = 4 := rfl
    omega
  have hne : gn ≠ w1.heap.size := by omega
  have HBS : Hid (bodyS s = [86, 79, 73, 76] ++ flatN (numS s)) := Lib.hid hbody
  have HOF : Hid (∀ k, offN ((numS s).take k) ≤ 97) := Lib.hid (fun k => by rw [← hfl]; exact offN_mono _ _)
  have HON : Hid (∀ (k : Nat) (h : k < (numS s).length), offN ((numS s).take k) + (numS s)[k].2 = offN ((numS s).take (k + 1))) := Lib.hid (fun k h => offN_le _ _ h)
  clear hcur hPl hat hb5 hB4 hg4 hS4 hoff hbody hfl HNU
  generalize hN : numS s = N at *
  have hw1w : w.heap.size ≤ w1.heap.size := hlt
  go_wp2_with fail
  go_loopw [4, 20] (fun y x wr => ∃ k : Nat, k ≤ 19 ∧ x = .int .i64 k ∧ y = .int .i64 ((8 + offN (N.take k) : Nat) : Int) ∧ Blk wr w1.heap.size 37 ((put (zeros 256) 4 ([86, 79, 73, 76] ++ flatN (N.take k))).map b8) ∧ Blk wr gn 167 cur ∧ Below w.heap.size w wr) (fun _ x _ => 19 - (intOf x).toNat)
  case atStart => exact ⟨0, by omega, rfl, rfl, by simpa [flatN] using hB5, hBn, hg5⟩
  case round =>
    obtain ⟨k, hk, rfl, rfl, hB, hBk, hb⟩ := hrel
    by_cases hlt19 : k < 19
    · have hat := HAT.out k (by omega)
      have hsm := HSM.out _ (List.getElem_mem (show k < N.length by omega))
      have hon := HON.out k (by omega)
      have hof := HOF.out (k + 1)
      have hfs : flatN (N.take (k + 1)) = flatN (N.take k) ++ Num.low (N[k]'(by omega)).2 (N[k]'(by omega)).1 := by
        rw [List.take_succ_eq_append_getElem (by omega), flatN_append]; simp [flatN]
      have hfl := flatN_length (N.take k)
      generalize N[k]'(by omega) = p at *
      obtain ⟨x, m⟩ := p
      simp only at hat hsm hon hfs
      have hon' : offN (N.take (k + 1)) = offN (N.take k) + m := hon.symm
      have HF1' : Hid (flatN (N.take (k + 1)) = flatN (N.take k) ++ Num.low m x) := Lib.hid hfs
      generalize hof0 : offN (N.take k) = off0 at *
      generalize hF0 : flatN (N.take k) = F0 at *
      have HOFF1 := Lib.hid hon'
      have HFL := Lib.hid hfl
      have hof1 : off0 + m ≤ 97 := by rw [hon]; exact hof
      clear hfs hfl hof0 hon hon' hof hF0
      have hm64 : n64 (UInt64.ofNat m) = (m : Int) := by unfold n64; simp; omega
      go_wp2_with (first | with_reducible refine halt_load 167 ?_ | with_reducible refine halt_alloc 167 ?_ | with_reducible refine halt_store 167 ?_)
      refine L.load167 (off := k * 2) rfl (by rfl) hBk hat (by omega) (by rfl) ?_
      simp only [Act.put, List.setIfInBounds_toArray, List.set_cons_zero, List.set_cons_succ]
      go_wp2_with (first | with_reducible refine halt_load 167 ?_ | with_reducible refine halt_alloc 167 ?_ | with_reducible refine halt_store 167 ?_)
      refine L.alloc167 rfl (by rfl) ?_
      intro w6 hA6 hG6
      simp only [Act.put, List.setIfInBounds_toArray, List.set_cons_zero, List.set_cons_succ]
      go_wp2_with (first | with_reducible refine halt_load 167 ?_ | with_reducible refine halt_alloc 167 ?_ | with_reducible refine halt_store 167 ?_)
      refine L5.storeS (off := 0) (vs := [b64 x, b64 (UInt64.ofNat m)]) rfl info167 (by rfl) (by rfl) hA6 (by simp) rfl (by simp [b64, Value.oneCell']) (by rfl) ?_
      intro w7 hA7 hG7
      simp only [Act.put]
      rw [put_all _ _ (by rfl)] at hA7
      have f7 : Fr (fun _ => False) wr w7 := (Fr.of_gb hG6).grown hG7 (fun j hj => .inr (by cases hj; omega))
      have hB7 := f7.blk hB (fun h => h)
      have hBk7 := f7.blk hBk (fun h => h)
      have hb7 : Below w.heap.size w w7 := hb.trans (f7.below (B := w.heap.size) (fun _ _ h => h.elim) hb.size)
      have hgt : w1.heap.size < wr.heap.size := hB.lt
      have hgn' : gn < wr.heap.size := hBk.lt
      have hA70 : w7.cell? ⟨wr.heap.size, 1, none⟩ = some (.int .u64 m) := by rw [hA7.cell]; show some (b64 (UInt64.ofNat m)) = _; unfold b64; rw [hm64]
      clear hG6 hG7 hA6 f7 hB hBk hb hat hm64
      generalize wr.heap.size = gT at *
      go_wp2_with fail
      go_loopw [4, 26] (fun y z wx => ∃ i : Nat, i ≤ m ∧ z = .int .u64 i ∧ y = .int .i64 ((8 + off0 + i : Nat) : Int) ∧ Blk wx w1.heap.size 37 ((put (zeros 256) 4 ([86, 79, 73, 76] ++ (F0 ++ Num.low i x))).map b8) ∧ Blk wx gn 167 cur ∧ Blk wx gT 167 [b64 x, b64 (UInt64.ofNat m)] ∧ Below w.heap.size w wx) (fun _ z _ => m - (intOf z).toNat)
      case atStart => exact ⟨0, by omega, rfl, rfl, by simpa [Num.low] using hB7, hBk7, hA7, hb7⟩
      case round =>
        obtain ⟨i, hi, rfl, rfl, hBi, hBki, hAi, hbi⟩ := hrel
        by_cases hlti : i < m
        · have hpl : ([86, 79, 73, 76] ++ (F0 ++ Num.low i x)).length = 4 + off0 + i := by
            rw [List.length_append, List.length_append, HFL.out, Num.low_length]; simp; omega
          have hp256 : (put (zeros 256) 4 ([86, 79, 73, 76] ++ (F0 ++ Num.low i x))).length = 256 := by rw [put_length _ _ _ (by rw [HZ.out, hpl]; omega)]; exact HZ.out
          obtain ⟨x0, hcell⟩ := hBi.cell8 (8 + off0 + i) (by omega)
          have hfz := hBi.frozen (8 + off0 + i)
          have hA0 : _ = some (Value.int .u64 (n64 x)) := hAi.cell 0
          have e1 := put_end (zeros 256) 4 ([86, 79, 73, 76] ++ (F0 ++ Num.low i x)) (8 + off0 + i) (by rw [hpl]; omega) (Num.dn i x % 256).toUInt8 (by rw [HZ.out]; omega)
          have e2 : [86, 79, 73, 76] ++ (F0 ++ Num.low i x) ++ [(Num.dn i x % 256).toUInt8] = [86, 79, 73, 76] ++ (F0 ++ Num.low (i + 1) x) := by
            rw [show Num.low (i + 1) x = Num.low i x ++ [(Num.dn i x % 256).toUInt8] from rfl, List.append_assoc, List.append_assoc]
          rw [e2] at e1
          have E1 := Lib.hid e1
          have l3 : IntKind.u8.wrap (n64 x / 2 ^ (8 * i)) = n8 (Num.dn i x % 256).toUInt8 := nth64s x i
          have w2 : IntKind.u64.wrap (8 * (i : Int)) = 8 * i := by show 8 * (i : Int) % 18446744073709551616 = _; omega
          have w4 : IntKind.u64.wrap ((i : Int) + 1) = i + 1 := by show ((i : Int) + 1) % 18446744073709551616 = _; omega
          clear e1 e2 hpl hp256
          go_wp2_with fail
          go_roundw
          case rel => exact ⟨i + 1, by omega, by go_num, by go_num, by rw [← E1.out]; exact hBi.set8 _ _, hBki.other (fun e => hne e.symm) _ _, hAi.other (by omega) _ _, hbi.setCell hw1w _⟩
          case measure => simp [intOf]; omega
        · obtain rfl : i = m := by omega
          go_wp2_with fail
          go_roundw
          case rel => exact ⟨k + 1, by omega, by go_num, by rw [HOFF1.out, Nat.add_assoc], by rw [HF1'.out]; exact hBi, hBki, hbi⟩
          case measure => simp [intOf]; omega
    · obtain rfl : k = 19 := by omega
      rw [List.take_of_length_le (by omega), ← HBS.out] at hB
      have hsb := bodyS_length s hs.pg
      have hpl : (put (zeros 256) 4 (bodyS s)).length = 256 := by rw [put_length _ _ _ (by rw [HZ.out]; omega)]; exact HZ.out
      have hdrop : (put (zeros 256) 4 (bodyS s)).drop 4 = pad 252 (bodyS s) := by
        have := put_zeros (bodyS s) 252 4
        rw [List.take_of_length_le (by omega)] at this
        exact this
      have hrd2 := hB.rd8 4
      rw [hdrop] at hrd2
      have hpad := pad_length 252 (bodyS s)
      have hs1 : Calls Try.prog 21 #[.slice (some ⟨w1.heap.size, 4, none⟩) 252 252] wr fun e w' => e = .returned (.int .u32 (n32 (Crc.sum (pad 252 (bodyS s))))) ∧ Below wr.heap.size wr w' := by
        have := sum_any (some ⟨w1.heap.size, 4, none⟩) (pad 252 (bodyS s)) 252 wr (by rw [hpad]; unfold maxLen; omega) hrd2
        rwa [hpad] at this
      have HP := Lib.hid hpl
      have HD := Lib.hid hdrop
      clear hpl hdrop hpad hrd2 hsb
      go_wp2_with fail
      refine hs1.mono ?_
      rintro e w6 ⟨rfl, hb6⟩
      have hB6 := hB.gb hb6
      have hb7 := bgb hb hb6 hb.size
      have HBL : Hid (blockS s = Crc.tail (Crc.sum (pad 252 (bodyS s))) ++ pad 252 (bodyS s)) := Lib.hid rfl
      generalize hS : Crc.sum (pad 252 (bodyS s)) = sm at *
      have hT := tail_length sm
      have HT := Lib.hid hT
      clear hT hS hs1 hB hb6
      generalize put (zeros 256) 4 (bodyS s) = C3 at *
      go_wp2_with fail
      go_loopw [43] (fun x wx => ∃ j : Nat, j ≤ 4 ∧ x = .int .i64 j ∧ Blk wx w1.heap.size 37 ((put C3 0 ((Crc.tail sm).take j)).map b8) ∧ Below w.heap.size w wx) (fun x _ => 4 - (intOf x).toNat)
      case atStart => exact ⟨0, by omega, rfl, by rw [List.take_zero, put_nil]; exact hB6, hb7⟩
      case round =>
        obtain ⟨j, hj, rfl, hBj, hbj⟩ := hrel
        have hpl : (put C3 0 ((Crc.tail sm).take j)).length = 256 := by rw [put_length _ _ _ (by have := HP.out; have := HT.out; simp; omega)]; exact HP.out
        by_cases hltj : j < 4
        · obtain ⟨x0, hcell⟩ := hBj.cell8 j (by omega)
          have hfz := hBj.frozen j
          have l3 := nth_shift sm j hltj
          have e1 := put_set C3 (Crc.tail sm) 0 j (by have := HT.out; omega) (by have := HP.out; omega)
          rw [tail_get sm j hltj, Nat.zero_add] at e1
          have E1 := Lib.hid e1
          clear e1 hpl
          go_wp2_with fail
          go_roundw
          case rel => exact ⟨j + 1, by omega, by go_num, by rw [← E1.out]; exact hBj.set8 _ _, hbj.setCell hw1w _⟩
          case measure => simp [intOf]; omega
        · obtain rfl : j = 4 := by omega
          rw [List.take_of_length_le (by rw [HT.out]; omega), put_zero, HT.out, HD.out, ← HBL.out] at hBj
          have HSL := Lib.hid (blockS_length s)
          clear hpl
          go_wp2_with (first | with_reducible refine halt_load 37 ?_ | with_reducible refine halt_store 37 ?_)
          refine L.load (l := blockS s) rfl Try.underlying37 info37 (by rfl) hBj HSL.out (by rfl) ?_
          simp only [Act.put, List.setIfInBounds_toArray, List.set_cons_zero, List.set_cons_succ]
          go_wp2_with (first | with_reducible refine halt_load 37 ?_ | with_reducible refine halt_store 37 ?_)
          refine L.store rfl info37 (by rfl) (by rfl) hBj (by rw [List.length_map]; exact HSL.out) HSL.out (by rfl) ?_
          intro w8 hB8 hG8
          simp only [Act.put]
          go_wp2_with fail
          refine ret_cell2 rfl (by rfl) Try.underlying37 info37 hB8 HSL.out (by rfl) rfl ?_
          exact ⟨rfl, hbj.grown hG8 hbj.size (fun k hk => by cases hk; exact hw1w)⟩
theorem block5_any (s : Su) (hs : s.Ok) (w : World) : Calls Try.prog 61 #[suV s] w (GivesArr (if mayS s then blockS s else zeros 256) (if mayS s then 0 else 2) w) := by
  cases hm : mayS s
  · exact block5_bad s hs hm w
  · exact block5_good s hs hm w
end Go.Proofs.Ytiihllfjlgbfcaa
