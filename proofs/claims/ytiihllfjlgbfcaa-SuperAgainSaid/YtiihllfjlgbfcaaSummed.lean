/- Walks of voileref04: numbers, lowest byte first, and blocks with their sum. -/
import Derived.Test.YtiihllfjlgbfcaaPut
namespace Go.Proofs.Ytiihllfjlgbfcaa
open Go.RowKit
namespace Num
def dn : Nat → UInt64 → UInt64
  | 0, n => n
  | i + 1, n => dn i n / 256
def low : Nat → UInt64 → List UInt8
  | 0, _ => []
  | i + 1, n => low i n ++ [(dn i n % 256).toUInt8]
theorem low_length (k : Nat) (n : UInt64) : (low k n).length = k := by
  induction k with
  | zero => rfl
  | succ k ih => simp [low, ih]
theorem dn_toNat (i : Nat) (n : UInt64) : (dn i n).toNat = n.toNat / 256 ^ i := by
  induction i with
  | zero => simp [dn]
  | succ i ih => simp [dn, UInt64.toNat_div, ih, Nat.div_div_eq_div_mul, Nat.pow_succ]
theorem byte (i : Nat) (n : UInt64) : (dn i n % 256).toUInt8.toNat = n.toNat / 256 ^ i % 256 := by
  rw [UInt64.toNat_toUInt8, UInt64.toNat_mod, dn_toNat]; simp
theorem byte32 (s : UInt32) (k : Nat) (hk : k < 4) : (s >>> UInt32.ofNat (8 * k)).toUInt8.toNat = s.toNat / 256 ^ k % 256 := by
  rw [UInt32.toNat_toUInt8, UInt32.toNat_shiftRight, Nat.shiftRight_eq_div_pow]
  have : (UInt32.ofNat (8 * k)).toNat % 32 = 8 * k := by simp; omega
  rw [this, Nat.pow_mul]
theorem low4 (s : UInt32) : low 4 s.toUInt64 = Crc.tail s := by
  have h (i : Nat) (hi : i < 4) : (dn i s.toUInt64 % 256).toUInt8 = (s >>> UInt32.ofNat (8 * i)).toUInt8 := by
    rw [← UInt8.toNat_inj, byte, byte32 s i hi, UInt32.toNat_toUInt64]
  simp only [low, h 0, h 1, h 2, h 3, Nat.lt_add_one, Nat.reduceLT, List.nil_append, List.cons_append]
  have : s >>> UInt32.ofNat (8 * 0) = s := by rw [← UInt32.toNat_inj]; simp
  rw [this]; rfl
def two (c : UInt16) : List UInt8 := [c.toUInt8, (c >>> 8).toUInt8]
theorem low2 (c : UInt16) : low 2 c.toUInt64 = two c := by
  have h0 : (dn 0 c.toUInt64 % 256).toUInt8 = c.toUInt8 := by
    rw [← UInt8.toNat_inj, byte, UInt16.toNat_toUInt64, UInt16.toNat_toUInt8]; simp
  have h1 : (dn 1 c.toUInt64 % 256).toUInt8 = (c >>> 8).toUInt8 := by
    rw [← UInt8.toNat_inj, byte, UInt16.toNat_toUInt64, UInt16.toNat_toUInt8, UInt16.toNat_shiftRight, Nat.shiftRight_eq_div_pow]; simp
  simp only [low, h0, h1, List.nil_append, List.cons_append, two]
def num (l : List UInt8) : UInt64 := l.foldr (fun b n => n * 256 + b.toUInt64) 0
theorem num_drop (l : List UInt8) (k : Nat) (h : k < l.length) : num (l.drop k) = num (l.drop (k + 1)) * 256 + l[k].toUInt64 := by
  rw [List.drop_eq_getElem_cons h]; rfl
theorem num_two (x y : UInt8) : (num [x, y]).toUInt16 = x.toUInt16 ||| (y.toUInt16 <<< 8) := by
  simp only [num, List.foldr]
  rw [← UInt16.toNat_inj]
  simp
  have hx := x.toNat_lt
  have hy := y.toNat_lt
  rw [Nat.mod_eq_of_lt (a := y.toNat <<< 8) (by rw [Nat.shiftLeft_eq]; omega), Nat.or_comm, ← Nat.shiftLeft_add_eq_or_of_lt (by omega), Nat.shiftLeft_eq]
  omega
end Num
set_option maxRecDepth 100000 in
theorem low_any (n : UInt64) (s : Int) (w : World) (hs : s ≤ 8) :
    Calls Try.prog 99 #[.int .u64 (n64 n), .int .i64 s] w (Gives8 (Num.low s.toNat n) w) := by
  go_enter Try.func99, Try.ntmps99
  go_wp2_with fail
  go_loopw [0, 5, 6] (fun x v i wr => ∃ k : Nat, k ≤ s.toNat ∧ i = .int .i64 k ∧ x = .int .u64 (n64 (Num.dn k n)) ∧ Own8 w.heap.size wr v (Num.low k n) ∧ Below w.heap.size w wr) (fun _ _ i _ => s.toNat - (intOf i).toNat)
  case atStart => exact ⟨0, by omega, rfl, rfl, Own8.nil _ _, Below.refl _ _⟩
  case round =>
    obtain ⟨k, hk, rfl, rfl, hown, hb⟩ := hrel
    by_cases hlt : (k : Int) < s
    · have l1 := rem64
      have l2 := u64_u8
      have l3 := quo64
      have hll := Num.low_length k n
      go_wp2_with (first | (at_builtin; refine wpList_append8 (m := [(Num.dn k n % 256).toUInt8]) rfl (.tmp 12) (.tmp 16) rfl rfl (hown.gb ((Below.refl _ _).alloc (Nat.le_refl _) _)) rfl (Rd.alloc_new wr [b8 (Num.dn k n % 256).toUInt8] 5) (by simp [hll]; omega) (by have := hb.size; simp; omega) ?_))
      intro v' w1 hown1 hgr
      go_wp2_with fail
      go_roundw
      case rel => exact ⟨k + 1, by omega, by go_num, by show Value.int _ _ = _; rw [wrap64]; rfl, hown1, (hb.alloc (by have := hb.size; omega) _).grown hgr (by have := hb.size; simp; omega) (fun k hk => (hown.lt k hk).1)⟩
      case measure => simp [intOf]; omega
    · go_wp2_with fail
      go_ret
      obtain rfl : k = s.toNat := by omega
      exact ⟨_, rfl, hown, hb⟩

theorem number_any (a : Option Addr) (l : List UInt8) (c : Nat) (w : World) (hl : l.length ≤ maxLen) (hrd : Rd w a (l.map b8)) :
    Calls Try.prog 101 #[.slice a l.length c] w fun e w' => e = .returned (.int .u64 (n64 (Num.num l))) ∧ w = w' := by
  unfold maxLen at hl
  go_enter Try.func101, Try.ntmps101
  go_wp2_with fail
  go_loopw [3, 4] (fun x i wr => ∃ k : Nat, k ≤ l.length ∧ i = .int .i64 ((k : Int) - 1) ∧ x = .int .u64 (n64 (Num.num (l.drop k))) ∧ w = wr) (fun _ i _ => (intOf i + 1).toNat)
  case atStart => exact ⟨l.length, by omega, by go_num, by simp [Num.num]; rfl, rfl⟩
  case round =>
    obtain ⟨k, hk, rfl, rfl, rfl⟩ := hrel
    by_cases hlt : 0 < k
    · obtain ⟨j, rfl⟩ : ∃ j, k = j + 1 := ⟨k - 1, by omega⟩
      obtain ⟨ad, rfl, hcell⟩ := hrd j (by simp; omega)
      simp only [List.getElem_map, b8] at hcell
      have l1 := mul64
      have l2 := u8_u64
      have l3 := add64
      have e1 : ((j + 1 : Nat) : Int) - 1 = (j : Int) := by omega
      rw [e1]
      go_wp2_with fail
      go_roundw
      case rel => exact ⟨j, by omega, by go_num, by rw [wmul64, w8_64, wadd64, Num.num_drop l j (by omega)], trivial⟩
      case measure => simp [intOf]
    · obtain rfl : k = 0 := by omega
      go_wp2_with fail
      go_ret
      exact ⟨rfl, rfl⟩
set_option maxRecDepth 100000 in
theorem summed_any (a : Option Addr) (l : List UInt8) (c : Nat) (w : World) (hl : l.length ≤ 1000000) (hrd : Rd w a (l.map b8)) :
    Calls Try.prog 100 #[.slice a l.length c] w fun e w' => e = .returned (arr (summed l)) ∧ Below w.heap.size w w' := by
  go_enter Try.func100, Try.ntmps100
  go_wp2_with (first | with_reducible refine halt_alloc 37 ?_)
  refine L.alloc rfl zero37 (by rfl) ?_
  intro w1 hB1 hG1
  simp only [Act.put, List.setIfInBounds_toArray, List.set_cons_zero, List.set_cons_succ]
  go_wp2_with (first | with_reducible refine halt_alloc 37 ?_)
  refine L.alloc rfl zero37 (by rfl) ?_
  intro w2 hB2 hG2
  simp only [Act.put, List.setIfInBounds_toArray, List.set_cons_zero, List.set_cons_succ]
  go_wp2_with fail
  have hz := zeros_length 256
  have hB1' : Blk w2 w.heap.size 37 ((zeros 256).map b8) := hB1.gb hG2
  have hlt1 := hB1.lt
  have h01 := hG1.size
  have hb2 : Below w.heap.size w w2 := bgb hG1 hG2 h01
  have HZ := Lib.hid hz
  clear hz hB1
  go_loopw [4] (fun i wr => ∃ k : Nat, k ≤ l.length ∧ k ≤ 252 ∧ i = .int .i64 k ∧ Blk wr w.heap.size 37 ((zeros 256).map b8) ∧ Blk wr w1.heap.size 37 ((put (zeros 256) 4 (l.take k)).map b8) ∧ Below w.heap.size w wr) (fun i _ => l.length - (intOf i).toNat)
  case atStart => exact ⟨0, by omega, by omega, rfl, hB1', by rw [List.take_zero, put_nil]; exact hB2, hb2⟩
  case round =>
    obtain ⟨k, hk, hk2, rfl, hB0, hBk, hb⟩ := hrel
    have hfz := hBk.frozen (4 + k)
    have hpl : (put (zeros 256) 4 (l.take k)).length = 256 := by rw [put_length _ _ _ (by rw [HZ.out]; simp; omega)]; exact HZ.out
    by_cases hin : k < l.length ∧ k < 252
    · obtain ⟨hlt, hlt2⟩ := hin
      obtain ⟨x0, hcell⟩ := hBk.cell8 (4 + k) (by omega)
      obtain ⟨ad, rfl, hc⟩ := (hrd.below hb) k (by simpa using hlt)
      simp only [List.getElem_map, b8] at hc
      have HP := Lib.hid hpl
      clear hpl
      go_wp2_with fail
      go_roundw
      case rel => exact ⟨k + 1, by omega, by omega, by go_num, hB0.other (by omega) _ _, by rw [← put_set _ _ _ _ hlt (by rw [HZ.out]; omega)]; exact hBk.set8 _ _, hb.setCell (by show _ ≤ w1.heap.size; omega) _⟩
      case measure => simp [intOf]; omega
    · have hdrop : (put (zeros 256) 4 (l.take k)).drop 4 = pad 252 l := by
        rw [← put_zeros l 252 4]
        congr 2
        rcases Nat.lt_or_ge k l.length with h | h
        · rw [show k = 252 by omega]
        · rw [List.take_of_length_le h, List.take_of_length_le (by omega)]
      have hrd2 := hBk.rd8 4
      rw [hdrop] at hrd2
      have hpad := pad_length 252 l
      have hs1 : Calls Try.prog 22 #[.slice (some ⟨w1.heap.size, 4, none⟩) 252 252] wr fun e w' => e = .returned (.int .u32 (n32 (Crc.sum (pad 252 l)))) ∧ wr = w' := by
        have := rsum_any (some ⟨w1.heap.size, 4, none⟩) (pad 252 l) 252 wr (by rw [hpad]; unfold maxLen; omega) hrd2
        rwa [hpad] at this
      generalize hM : put (zeros 256) 4 (l.take k) = M at *
      have HD := Lib.hid hdrop
      clear hdrop hpad hrd2 hM
      have l1 := u32_u64
      rcases (show ((k : Int) < l.length ∧ ¬ (k : Int) < 252) ∨ ¬ (k : Int) < l.length by omega) with ⟨hx, hy⟩ | hx
      all_goals
        go_wp2_with fail
        refine hs1.mono ?_
        rintro e w3 ⟨rfl, rfl⟩
        go_wp2_with fail
        rw [w32_64]
        refine (low_any _ 4 _ (by omega)).mono ?_
        rintro e w3 ⟨v3, rfl, hown, hb3⟩
        have hlen := Num.low_length 4 (Crc.sum (pad 252 l)).toUInt64
        have hT := Num.low4 (Crc.sum (pad 252 l))
        change Own8 _ _ _ (Num.low 4 _) at hown
        obtain ⟨g3, c3, rfl, hg3, -, -, -⟩ := hown.head (by omega)
        have hrd3 := hown.rd.1
        have hg1 := hBk.lt
        have hB03 := hB0.gb hb3
        have hBk3 := hBk.gb hb3
        have hb03 := bgb hb hb3 hb.size
        generalize hTT : Num.low 4 (Crc.sum (pad 252 l)).toUInt64 = T at *
        rw [hlen]
        have HT := Lib.hid hT
        clear hT hTT hown
        go_wp2_with fail
        go_loopw [6] (fun i wx => ∃ j : Nat, j ≤ 4 ∧ i = .int .i64 j ∧ Blk wx w.heap.size 37 ((zeros 256).map b8) ∧ Blk wx w1.heap.size 37 ((put M 0 (T.take j)).map b8) ∧ Rd wx (some ⟨g3, 0, none⟩) (T.map b8) ∧ Below w.heap.size w wx) (fun i _ => 4 - (intOf i).toNat)
        case atStart => exact ⟨0, by omega, rfl, hB03, by rw [List.take_zero, put_nil]; exact hBk3, hrd3, hb03⟩
        case round =>
          obtain ⟨j, hj, rfl, hC0, hCk, hrdj, hbj⟩ := hrel
          by_cases hj4 : j < 4
          · obtain ⟨x0, hcell⟩ := hCk.cell8 j (by rw [put_length _ _ _ (by simp; omega)]; omega)
            have hfz := hCk.frozen j
            obtain ⟨ad, he, hc⟩ := hrdj j (by simp; omega)
            cases he
            rw [Addr.add_lit, Nat.zero_add] at hc
            simp only [List.getElem_map, b8] at hc
            have e1 := put_set M T 0 j (by omega) (by omega)
            rw [Nat.zero_add] at e1
            have E1 := Lib.hid e1
            clear e1
            go_wp2_with fail
            go_roundw
            case rel => exact ⟨j + 1, by omega, by go_num, hC0.other (by omega) _ _, by rw [← E1.out]; exact hCk.set8 _ _, hrdj.other (by show g3 ≠ _; omega) _ _, hbj.setCell (by show _ ≤ w1.heap.size; omega) _⟩
            case measure => simp [intOf]; omega
          · obtain rfl : j = 4 := by omega
            have hfin : put M 0 (T.take 4) = summed l := by
              rw [List.take_of_length_le (by omega), put_zero, hlen, HD.out, HT.out]; rfl
            rw [hfin] at hCk
            clear hfin
            have hsl := summed_length l
            have HS := Lib.hid hsl
            clear hsl
            go_wp2_with (first | with_reducible refine halt_load 37 ?_ | with_reducible refine halt_store 37 ?_)
            refine L.load rfl Try.underlying37 info37 (by rfl) hCk HS.out (by rfl) ?_
            simp only [Act.put, List.setIfInBounds_toArray, List.set_cons_zero, List.set_cons_succ]
            go_wp2_with (first | with_reducible refine halt_load 37 ?_ | with_reducible refine halt_store 37 ?_)
            refine L.store rfl info37 (by rfl) (by rfl) hC0 (by rw [List.length_map]; exact HZ.out) HS.out (by rfl) ?_
            intro w5 hB5 hG5
            simp only [Act.put]
            go_wp2_with fail
            refine ret_cell1 rfl (by rfl) Try.underlying37 info37 hB5 HS.out rfl ?_
            exact ⟨rfl, hbj.grown hG5 hbj.size (fun k hk => by simp at hk; omega)⟩
end Go.Proofs.Ytiihllfjlgbfcaa
