/- The walks of crc's rows with their sum: tail, Clone, Equal, Sealed, Open, and the reference's. -/
import Derived.Test.YtiihllfjlgbfcaaCrc
import Derived.Test.YtiihllfjlgbfcaaMem
import Derived.WalkSpells
namespace Go.Proofs.Ytiihllfjlgbfcaa
open Go.RowKit
namespace Crc
def tail (s : UInt32) : List UInt8 := [s.toUInt8, (s >>> 8).toUInt8, (s >>> 16).toUInt8, (s >>> 24).toUInt8]
def sealed (l : List UInt8) : List UInt8 := l ++ tail (sum l)
/-- Is a row bytes behind which their sum stands? -/
def opened (l : List UInt8) : Bool := decide (4 ≤ l.length) && l.drop (l.length - 4) == tail (sum (l.take (l.length - 4)))
/-- The bytes ahead of their sum. -/
def body (l : List UInt8) : List UInt8 := if opened l then l.take (l.length - 4) else []
theorem opened_short {l : List UInt8} (h : l.length < 4) : opened l = false := by
  have : decide (4 ≤ l.length) = false := by simp; omega
  simp [opened, this]
end Crc
/-- The call hands back bytes of its own, l, and leaves all old blocks as they were. -/
def Gives8 (l : List UInt8) (w : World) (e : Ending) (w' : World) : Prop := ∃ v, e = .returned v ∧ Own8 w.heap.size w' v l ∧ Below w.heap.size w w'

theorem tail_any (s : UInt32) (w : World) : Calls Try.prog 97 #[.int .u32 (n32 s)] w (Gives8 (Crc.tail s) w) := by
  have l1 := shr32_8
  have l2 := shr32_16
  have l3 := shr32_24
  have l4 := u32_u8
  go_enter Try.func97, Try.ntmps97
  go_wp2_with fail
  go_ret
  exact ⟨_, rfl, Own8.lit w (Crc.tail s) (by unfold maxLen; simp [Crc.tail]), (Below.refl _ _).alloc (Nat.le_refl _) _⟩
set_option maxRecDepth 100000 in
theorem clone8_any (a : Option Addr) (l : List UInt8) (c : Nat) (w : World) (hl : l.length ≤ 1099511627776) (hrd : Rd w a (l.map b8)) :
    Calls Try.prog 98 #[.slice a l.length c] w (Gives8 l w) := by
  have hn := fun w a n c => Lib.run_eql_slice_nil (P := Try.prog) w 22 5 a n c 0 0 Try.underlying22
  cases a with
  | none =>
    have : l = [] := by simpa using hrd.none
    subst this
    go_enter Try.func98, Try.ntmps98
    go_wp2_with fail
    go_ret
    exact ⟨_, rfl, Own8.nil _ _, Below.refl _ _⟩
  | some ad =>
    go_enter Try.func98, Try.ntmps98
    go_wp2_with (first
      | (at_builtin; refine wpList_append8 rfl (.tmp 5) (.tmp 6) rfl rfl (Own8.lit w [] (Nat.zero_le _)) rfl (hrd.below ((Below.refl _ _).alloc (Nat.le_refl _) _)) (by simp; omega) (by simp) ?_))
    intro v' w1 hown hgr
    go_wp2_with fail
    go_ret
    exact ⟨_, rfl, hown, ((Below.refl _ _).alloc (Nat.le_refl _) _).grown hgr (by simp) (fun k hk => by simp [Value.ownBlock] at hk; omega)⟩
/-- Two slices of bytes are compared. -/
theorem equal8_any (a b : Option Addr) (l m : List UInt8) (c d : Nat) (w : World) (hl : l.length ≤ maxLen) (hm : m.length ≤ maxLen) (ha : Rd w a (l.map b8)) (hb : Rd w b (m.map b8)) :
    Calls Try.prog 96 #[.slice a l.length c, .slice b m.length d] w fun e w' => e = .returned (.bool (l == m)) ∧ Below w.heap.size w w' := by
  unfold maxLen at hl hm
  by_cases hlen : l.length = m.length
  · have hlen' := Lib.hid hlen
    have hle : m.length ≤ l.length := by omega
    have hge : l.length ≤ m.length := by omega
    clear hlen
    go_enter Try.func96, Try.ntmps96
    have ht : ((l.length : Int) != (m.length : Int)) = false := by simp; omega
    go_wp2_with fail
    go_loopw [5, 13] (fun _ i wr => ∃ k : Nat, k ≤ l.length ∧ i = .int .i64 k ∧ Hid (l.take k = m.take k) ∧ Below w.heap.size w wr) (fun _ i _ => l.length - (intOf i).toNat)
    case atStart => exact ⟨0, by omega, rfl, by simp [Hid], Below.refl _ _⟩
    case round =>
      obtain ⟨k, hk, rfl, htk, hbel⟩ := hrel
      by_cases hlt : k < l.length
      · have hlt' : k < m.length := by omega
        obtain ⟨ada, rfl, hca⟩ := (ha.below hbel) k (by simpa using hlt)
        obtain ⟨adb, rfl, hcb⟩ := (hb.below hbel) k (by simpa using hlt')
        simp only [List.getElem_map, b8] at hca hcb
        have HA : ∀ u, GB wr.drew u → u.cell? (ada.add k) = some (.int .u8 (n8 l[k])) := fun u hu => hu.cell hca
        have HB : ∀ u, GB wr.drew u → u.cell? (adb.add k) = some (.int .u8 (n8 m[k])) := fun u hu => hu.cell hcb
        have tk1 := List.take_succ_eq_append_getElem hlt
        have tk2 := List.take_succ_eq_append_getElem hlt'
        have T1 := Lib.hid tk1
        have T2 := Lib.hid tk2
        clear tk1 tk2
        by_cases hne : l[k] = m[k]
        · have hq : (n8 l[k] != n8 m[k]) = false := by simp [hne]
          have HE := Lib.hid hne
          clear hne
          go_wp2_with fail
          refine region_gb [(0,0),(1,0),(2,0),(3,0),(4,0),(5,0),(6,0),(7,0),(8,0)] [] (by kernel_rfl) ?_
          repeat (refine S0w (v := ?_) (by rfl) (by rfl) (fun u hu N hN => ?_) ?_; rotate_left; (go_simp; exact hN); simp only [Act.put, List.setIfInBounds_toArray, List.set_cons_zero, List.set_cons_succ])
          refine S.done ?_
          go_wp2_with fail
          go_roundw
          case rel => exact ⟨k + 1, by omega, by go_num, by show _ = _; rw [T1.out, T2.out, htk.out, HE.out], hbel.drew⟩
          case measure => simp [intOf]; omega
        · have hq : (n8 l[k] != n8 m[k]) = true := by rw [bne_iff_ne]; exact fun h => hne (n8_inj h)
          have hlm : (l == m) = false := by
            rw [beq_eq_false_iff_ne]; rintro rfl; exact hne rfl
          go_wp2_with fail
          refine region_gb [(0,0),(1,0),(2,0),(3,0),(4,0),(5,0),(6,0),(7,0),(8,0)] [] (by kernel_rfl) ?_
          repeat (refine S0w (v := ?_) (by rfl) (by rfl) (fun u hu N hN => ?_) ?_; rotate_left; (go_simp; exact hN); simp only [Act.put, List.setIfInBounds_toArray, List.set_cons_zero, List.set_cons_succ])
          refine S.done ?_
          go_wp2_with fail
          go_ret
          exact ⟨by rw [hlm]; rfl, hbel.drew⟩
      · have hlm : (l == m) = true := by
          have h1 := htk.out
          rw [List.take_of_length_le (by omega), List.take_of_length_le (by omega)] at h1
          rw [beq_iff_eq]; exact h1
        go_wp2_with fail
        go_ret
        exact ⟨by rw [hlm]; rfl, hbel⟩
  · have ht : ((l.length : Int) != (m.length : Int)) = true := by rw [bne_iff_ne]; omega
    have hlm : (l == m) = false := by
      rw [beq_eq_false_iff_ne]; rintro rfl; exact hlen rfl
    go_enter Try.func96, Try.ntmps96
    go_wp2_with fail
    go_ret
    exact ⟨by rw [hlm]; rfl, Below.refl _ _⟩

theorem sealed_any (a : Option Addr) (l : List UInt8) (c : Nat) (w : World) (hl : l.length ≤ 1000000) (hrd : Rd w a (l.map b8)) :
    Calls Try.prog 29 #[.slice a l.length c] w (Gives8 (Crc.sealed l) w) := by
  go_enter Try.func29, Try.ntmps29
  go_wp2_with fail
  refine (clone8_any _ _ _ _ (by omega) hrd).mono ?_
  rintro e w1 ⟨v1, rfl, hown1, hb1⟩
  go_wp2_with fail
  refine (sum_any _ _ _ _ (by unfold maxLen; omega) (hrd.below hb1)).mono ?_
  rintro e w2 ⟨rfl, hb2⟩
  go_wp2_with fail
  refine (tail_any _ _).mono ?_
  rintro e w3 ⟨v3, rfl, hown3, hb3⟩
  have g : GB w1 w3 := GB.trans _ _ _ hb2 hb3
  have hb : Below w.heap.size w w3 := bgb hb1 g hb1.size
  have hown1' := Own8.gb hown1 g
  obtain ⟨a3, c3, rfl, hrd3, -, -, -, -⟩ := hown3.shape
  have hlt := hown1'.lt
  have ht : (Crc.tail (Crc.sum l)).length = 4 := rfl
  go_wp2_with (first
    | (at_builtin; refine wpList_append8 rfl (.tmp 4) (.tmp 7) rfl rfl hown1' rfl hrd3 (by omega) hb.size ?_))
  intro v' w4 hown hgr
  go_wp2_with fail
  go_ret
  exact ⟨_, rfl, hown, hb.grown hgr hb.size (fun k hk => (hlt k hk).1)⟩

set_option maxRecDepth 100000 in
theorem rsealed_any (a : Option Addr) (l : List UInt8) (c : Nat) (w : World) (hl : l.length ≤ 1000000) (hrd : Rd w a (l.map b8)) :
    Calls Try.prog 30 #[.slice a l.length c] w (Gives8 (Crc.sealed l) w) := by
  have l1 := shr32_8
  have l2 := shr32_16
  have l3 := shr32_24
  have l4 := u32_u8
  have l5 := mod8
  have l6 := tmod256
  go_enter Try.func30, Try.ntmps30
  go_wp2_with fail
  refine (rsum_any _ _ _ _ (by unfold maxLen; omega) hrd).mono ?_
  rintro e w1 ⟨rfl, rfl⟩
  go_wp2_with (first
    | (at_builtin; refine wpList_append8 rfl (.const (.slice none 0 0)) (.tmp 7) rfl rfl (Own8.nil w.heap.size w) rfl hrd (by simp; omega) (Nat.le_refl _) ?_))
  intro v' w1 hown hgr
  have hb : Below w.heap.size w w1 := (Below.refl _ _).grown hgr (Nat.le_refl _) (fun k hk => by simp [Value.ownBlock] at hk)
  have hs := n32_range (Crc.sum l)
  have hs8 := n32_range (Crc.sum l >>> 8)
  have hs16 := n32_range (Crc.sum l >>> 16)
  have hrd3 := (Own8.lit w1 (Crc.tail (Crc.sum l)) (by unfold maxLen; simp [Crc.tail])).rd.1
  have hown1 : Own8 w.heap.size (w1.alloc (.cells ((Crc.tail (Crc.sum l)).map b8).toArray 5)) v' l := Own8.gb hown ((Below.refl _ _).alloc (Nat.le_refl _) _)
  have HR := Lib.hid hrd3
  have HO := Lib.hid hown1
  clear hrd3 hown1 hown
  go_wp2_with (first
    | (at_builtin; refine wpList_append8 (m := Crc.tail (Crc.sum l)) rfl (.tmp 9) (.tmp 24) rfl rfl HO.out rfl HR.out (by have : (Crc.tail (Crc.sum l)).length = 4 := rfl; omega) (by have := hb.size; simp; omega) ?_))
  intro v2 w2 hown2 hgr2
  have hlt := HO.out.lt
  go_wp2_with fail
  go_ret
  exact ⟨_, rfl, hown2, (hb.alloc hb.size _).grown hgr2 (by have := hb.size; simp; omega) (fun k hk => (hlt k hk).1)⟩

/-- The call hands back own bytes m and a Bool. -/
def Gives8b (m : List UInt8) (b : Bool) (w : World) (e : Ending) (w' : World) : Prop := ∃ v, e = .returned (.tuple #[v, .bool b]) ∧ Own8 w.heap.size w' v m ∧ Below w.heap.size w w'
theorem open_short (a : Option Addr) (l : List UInt8) (c : Nat) (w : World) (hs : l.length < 4) :
    Calls Try.prog 27 #[.slice a l.length c] w (Gives8b (Crc.body l) (Crc.opened l) w) := by
  rw [Crc.body, Crc.opened_short hs]
  have hd : decide ((l.length : Int) - 4 < 0) = true := by simp; omega
  go_enter Try.func27, Try.ntmps27
  go_wp2_with fail
  refine region_gb [(0,0),(1,0),(2,0),(3,0),(4,0),(5,0),(6,0),(7,0),(8,0),(9,0),(10,1),(11,1),(12,1),(13,0),(14,0)] [] (by kernel_rfl) ?_
  repeat (first | (refine S0w (v := ?_) (by rfl) (by rfl) (fun u hu N hN => ?_) ?_; rotate_left; (go_simp; exact hN); simp only [Act.put, List.setIfInBounds_toArray, List.set_cons_zero, List.set_cons_succ]) | (refine S0n (by rfl) (by rfl) ?_; simp only [Act.put, List.setIfInBounds_toArray, List.set_cons_zero, List.set_cons_succ]) | (refine S1n GB.refl (by rfl) (by rfl) ?_; simp only [Act.put, List.setIfInBounds_toArray, List.set_cons_zero, List.set_cons_succ]))
  refine S.done ?_
  go_wp2_with fail
  go_ret2
  exact ⟨_, rfl, Own8.nil _ _, (Below.refl _ _).drew⟩
theorem open_long (a : Option Addr) (l : List UInt8) (c : Nat) (w : World) (h4 : 4 ≤ l.length) (hl : l.length ≤ 1000000) (hc : l.length ≤ c) (hrd : Rd w a (l.map b8)) :
    Calls Try.prog 27 #[.slice a l.length c] w (Gives8b (Crc.body l) (Crc.opened l) w) := by
  obtain ⟨n, hn⟩ : ∃ n, n = l.length - 4 := ⟨_, rfl⟩
  have hn4 : l.length - n = 4 := by omega
  have hn4' : n ≤ l.length := by omega
  have hx : (l.length : Int) - 4 = (n : Int) := by omega
  have hd : decide ((n : Int) < 0) = false := by simp
  have c1 := cut8_from a l.length c n .i64 n rfl (by omega)
  have c2 := cut8_full a l.length c n .i64 .i64 n rfl (by omega)
  have hrd1 : Rd w.drew a ((l.take n).map b8) := by rw [List.map_take]; exact Rd.take (GB.rd (GB.drew w) hrd) n
  have hrd2 : Rd w.drew (cutAt a n c 1) ((l.drop n).map b8) := by
    have := Rd.cut (GB.rd (GB.drew w) hrd) n c 1 (by simp; omega)
    rw [List.map_drop]; simpa using this
  have hlt : (l.take n).length = n := by rw [List.length_take]; omega
  have hld : (l.drop n).length = l.length - n := List.length_drop
  have H1 := sum_any a (l.take n) n w.drew (by unfold maxLen; omega) hrd1
  rw [hlt] at H1
  have H2 := fun u (hu : GB w.drew u) ad (d : Nat) (hm : Rd u ad ((Crc.tail (Crc.sum (l.take n))).map b8)) => equal8_any (cutAt a n c 1) ad (l.drop n) (Crc.tail (Crc.sum (l.take n))) (c - n) d u (by unfold maxLen; omega) (by unfold maxLen; simp [Crc.tail]) (GB.rd hu hrd2) hm
  rw [hld] at H2
  have ho : Crc.opened l = (l.drop n == Crc.tail (Crc.sum (l.take n))) := by
    unfold Crc.opened; rw [← hn]; simp [h4]
  have hbody : Crc.body l = if Crc.opened l then l.take n else [] := by rw [Crc.body, ← hn]
  have HB := Lib.hid hbody
  have HH := Lib.hid ho
  have HX := Lib.hid hn
  have HL := Lib.hid hlt
  clear ho hbody hn hlt hld hn4
  go_enter Try.func27, Try.ntmps27
  go_wp2_with fail
  refine region_gb [(0,0),(1,0),(2,0),(3,0),(4,0),(5,0),(6,0),(7,0),(8,0),(9,0),(10,1),(11,1),(12,1),(13,0),(14,0)] [] (by kernel_rfl) ?_
  repeat (first | (refine S0w (v := ?_) (by rfl) (by rfl) (fun u hu N hN => ?_) ?_; rotate_left; (go_simp; exact hN); simp only [Act.put, List.setIfInBounds_toArray, List.set_cons_zero, List.set_cons_succ]) | (refine S0n (by rfl) (by rfl) ?_; simp only [Act.put, List.setIfInBounds_toArray, List.set_cons_zero, List.set_cons_succ]) | (refine S1n GB.refl (by rfl) (by rfl) ?_; simp only [Act.put, List.setIfInBounds_toArray, List.set_cons_zero, List.set_cons_succ]))
  refine S1 (by rfl) (by rfl) (fun K hK => ?_)
  go_wp2_with fail
  refine H1.mono ?_
  rintro e w1 ⟨rfl, hb1⟩
  refine hK _ _ hb1 ?_
  clear hK K
  repeat (first | (refine S0w (v := ?_) (by rfl) (by rfl) (fun u hu N hN => ?_) ?_; rotate_left; (go_simp; exact hN); simp only [Act.put, List.setIfInBounds_toArray, List.set_cons_zero, List.set_cons_succ]) | (refine S0n (by rfl) (by rfl) ?_; simp only [Act.put, List.setIfInBounds_toArray, List.set_cons_zero, List.set_cons_succ]) | (refine S1n GB.refl (by rfl) (by rfl) ?_; simp only [Act.put, List.setIfInBounds_toArray, List.set_cons_zero, List.set_cons_succ]))
  refine S1 (by rfl) (by rfl) (fun K hK => ?_)
  go_wp2_with fail
  refine (tail_any _ _).mono ?_
  rintro e w2 ⟨v2, rfl, hown2, hb2⟩
  refine hK _ _ hb2 ?_
  clear hK K
  obtain ⟨a2, d2, rfl, hrd3, -, -, -, -⟩ := hown2.shape
  repeat (first | (refine S0w (v := ?_) (by rfl) (by rfl) (fun u hu N hN => ?_) ?_; rotate_left; (go_simp; exact hN); simp only [Act.put, List.setIfInBounds_toArray, List.set_cons_zero, List.set_cons_succ]) | (refine S0n (by rfl) (by rfl) ?_; simp only [Act.put, List.setIfInBounds_toArray, List.set_cons_zero, List.set_cons_succ]) | (refine S1n GB.refl (by rfl) (by rfl) ?_; simp only [Act.put, List.setIfInBounds_toArray, List.set_cons_zero, List.set_cons_succ]))
  refine S1 (by rfl) (by rfl) (fun K hK => ?_)
  go_wp2_with fail
  refine (H2 w2 (GB.trans _ _ _ hb1 hb2) a2 d2 hrd3).mono ?_
  rintro e w3 ⟨rfl, hb3⟩
  refine hK _ _ hb3 ?_
  clear hK K
  cases hq : (l.drop n == Crc.tail (Crc.sum (l.take n))) with
  | true =>
    repeat (first | (refine S0w (v := ?_) (by rfl) (by rfl) (fun u hu N hN => ?_) ?_; rotate_left; (go_simp; exact hN); simp only [Act.put, List.setIfInBounds_toArray, List.set_cons_zero, List.set_cons_succ]) | (refine S0n (by rfl) (by rfl) ?_; simp only [Act.put, List.setIfInBounds_toArray, List.set_cons_zero, List.set_cons_succ]) | (refine S1n GB.refl (by rfl) (by rfl) ?_; simp only [Act.put, List.setIfInBounds_toArray, List.set_cons_zero, List.set_cons_succ]))
    refine S.done ?_
    have g3 : GB w.drew w3 := GB.trans _ _ _ (GB.trans _ _ _ hb1 hb2) hb3
    have H4 := clone8_any a (l.take n) n w3 (by rw [HL.out]; omega) (GB.rd g3 hrd1)
    rw [HL.out] at H4
    go_wp2_with fail
    refine H4.mono ?_
    rintro e w4 ⟨v4, rfl, hown4, hb4⟩
    go_wp2_with fail
    go_ret2
    have ho : Crc.opened l = true := HH.out.trans hq
    have hb : Below w.heap.size w w3 := GB.trans _ _ _ (GB.drew w) g3
    exact ⟨_, by rw [ho]; rfl, by rw [HB.out, ho]; exact hown4.mono hb.size, bgb hb hb4 hb.size⟩
  | false =>
    repeat (first | (refine S0w (v := ?_) (by rfl) (by rfl) (fun u hu N hN => ?_) ?_; rotate_left; (go_simp; exact hN); simp only [Act.put, List.setIfInBounds_toArray, List.set_cons_zero, List.set_cons_succ]) | (refine S0n (by rfl) (by rfl) ?_; simp only [Act.put, List.setIfInBounds_toArray, List.set_cons_zero, List.set_cons_succ]) | (refine S1n GB.refl (by rfl) (by rfl) ?_; simp only [Act.put, List.setIfInBounds_toArray, List.set_cons_zero, List.set_cons_succ]))
    refine S.done ?_
    have g3 : GB w.drew w3 := GB.trans _ _ _ (GB.trans _ _ _ hb1 hb2) hb3
    go_wp2_with fail
    go_ret2
    have ho : Crc.opened l = false := HH.out.trans hq
    have hb : Below w.heap.size w w3 := GB.trans _ _ _ (GB.drew w) g3
    exact ⟨_, by rw [ho]; rfl, by rw [HB.out, ho]; exact Own8.nil _ _, hb⟩
theorem open_any (a : Option Addr) (l : List UInt8) (c : Nat) (w : World) (hl : l.length ≤ 1000000) (hc : l.length ≤ c) (hrd : Rd w a (l.map b8)) :
    Calls Try.prog 27 #[.slice a l.length c] w (Gives8b (Crc.body l) (Crc.opened l) w) := by
  by_cases h : l.length < 4
  · exact open_short a l c w h
  · exact open_long a l c w (by omega) hl hc hrd

/-- The reference's answer lies in its argument's memory. -/
def GivesRd (m : List UInt8) (b : Bool) (w : World) (e : Ending) (w' : World) : Prop := ∃ a c, e = .returned (.tuple #[.slice a m.length c, .bool b]) ∧ Rd w' a (m.map b8) ∧ Below w.heap.size w w'
theorem Crc.opened_eq {l : List UInt8} (h : 4 ≤ l.length) : Crc.opened l = (Crc.sealed (l.take (l.length - 4)) == l) := by
  unfold Crc.opened Crc.sealed
  simp only [h, decide_true, Bool.true_and]
  rw [Bool.eq_iff_iff, beq_iff_eq, beq_iff_eq]
  constructor
  · intro e
    conv => rhs; rw [← List.take_append_drop (l.length - 4) l]
    rw [e]
  · intro e
    conv at e => rhs; rw [← List.take_append_drop (l.length - 4) l]
    exact (List.append_cancel_left e).symm
theorem ropen_short (a : Option Addr) (l : List UInt8) (c : Nat) (w : World) (hs : l.length < 4) :
    Calls Try.prog 28 #[.slice a l.length c] w (GivesRd (Crc.body l) (Crc.opened l) w) := by
  rw [Crc.body, Crc.opened_short hs]
  have hd : decide ((l.length : Int) < 4) = true := by simp; omega
  go_enter Try.func28, Try.ntmps28
  go_wp2_with fail
  refine region_gb [(0,0),(1,0),(2,0),(3,0),(4,0),(5,0),(6,0),(7,0),(8,0),(11,0),(12,0),(9,1),(10,0),(13,0),(14,0)] [] (by kernel_rfl) ?_
  repeat (first | (refine S0w (v := ?_) (by rfl) (by rfl) (fun u hu N hN => ?_) ?_; rotate_left; (go_simp; exact hN); simp only [Act.put, List.setIfInBounds_toArray, List.set_cons_zero, List.set_cons_succ]) | (refine S0n (by rfl) (by rfl) ?_; simp only [Act.put, List.setIfInBounds_toArray, List.set_cons_zero, List.set_cons_succ]) | (refine S1n GB.refl (by rfl) (by rfl) ?_; simp only [Act.put, List.setIfInBounds_toArray, List.set_cons_zero, List.set_cons_succ]))
  refine S.done ?_
  go_wp2_with fail
  go_ret2
  exact ⟨none, 0, rfl, Rd.nil _ _, (Below.refl _ _).drew⟩
theorem ropen_long (a : Option Addr) (l : List UInt8) (c : Nat) (w : World) (h4 : 4 ≤ l.length) (hl : l.length ≤ 1000000) (hc : l.length ≤ c) (hrd : Rd w a (l.map b8)) :
    Calls Try.prog 28 #[.slice a l.length c] w (GivesRd (Crc.body l) (Crc.opened l) w) := by
  obtain ⟨n, hn⟩ : ∃ n, n = l.length - 4 := ⟨_, rfl⟩
  have hn4' : n ≤ l.length := by omega
  have hx : (l.length : Int) - 4 = (n : Int) := by omega
  have hd : decide ((l.length : Int) < 4) = false := by simp; omega
  have hwn : IntKind.i64.wrap (n : Int) = n := IntWalk.i64_in _ (by omega)
  have c1 := cut8_to a l.length c n .i64 n rfl (by omega)
  have hrd0 := GB.rd (GB.drew w) hrd
  have hrd1 : Rd w.drew a ((l.take n).map b8) := by rw [List.map_take]; exact Rd.take hrd0 n
  have hlt : (l.take n).length = n := by rw [List.length_take]; omega
  have H1 := rsealed_any a (l.take n) c w.drew (by omega) hrd1
  rw [hlt] at H1
  have ho := Crc.opened_eq h4
  rw [← hn] at ho
  have hbody : Crc.body l = if Crc.opened l then l.take n else [] := by rw [Crc.body, ← hn]
  have HB := Lib.hid hbody
  have HH := Lib.hid ho
  have HL := Lib.hid hlt
  have hbs := bs_toList
  have e1 : ∀ u, GB w.drew u → (convert 22 9 (.slice a l.length c)).run Try.prog u = .ok (.string (bs l)) u := fun u hu => bytes_string a l c (GB.rd hu hrd0)
  clear ho hbody hn hlt
  go_enter Try.func28, Try.ntmps28
  go_wp2_with fail
  refine region_gb [(0,0),(1,0),(2,0),(3,0),(4,0),(5,0),(6,0),(7,0),(8,0),(11,0),(12,0),(9,1),(10,0),(13,0),(14,0)] [] (by kernel_rfl) ?_
  repeat (first | (refine S0w (v := ?_) (by rfl) (by rfl) (fun u hu N hN => ?_) ?_; rotate_left; (go_simp; exact hN); simp only [Act.put, List.setIfInBounds_toArray, List.set_cons_zero, List.set_cons_succ]) | (refine S0n (by rfl) (by rfl) ?_; simp only [Act.put, List.setIfInBounds_toArray, List.set_cons_zero, List.set_cons_succ]) | (refine S1n GB.refl (by rfl) (by rfl) ?_; simp only [Act.put, List.setIfInBounds_toArray, List.set_cons_zero, List.set_cons_succ]))
  refine S1 (by rfl) (by rfl) (fun K hK => ?_)
  go_wp2_with fail
  refine H1.mono ?_
  rintro e w1 ⟨v1, rfl, hown1, hb1⟩
  refine hK _ _ hb1 ?_
  clear hK K
  obtain ⟨a1, d1, rfl, hrd3, -, -, -, -⟩ := hown1.shape
  have e2 : ∀ u, GB w1 u → (convert 22 9 (.slice a1 (Crc.sealed (l.take n)).length d1)).run Try.prog u = .ok (.string (bs (Crc.sealed (l.take n)))) u := fun u hu => bytes_string _ _ _ (GB.rd hu hrd3)
  cases hq : (Crc.sealed (l.take n) == l) with
  | true =>
    have hq' : (Crc.sealed (l.take n) != l) = false := by simp only [bne, hq]; rfl
    repeat (first | (refine S0w (v := ?_) (by rfl) (by rfl) (fun u hu N hN => ?_) ?_; rotate_left; (go_simp; exact hN); simp only [Act.put, List.setIfInBounds_toArray, List.set_cons_zero, List.set_cons_succ]) | (refine S0n (by rfl) (by rfl) ?_; simp only [Act.put, List.setIfInBounds_toArray, List.set_cons_zero, List.set_cons_succ]) | (refine S1n GB.refl (by rfl) (by rfl) ?_; simp only [Act.put, List.setIfInBounds_toArray, List.set_cons_zero, List.set_cons_succ]))
    refine S.done ?_
    go_wp2_with fail
    go_ret2
    have ho : Crc.opened l = true := HH.out.trans hq
    refine ⟨a, c, ?_, ?_, GB.trans _ _ _ (GB.drew w) hb1⟩
    · rw [HB.out, ho, if_pos rfl, HL.out]; rfl
    · rw [HB.out, ho, if_pos rfl]; exact GB.rd hb1 hrd1
  | false =>
    have hq' : (Crc.sealed (l.take n) != l) = true := by simp only [bne, hq]; rfl
    repeat (first | (refine S0w (v := ?_) (by rfl) (by rfl) (fun u hu N hN => ?_) ?_; rotate_left; (go_simp; exact hN); simp only [Act.put, List.setIfInBounds_toArray, List.set_cons_zero, List.set_cons_succ]) | (refine S0n (by rfl) (by rfl) ?_; simp only [Act.put, List.setIfInBounds_toArray, List.set_cons_zero, List.set_cons_succ]) | (refine S1n GB.refl (by rfl) (by rfl) ?_; simp only [Act.put, List.setIfInBounds_toArray, List.set_cons_zero, List.set_cons_succ]))
    refine S.done ?_
    go_wp2_with fail
    go_ret2
    have ho : Crc.opened l = false := HH.out.trans hq
    refine ⟨none, 0, ?_, ?_, GB.trans _ _ _ (GB.drew w) hb1⟩
    · rw [HB.out, ho]; rfl
    · rw [HB.out, ho]; exact Rd.nil _ _
theorem ropen_any (a : Option Addr) (l : List UInt8) (c : Nat) (w : World) (hl : l.length ≤ 1000000) (hc : l.length ≤ c) (hrd : Rd w a (l.map b8)) :
    Calls Try.prog 28 #[.slice a l.length c] w (GivesRd (Crc.body l) (Crc.opened l) w) := by
  by_cases h : l.length < 4
  · exact ropen_short a l c w h
  · exact ropen_long a l c w (by omega) hl hc hrd
end Go.Proofs.Ytiihllfjlgbfcaa
