/- The walk of the law CrcMeans. -/
import Derived.Test.YtiihllfjlgbfcaaCrc2
import Derived.Test.YtiihllfjlgbfcaaCrcFn2
import Derived.Test.YtiihllfjlgbfcaaCrcLaw1
namespace Go.Proofs.Ytiihllfjlgbfcaa
open Go.RowKit

theorem nth_shift (bits : UInt32) (k : Nat) (hk : k < 4) : n32 bits / (2 : Int) ^ (8 * k) % (256 : Int) = n8 (Crc.nth bits k) := by
  rw [shr32 bits (8 * k) (by omega), u32_u8]; rfl
theorem Crc.tail_eq (s : UInt32) : Crc.tail s = [Crc.nth s 0, Crc.nth s 1, Crc.nth s 2, Crc.nth s 3] := by
  have h0 : s >>> UInt32.ofNat (8 * 0) = s := by
    apply UInt32.toNat_inj.1
    rw [UInt32.toNat_shiftRight]; rfl
  unfold Crc.tail Crc.nth
  rw [h0]; rfl
theorem Crc.tail_inj {a b : UInt32} (h : Crc.tail a = Crc.tail b) : a = b := by
  rw [Crc.tail_eq, Crc.tail_eq] at h
  simp only [List.cons.injEq, and_true] at h
  obtain ⟨h0, h1, h2, h3⟩ := h
  refine Crc.bytes_inj fun k hk => ?_
  rcases (show k = 0 ∨ k = 1 ∨ k = 2 ∨ k = 3 by omega) with rfl | rfl | rfl | rfl
  · exact h0
  · exact h1
  · exact h2
  · exact h3
theorem opened_flip (L : List UInt8) (p : Nat) (bits : UInt32) (hb : bits ≠ 0) (hp : p + 4 ≤ L.length) :
    Crc.opened (Crc.flip (Crc.sealed L) p bits 4) = false ∧ Crc.sum ((Crc.flip (Crc.sealed L) p bits 4).take L.length) ≠ Crc.sum L := by
  obtain ⟨P, c0, c1, c2, c3, q, rfl, rfl⟩ := Crc.split_at L p hp
  have hq : Crc.sealed (P ++ [c0, c1, c2, c3] ++ q) = P ++ [c0, c1, c2, c3] ++ (q ++ Crc.tail (Crc.sum (P ++ [c0, c1, c2, c3] ++ q))) := by
    simp [Crc.sealed]
  have hne := Crc.sum_flip_ne bits hb P q c0 c1 c2 c3
  rw [hq, Crc.flip_four]
  generalize hs : Crc.sum (P ++ [c0, c1, c2, c3] ++ q) = s at *
  have e1 : P ++ [c0 ^^^ Crc.nth bits 0, c1 ^^^ Crc.nth bits 1, c2 ^^^ Crc.nth bits 2, c3 ^^^ Crc.nth bits 3] ++ (q ++ Crc.tail s) =
      (P ++ [c0 ^^^ Crc.nth bits 0, c1 ^^^ Crc.nth bits 1, c2 ^^^ Crc.nth bits 2, c3 ^^^ Crc.nth bits 3] ++ q) ++ Crc.tail s := by simp
  rw [e1]
  generalize hX : P ++ [c0 ^^^ Crc.nth bits 0, c1 ^^^ Crc.nth bits 1, c2 ^^^ Crc.nth bits 2, c3 ^^^ Crc.nth bits 3] ++ q = X at *
  have hlen : (P ++ [c0, c1, c2, c3] ++ q).length = X.length := by rw [← hX]; simp
  rw [hlen]
  have ht : (X ++ Crc.tail s).take X.length = X := List.take_left
  refine ⟨?_, by rw [ht]; exact hne⟩
  have h4 : (X ++ Crc.tail s).length - 4 = X.length := by simp [Crc.tail]
  unfold Crc.opened
  rw [h4, ht, List.drop_left]
  have : (Crc.tail s == Crc.tail (Crc.sum X)) = false := by
    rw [beq_eq_false_iff_ne]
    exact fun h => hne (Crc.tail_inj h).symm
  simp [this]
theorem crcMeans_walk (a : Option Addr) (l : List UInt8) (c : Nat) (b : Option Addr) (m : List UInt8) (d : Nat) (i : Int) (bits : UInt32) (w : World) (hra : Rd w a (l.map b8)) (hrb : Rd w b (m.map b8)) :
    Calls Try.prog 5 #[.slice a l.length c, .slice b m.length d, .int .i64 i, .int .u32 (n32 bits)] w fun e w' => e = .returned (.bool true) ∧ Below w.heap.size w w' := by
  go_enter Try.func5, Try.ntmps5
  go_wp2_with fail
  refine (known_any _).mono ?_
  rintro e w1 ⟨rfl, hb1⟩
  by_cases hbig : 3000 < l.length
  · go_wp2_with fail
    go_ret
    exact ⟨rfl, hb1⟩
  by_cases hbig' : 3000 < m.length
  · go_wp2_with fail
    go_ret
    exact ⟨rfl, hb1⟩
  have hra1 := hra.below hb1
  have hrb1 := hrb.below hb1
  go_wp2_with (first
    | (at_builtin; refine wpList_append8 rfl (.const (.slice none 0 0)) (.tmp 24) rfl rfl (Own8.nil w1.heap.size w1) rfl hra1 (by simp; omega) (Nat.le_refl _) ?_))
  intro v2 w2 hown2 hgr2
  have hb2 : Below w1.heap.size w1 w2 := (Below.refl _ _).grown hgr2 (Nat.le_refl _) (fun k hk => by simp [Value.ownBlock] at hk)
  have hlt2 := hown2.lt
  go_wp2_with (first
    | (at_builtin; refine wpList_append8 rfl (.tmp 25) (.tmp 26) rfl rfl hown2 rfl (hrb1.below hb2) (by omega) hb2.size ?_))
  intro v3 w3 hown3 hgr3
  have hb3 : Below w1.heap.size w1 w3 := hb2.grown hgr3 hb2.size (fun k hk => (hlt2 k hk).1)
  have hra3 := Lib.hid (hra1.below hb3)
  have hrb3 := Lib.hid (hrb1.below hb3)
  have hlen : (l ++ m).length ≤ 6000 := by simp; omega
  have hsum := Crc.sum_append l m
  generalize hL : l ++ m = L at *
  have HL := Lib.hid hL
  have HS := Lib.hid hsum
  clear hL hsum hown2 hgr2 hgr3 hlt2
  obtain ⟨a3, c3, rfl, hrd3, hc3, -, -, -⟩ := hown3.shape
  have hR3 := Lib.hid hrd3
  clear hrd3 hown3 hra1 hrb1 hra hrb
  have ht1 : (n32 (Crc.sum L) != n32 (Crc.add (Crc.sum l) m)) = false := by rw [HS.out]; simp
  have ht2 : (n32 (Crc.add 0 m) != n32 (Crc.sum m)) = false := by rw [Crc.sum]; simp
  go_wp2_with fail
  refine (sum_any a3 L c3 _ (by unfold maxLen; omega) hR3.out).mono ?_
  rintro e w4 ⟨rfl, hb4⟩
  go_wp2_with fail
  refine (sum_any a l c _ (by unfold maxLen; omega) (hra3.out.below hb4)).mono ?_
  rintro e w5 ⟨rfl, hb5⟩
  have g5 : GB w3 w5 := GB.trans _ _ _ hb4 hb5
  go_wp2_with fail
  refine (add_any _ b m d _ (by unfold maxLen; omega) (GB.rd g5 hrb3.out)).mono ?_
  rintro e w6 ⟨rfl, hb6⟩
  have g6 : GB w3 w6 := GB.trans _ _ _ g5 hb6
  go_wp2_with fail
  refine (add_any 0 b m d _ (by unfold maxLen; omega) (GB.rd g6 hrb3.out)).mono ?_
  rintro e w7 ⟨rfl, hb7⟩
  have g7 : GB w3 w7 := GB.trans _ _ _ g6 hb7
  go_wp2_with fail
  refine (sum_any b m d _ (by unfold maxLen; omega) (GB.rd g7 hrb3.out)).mono ?_
  rintro e w8 ⟨rfl, hb8⟩
  have g8 : GB w3 w8 := GB.trans _ _ _ g7 hb8
  have hB8 : Below w.heap.size w w8 := bgb (hb1.trans (hb3.mono hb1.size)) g8 (by have := hb1.size; have := hb3.size; omega)
  by_cases hi0 : i < 0
  · go_wp2_with fail
    go_ret
    exact ⟨rfl, hB8⟩
  obtain ⟨p, rfl⟩ := Int.eq_ofNat_of_zero_le (show 0 ≤ i by omega)
  by_cases hi1 : (L.length : Int) - 4 < p
  · go_wp2_with fail
    go_ret
    exact ⟨rfl, hB8⟩
  by_cases hbz : bits = 0
  · have hz : (n32 bits == 0) = true := by rw [hbz]; rfl
    clear hbz
    go_wp2_with fail
    go_ret
    exact ⟨rfl, hB8⟩
  have hz : (n32 bits == 0) = false := by
    rw [beq_eq_false_iff_ne]; exact fun h => hbz (n32_inj (b := 0) h)
  go_wp2_with fail
  refine (sealed_any a3 L c3 _ (by omega) (GB.rd g8 hR3.out)).mono ?_
  rintro e w9 ⟨v9, rfl, hown9, hb9⟩
  have hlS : (Crc.sealed L).length = L.length + 4 := by simp [Crc.sealed, Crc.tail]
  obtain ⟨g, c9, rfl, hg, hgs, hc9, hc9m⟩ := hown9.head (by omega)
  go_wp2_with fail
  go_loopw [11] (fun x wr => ∃ k : Nat, k ≤ 4 ∧ x = .int .i64 k ∧ Own8 w8.heap.size wr (.slice (some ⟨g, 0, none⟩) (Crc.sealed L).length c9) (Crc.flip (Crc.sealed L) p bits k) ∧ Below w8.heap.size w8 wr) (fun x _ => 4 - (intOf x).toNat)
  case atStart => exact ⟨0, by omega, rfl, hown9, hb9⟩
  case round =>
    obtain ⟨k, hk, rfl, hown, hbel⟩ := hrel
    by_cases hlt : k < 4
    · have hfl := Crc.flip_length (Crc.sealed L) p bits k
      obtain ⟨hcell, hfr⟩ := hown.cell hfl.symm (p + k) (by omega)
      have l1 := xor8
      have l2 := u32_u8
      have l3 := nth_shift bits k hlt
      go_wp2_with fail
      go_roundw
      case rel => exact ⟨k + 1, by omega, by go_num, hown.set hfl.symm _ _, hbel.setCell hg _⟩
      case measure => simp [intOf]; omega
    · obtain rfl : k = 4 := by omega
      have hfl := Crc.flip_length (Crc.sealed L) p bits 4
      have hcore := opened_flip L p bits hbz (by omega)
      generalize Crc.flip (Crc.sealed L) p bits 4 = F at *
      rw [← hfl] at hown
      have hR := hown.rd.1
      have HF := Lib.hid hfl
      rw [← hfl] at hc9
      have H1 := open_any (some ⟨g, 0, none⟩) F c9 wr (by omega) hc9 hR
      rw [hfl, hlS] at H1
      have HR := Lib.hid hR
      clear hown hR hown9
      go_wp2_with fail
      refine H1.mono ?_
      rintro e w10 ⟨v10, rfl, hown10, hb10⟩
      rw [hcore.1]
      have HC := Lib.hid hcore.2
      clear hcore hown10
      have g10 : GB w3 w10 := GB.trans _ _ _ g8 (bgb hbel hb10 hbel.size)
      have c1 := cut8_to (some ⟨g, 0, none⟩) (L.length + 4) c9 L.length .i64 L.length rfl (by omega)
      have htl : (F.take L.length).length = L.length := by rw [List.length_take]; omega
      have hRt : Rd w10 (some ⟨g, 0, none⟩) ((F.take L.length).map b8) := by rw [List.map_take]; exact Rd.take (HR.out.below hb10) _
      have H2 := sum_any (some ⟨g, 0, none⟩) (F.take L.length) c9 w10 (by unfold maxLen; omega) hRt
      rw [htl] at H2
      have hq : (n32 (Crc.sum (F.take L.length)) != n32 (Crc.sum L)) = true := by rw [bne_iff_ne]; exact fun h => HC.out (n32_inj h)
      clear htl hRt hfl
      go_wp2_with fail
      refine H2.mono ?_
      rintro e w11 ⟨rfl, hb11⟩
      have g11 : GB w3 w11 := GB.trans _ _ _ g10 hb11
      go_wp2_with fail
      refine (sum_any a3 L c3 _ (by unfold maxLen; omega) (GB.rd g11 hR3.out)).mono ?_
      rintro e w12 ⟨rfl, hb12⟩
      go_wp2_with fail
      go_ret
      exact ⟨rfl, bgb (hb1.trans (hb3.mono hb1.size)) (GB.trans _ _ _ g11 hb12) (by have := hb1.size; have := hb3.size; omega)⟩
end Go.Proofs.Ytiihllfjlgbfcaa
