/- The walk of the law CrcSeals. -/
import Derived.Test.YtiihllfjlgbfcaaCrc2
import Derived.Test.YtiihllfjlgbfcaaCrcLaw1
namespace Go.Proofs.Ytiihllfjlgbfcaa
open Go.RowKit

theorem crcSeals_big (a : Option Addr) (l : List UInt8) (c : Nat) (b : Option Addr) (m : List UInt8) (d : Nat) (w : World) (h : 5000 < l.length ∨ 5000 < m.length) :
    Calls Try.prog 4 #[.slice a l.length c, .slice b m.length d] w fun e w' => e = .returned (.bool true) ∧ Below w.heap.size w w' := by
  by_cases h1 : 5000 < l.length
  · go_enter Try.func4, Try.ntmps4
    go_wp2_with (go_at_call 20; refine (known_any _).mono ?_; rintro e w' ⟨rfl, hb⟩)
    go_ret
    exact ⟨rfl, hb⟩
  · have h2 : 5000 < m.length := h.resolve_left h1
    go_enter Try.func4, Try.ntmps4
    go_wp2_with (go_at_call 20; refine (known_any _).mono ?_; rintro e w' ⟨rfl, hb⟩)
    go_ret
    exact ⟨rfl, hb⟩
theorem crcSeals_walk (a : Option Addr) (l : List UInt8) (c : Nat) (b : Option Addr) (m : List UInt8) (d : Nat) (w : World) (hdm : m.length ≤ d) (hra : Rd w a (l.map b8)) (hrb : Rd w b (m.map b8)) :
    Calls Try.prog 4 #[.slice a l.length c, .slice b m.length d] w fun e w' => e = .returned (.bool true) ∧ Below w.heap.size w w' := by
  by_cases hbig : 5000 < l.length ∨ 5000 < m.length
  · exact crcSeals_big a l c b m d w hbig
  have hl : l.length ≤ 5000 := by omega
  have hm : m.length ≤ 5000 := by omega
  have hbs := bs_toList
  go_enter Try.func4, Try.ntmps4
  go_wp2_with fail
  refine (open_any b m d w (by omega) hdm hrb).mono ?_
  rintro e w1 ⟨v1, rfl, hown1, hb1⟩
  go_wp2_with fail
  refine (ropen_any b m d w1 (by omega) hdm (hrb.below hb1)).mono ?_
  rintro e w2 ⟨a2, c2, rfl, hrd2, hb2⟩
  obtain ⟨a1, c1, rfl, hrd1, -, -, -, -⟩ := hown1.shape
  have g2 : GB w w2 := GB.trans _ _ _ hb1 hb2
  have HA := Lib.hid (fun u (hu : GB w2 u) => GB.rd (GB.trans _ _ _ g2 hu) hra)
  have H1 := Lib.hid (fun u (hu : GB w2 u) => GB.rd (GB.trans _ _ _ hb2 hu) hrd1)
  have H2 := Lib.hid (fun u (hu : GB w2 u) => GB.rd hu hrd2)
  generalize Crc.opened m = o at *
  generalize Crc.body m = y at *
  clear hrd1 hrd2 hown1 hra hrb
  go_wp2_with fail
  refine region_gb [(0,0),(3,0),(1,1),(2,0),(4,1),(5,0),(6,0),(7,0),(8,0),(9,0),(10,0),(11,0),(12,0),(13,0),(14,0),(15,0),(16,0),(17,0),(18,0),(19,0),(20,1),(21,0),(22,0)] [] (by kernel_rfl) ?_
  repeat (first | (refine S0w (v := ?_) (by rfl) (by rfl) (fun u hu N hN => ?_) ?_; rotate_left; (go_simp; exact hN); simp only [Act.put, List.setIfInBounds_toArray, List.set_cons_zero, List.set_cons_succ]) | (refine S0n (by rfl) (by rfl) ?_; simp only [Act.put, List.setIfInBounds_toArray, List.set_cons_zero, List.set_cons_succ]) | (refine S1n GB.refl (by rfl) (by rfl) ?_; simp only [Act.put, List.setIfInBounds_toArray, List.set_cons_zero, List.set_cons_succ]))
  refine S1 (by rfl) (by rfl) (fun K hK => ?_)
  go_wp2_with fail
  refine (sealed_any a l c _ (by omega) (HA.out _ (GB.drew _))).mono ?_
  rintro e w3 ⟨v3, rfl, hown3, hb3⟩
  refine hK _ _ hb3 ?_
  clear hK K
  have g3 : GB w2 w3 := GB.trans _ _ _ (GB.drew w2) hb3
  obtain ⟨a3, c3, rfl, hrd3, -, -, -, -⟩ := hown3.shape
  have e3 : ∀ u, GB w3 u → (convert 22 9 (.slice a3 (Crc.sealed l).length c3)).run Try.prog u = .ok (.string (bs (Crc.sealed l))) u := fun u hu => bytes_string _ _ _ (GB.rd hu hrd3)
  repeat (first | (refine S0w (v := ?_) (by rfl) (by rfl) (fun u hu N hN => ?_) ?_; rotate_left; (go_simp; exact hN); simp only [Act.put, List.setIfInBounds_toArray, List.set_cons_zero, List.set_cons_succ]) | (refine S0n (by rfl) (by rfl) ?_; simp only [Act.put, List.setIfInBounds_toArray, List.set_cons_zero, List.set_cons_succ]) | (refine S1n GB.refl (by rfl) (by rfl) ?_; simp only [Act.put, List.setIfInBounds_toArray, List.set_cons_zero, List.set_cons_succ]))
  refine S1 (by rfl) (by rfl) (fun K hK => ?_)
  go_wp2_with fail
  refine (rsealed_any a l c _ (by omega) (HA.out _ g3)).mono ?_
  rintro e w4 ⟨v4, rfl, hown4, hb4⟩
  refine hK _ _ hb4 ?_
  clear hK K
  have g4 : GB w2 w4 := GB.trans _ _ _ g3 hb4
  obtain ⟨a4, c4, rfl, hrd4, -, -, -, -⟩ := hown4.shape
  have e4 : ∀ u, GB w4 u → (convert 22 9 (.slice a4 (Crc.sealed l).length c4)).run Try.prog u = .ok (.string (bs (Crc.sealed l))) u := fun u hu => bytes_string _ _ _ (GB.rd hu hrd4)
  have e5 : ∀ u, GB w4 u → (convert 22 9 (.slice a1 y.length c1)).run Try.prog u = .ok (.string (bs y)) u := fun u hu => bytes_string _ _ _ (H1.out _ (GB.trans _ _ _ g4 hu))
  have e6 : ∀ u, GB w4 u → (convert 22 9 (.slice a2 y.length c2)).run Try.prog u = .ok (.string (bs y)) u := fun u hu => bytes_string _ _ _ (H2.out _ (GB.trans _ _ _ g4 hu))
  repeat (first | (refine S0w (v := ?_) (by rfl) (by rfl) (fun u hu N hN => ?_) ?_; rotate_left; (go_simp; exact hN); simp only [Act.put, List.setIfInBounds_toArray, List.set_cons_zero, List.set_cons_succ]) | (refine S0n (by rfl) (by rfl) ?_; simp only [Act.put, List.setIfInBounds_toArray, List.set_cons_zero, List.set_cons_succ]) | (refine S1n GB.refl (by rfl) (by rfl) ?_; simp only [Act.put, List.setIfInBounds_toArray, List.set_cons_zero, List.set_cons_succ]))
  refine S1 (by rfl) (by rfl) (fun K hK => ?_)
  go_wp2_with fail
  refine (known_any _).mono ?_
  rintro e w5 ⟨rfl, hb5⟩
  refine hK _ _ hb5 ?_
  clear hK K
  repeat (first | (refine S0w (v := ?_) (by rfl) (by rfl) (fun u hu N hN => ?_) ?_; rotate_left; (go_simp; exact hN); simp only [Act.put, List.setIfInBounds_toArray, List.set_cons_zero, List.set_cons_succ]) | (refine S0n (by rfl) (by rfl) ?_; simp only [Act.put, List.setIfInBounds_toArray, List.set_cons_zero, List.set_cons_succ]) | (refine S1n GB.refl (by rfl) (by rfl) ?_; simp only [Act.put, List.setIfInBounds_toArray, List.set_cons_zero, List.set_cons_succ]))
  refine S.done ?_
  go_wp2_with fail
  go_ret
  exact ⟨rfl, GB.trans _ _ _ g2 (GB.trans _ _ _ g4 hb5)⟩
end Go.Proofs.Ytiihllfjlgbfcaa
