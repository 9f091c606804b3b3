/- Nodes: May, in the program and in the reference; slices of 64-bit numbers compared and cloned. -/
import Derived.Test.YtiihllfjlgbfcaaPSame
namespace Go.Proofs.Ytiihllfjlgbfcaa
open Go.RowKit
def nodeV (kind : Int) (birth : UInt64) (ka : Option Addr) (kn kc : Nat) (va : Option Addr) (vn vc : Nat) : Value := .agg #[.int .i64 kind, .int .u64 (n64 birth), .slice ka kn kc, .slice va vn vc]
def rises : List UInt64 → Bool
  | [] => true
  | [_] => true
  | a :: b :: l => decide (a < b) && rises (b :: l)
theorem rises_snoc : ∀ (l : List UInt64) (a b : UInt64), rises (l ++ [a, b]) = (rises (l ++ [a]) && decide (a < b))
  | [], a, b => by simp [rises]
  | [x], a, b => by simp [rises]
  | x :: y :: l, a, b => by
    have := rises_snoc (y :: l) a b
    simp only [List.cons_append] at this ⊢
    simp only [rises, this, Bool.and_assoc]
theorem rises_take (l : List UInt64) (k : Nat) (h : k + 1 < l.length) : rises (l.take (k + 2)) = (rises (l.take (k + 1)) && decide (l[k] < l[k + 1])) := by
  rw [List.take_succ_eq_append_getElem (i := k + 1) h, List.take_succ_eq_append_getElem (i := k) (by omega), List.append_assoc]
  exact rises_snoc _ _ _
theorem rises_false (l : List UInt64) (k : Nat) (h : rises (l.take k) = false) : rises l = false := by
  induction h' : l.length - k generalizing k with
  | zero => rwa [List.take_of_length_le (by omega)] at h
  | succ m ih =>
    refine ih (k + 1) ?_ (by omega)
    match k with
    | 0 => simp [rises] at h
    | 1 =>
      cases l with
      | nil => simp [rises] at h
      | cons a l => simp [rises] at h
    | k + 2 =>
      rw [rises_take l (k + 1) (by omega), h]; rfl
def mayN (kind : Int) (keys : List UInt64) (vn : Nat) : Bool := decide (1 ≤ kind) && decide (kind ≤ 3) && decide (keys.length ≤ 6) && (vn == keys.length) && rises keys
theorem le64 (a b : UInt64) : decide (n64 a ≤ n64 b) = !decide (b < a) := by
  have h : (b < a) ↔ ¬ n64 a ≤ n64 b := by unfold n64; rw [UInt64.lt_iff_toNat_lt]; omega
  by_cases hx : b < a
  · simp [hx, h.1 hx]
  · have : n64 a ≤ n64 b := Classical.byContradiction fun hn => hx (h.2 hn)
    simp [hx, this]
theorem lt64 (a b : UInt64) : decide (n64 a < n64 b) = decide (a < b) := by
  have h : (a < b) ↔ n64 a < n64 b := by unfold n64; rw [UInt64.lt_iff_toNat_lt]; omega
  simp [h]
set_option maxRecDepth 100000 in
theorem may_any (kind : Int) (birth : UInt64) (ka : Option Addr) (keys : List UInt64) (kc : Nat) (va : Option Addr) (vn vc : Nat) (w : World) (hl : keys.length ≤ maxLen) (hrd : Rd w ka (keys.map b64)) :
    Calls Try.prog 64 #[nodeV kind birth ka keys.length kc va vn vc] w fun e w' => e = .returned (.bool (mayN kind keys vn)) ∧ Below w.heap.size w w' := by
  unfold nodeV maxLen at *
  have hg : ∀ o, GB w (w.alloc o) := fun o => (Below.refl _ _).alloc (Nat.le_refl _) o
  by_cases hbad : kind < 1 ∨ 3 < kind ∨ 6 < keys.length ∨ vn ≠ keys.length
  · have hm : mayN kind keys vn = false := by
      unfold mayN
      rcases hbad with h | h | h | h
      · rw [show decide (1 ≤ kind) = false by simp; omega]; rfl
      · rw [show decide (kind ≤ 3) = false by simp; omega]; simp
      · rw [show decide (keys.length ≤ 6) = false by simp; omega]; simp
      · rw [show (vn == keys.length) = false by simpa using h]; simp
    rw [hm]
    have hcs : kind < 1 ∨ (¬ kind < 1 ∧ 3 < kind) ∨ (¬ kind < 1 ∧ ¬ 3 < kind ∧ 6 < (keys.length : Int)) ∨ (¬ kind < 1 ∧ ¬ 3 < kind ∧ ¬ 6 < (keys.length : Int) ∧ ((vn : Int) != (keys.length : Int)) = true) := by
      by_cases h4 : vn = keys.length
      · omega
      · have : ((vn : Int) != (keys.length : Int)) = true := by rw [bne_iff_ne]; omega
        by_cases h1 : kind < 1
        · exact .inl h1
        · by_cases h2 : 3 < kind
          · exact .inr (.inl ⟨h1, h2⟩)
          · by_cases h3 : 6 < (keys.length : Int)
            · exact .inr (.inr (.inl ⟨h1, h2, h3⟩))
            · exact .inr (.inr (.inr ⟨h1, h2, h3, this⟩))
    clear hm
    rcases hcs with h1 | ⟨h1, h2⟩ | ⟨h1, h2, h3⟩ | ⟨h1, h2, h3, h4⟩
    all_goals
      go_enter Try.func64, Try.ntmps64
      go_wp2_with fail
      go_ret
      exact ⟨rfl, hg _⟩
  · have h1 : ¬ kind < 1 := by omega
    have h2 : ¬ 3 < kind := by omega
    have h3 : ¬ 6 < (keys.length : Int) := by omega
    have h4 : ((vn : Int) != (keys.length : Int)) = false := by simp; omega
    have hm : mayN kind keys vn = rises keys := by
      unfold mayN
      rw [show decide (1 ≤ kind) = true by simp; omega, show decide (kind ≤ 3) = true by simp; omega, show decide (keys.length ≤ 6) = true by simp; omega, show (vn == keys.length) = true by simp; omega]; rfl
    rw [hm]
    clear hm
    have hbl := Blk.new w [.int .i64 kind, .int .u64 (n64 birth), .slice ka keys.length kc, .slice va vn vc] 95
    have hg1 := hg (.cells #[.int .i64 kind, .int .u64 (n64 birth), .slice ka keys.length kc, .slice va vn vc] 95)
    go_enter Try.func64, Try.ntmps64
    go_wp2_with fail
    change Blk (w.alloc (.cells #[.int .i64 kind, .int .u64 (n64 birth), .slice ka keys.length kc, .slice va vn vc] 95)) _ _ _ at hbl
    generalize w.alloc (.cells #[.int .i64 kind, .int .u64 (n64 birth), .slice ka keys.length kc, .slice va vn vc] 95) = w1 at *
    go_loopw [3] (fun x wr => ∃ m : Nat, x = .int .i64 m ∧ 1 ≤ m ∧ (m = 1 ∨ m ≤ keys.length) ∧ rises (keys.take m) = true ∧ GB w1 wr) (fun x _ => keys.length - (intOf x).toNat)
    case atStart => exact ⟨1, rfl, by omega, by omega, by cases keys <;> simp [rises], GB.refl _⟩
    case round =>
      obtain ⟨m, rfl, hm1, hk, hr, hb⟩ := hrel
      have hB := hbl.gb hb
      have hc2 := hB.cell 2
      by_cases hlt : m < keys.length
      · obtain ⟨k, hkm⟩ : ∃ k, m = k + 1 := ⟨m - 1, by omega⟩
        have hk' : k < keys.length := by omega
        obtain ⟨ad, rfl, hc⟩ := ((hrd.below hg1).below hb) k (by simpa using hk')
        obtain ⟨ad', he, hc'⟩ := ((hrd.below hg1).below hb) m (by simpa using hlt)
        cases he
        simp only [List.getElem_map, b64] at hc hc'
        have C0 : ∀ u, GB wr.drew u → u.cell? (ad.add k) = some (.int .u64 (n64 keys[k])) := fun u hu => hu.cell hc
        have C1 : ∀ u, GB wr.drew u → u.cell? (ad.add m) = some (.int .u64 (n64 keys[m])) := fun u hu => hu.cell hc'
        have C2 : ∀ u, GB wr.drew u → u.cell? ⟨w.heap.size, 2, none⟩ = some (.slice (some ad) keys.length kc) := fun u hu => hu.cell (hc2.trans rfl)
        have e1 : IntKind.i64.wrap ((m : Int) - 1) = k := by rw [wrapi _ (by omega) (by omega)]; omega
        have hT : Hid (rises (keys.take (m + 1)) = (rises (keys.take m) && decide (keys[k] < keys[m]))) := by
          subst hkm; exact Lib.hid (rises_take keys k hlt)
        have hR := Lib.hid hr
        have HK := Lib.hid hkm
        clear hr hkm
        by_cases hq0 : keys[k] < keys[m]
        · have hq : decide (n64 keys[m] ≤ n64 keys[k]) = false := by rw [le64]; simp [hq0]
          have HQ := Lib.hid hq0
          clear hq0
          go_wp2_with fail
          refine region_gb [(0,0),(1,0),(2,0),(3,0),(4,0),(5,0),(6,0),(7,0),(8,0),(9,0),(10,0),(11,0)] [] (by kernel_rfl) ?_
          repeat (refine S0w (v := ?_) (by rfl) (by rfl) (fun u hu N hN => ?_) ?_; rotate_left; (go_simp; exact hN); simp only [Act.put, List.setIfInBounds_toArray, List.set_cons_zero, List.set_cons_succ])
          refine S.done ?_
          go_wp2_with fail
          go_roundw
          case rel => exact ⟨m + 1, by go_num, by omega, by omega, by rw [hT.out, hR.out]; simp [HQ.out], GB.trans _ _ _ hb (GB.drew _)⟩
          case measure => simp [intOf]; omega
        · have hq : decide (n64 keys[m] ≤ n64 keys[k]) = true := by rw [le64]; simp [hq0]
          have hf : rises keys = false := rises_false keys (m + 1) (by rw [hT.out]; simp [hq0])
          have HF := Lib.hid hf
          clear hq0 hf
          go_wp2_with fail
          refine region_gb [(0,0),(1,0),(2,0),(3,0),(4,0),(5,0),(6,0),(7,0),(8,0),(9,0),(10,0),(11,0)] [] (by kernel_rfl) ?_
          repeat (refine S0w (v := ?_) (by rfl) (by rfl) (fun u hu N hN => ?_) ?_; rotate_left; (go_simp; exact hN); simp only [Act.put, List.setIfInBounds_toArray, List.set_cons_zero, List.set_cons_succ])
          refine S.done ?_
          go_wp2_with fail
          go_ret
          exact ⟨by rw [HF.out]; rfl, bgb hg1 (GB.trans _ _ _ hb (GB.drew _)) hg1.size⟩
      · rw [List.take_of_length_le (by omega)] at hr
        have HR := Lib.hid hr
        clear hr
        go_wp2_with fail
        go_ret
        exact ⟨by rw [HR.out]; rfl, bgb hg1 hb hg1.size⟩
set_option maxRecDepth 100000 in
theorem rmay_any (kind : Int) (birth : UInt64) (ka : Option Addr) (keys : List UInt64) (kc : Nat) (va : Option Addr) (vn vc : Nat) (w : World) (hl : keys.length ≤ maxLen) (hrd : Rd w ka (keys.map b64)) :
    Calls Try.prog 65 #[nodeV kind birth ka keys.length kc va vn vc] w fun e w' => e = .returned (.bool (mayN kind keys vn)) ∧ Below w.heap.size w w' := by
  unfold nodeV maxLen at *
  have hg : ∀ o, GB w (w.alloc o) := fun o => (Below.refl _ _).alloc (Nat.le_refl _) o
  by_cases hbad : kind < 1 ∨ 3 < kind ∨ 6 < keys.length ∨ vn ≠ keys.length
  · have hm : mayN kind keys vn = false := by
      unfold mayN
      rcases hbad with h | h | h | h
      · rw [show decide (1 ≤ kind) = false by simp; omega]; rfl
      · rw [show decide (kind ≤ 3) = false by simp; omega]; simp
      · rw [show decide (keys.length ≤ 6) = false by simp; omega]; simp
      · rw [show (vn == keys.length) = false by simpa using h]; simp
    rw [hm]
    have hcs : kind < 1 ∨ (¬ kind < 1 ∧ 3 < kind) ∨ (¬ kind < 1 ∧ ¬ 3 < kind ∧ 6 < (keys.length : Int)) ∨ (¬ kind < 1 ∧ ¬ 3 < kind ∧ ¬ 6 < (keys.length : Int) ∧ ((vn : Int) != (keys.length : Int)) = true) := by
      by_cases h4 : vn = keys.length
      · omega
      · have : ((vn : Int) != (keys.length : Int)) = true := by rw [bne_iff_ne]; omega
        by_cases h1 : kind < 1
        · exact .inl h1
        · by_cases h2 : 3 < kind
          · exact .inr (.inl ⟨h1, h2⟩)
          · by_cases h3 : 6 < (keys.length : Int)
            · exact .inr (.inr (.inl ⟨h1, h2, h3⟩))
            · exact .inr (.inr (.inr ⟨h1, h2, h3, this⟩))
    clear hm
    rcases hcs with h1 | ⟨h1, h2⟩ | ⟨h1, h2, h3⟩ | ⟨h1, h2, h3, h4⟩
    all_goals
      go_enter Try.func65, Try.ntmps65
      go_wp2_with fail
      go_ret
      exact ⟨rfl, hg _⟩
  · have h1 : ¬ kind < 1 := by omega
    have h2 : ¬ 3 < kind := by omega
    have h3 : ¬ 6 < (keys.length : Int) := by omega
    have h4 : ((vn : Int) != (keys.length : Int)) = false := by simp; omega
    have hm : mayN kind keys vn = rises keys := by
      unfold mayN
      rw [show decide (1 ≤ kind) = true by simp; omega, show decide (kind ≤ 3) = true by simp; omega, show decide (keys.length ≤ 6) = true by simp; omega, show (vn == keys.length) = true by simp; omega]; rfl
    rw [hm]
    clear hm
    have hbl := Blk.new w [.int .i64 kind, .int .u64 (n64 birth), .slice ka keys.length kc, .slice va vn vc] 95
    have hg1 := hg (.cells #[.int .i64 kind, .int .u64 (n64 birth), .slice ka keys.length kc, .slice va vn vc] 95)
    go_enter Try.func65, Try.ntmps65
    go_wp2_with fail
    change Blk (w.alloc (.cells #[.int .i64 kind, .int .u64 (n64 birth), .slice ka keys.length kc, .slice va vn vc] 95)) _ _ _ at hbl
    generalize w.alloc (.cells #[.int .i64 kind, .int .u64 (n64 birth), .slice ka keys.length kc, .slice va vn vc] 95) = w1 at *
    go_loopw [3] (fun x wr => ∃ m : Nat, x = .int .i64 m ∧ 1 ≤ m ∧ (m = 1 ∨ m ≤ keys.length) ∧ rises (keys.take m) = true ∧ GB w1 wr) (fun x _ => keys.length - (intOf x).toNat)
    case atStart => exact ⟨1, rfl, by omega, by omega, by cases keys <;> simp [rises], GB.refl _⟩
    case round =>
      obtain ⟨m, rfl, hm1, hk, hr, hb⟩ := hrel
      have hB := hbl.gb hb
      have hc2 := hB.cell 2
      by_cases hlt : m < keys.length
      · obtain ⟨k, hkm⟩ : ∃ k, m = k + 1 := ⟨m - 1, by omega⟩
        have hk' : k < keys.length := by omega
        obtain ⟨ad, rfl, hc⟩ := ((hrd.below hg1).below hb) k (by simpa using hk')
        obtain ⟨ad', he, hc'⟩ := ((hrd.below hg1).below hb) m (by simpa using hlt)
        cases he
        simp only [List.getElem_map, b64] at hc hc'
        have C0 : ∀ u, GB wr.drew u → u.cell? (ad.add k) = some (.int .u64 (n64 keys[k])) := fun u hu => hu.cell hc
        have C1 : ∀ u, GB wr.drew u → u.cell? (ad.add m) = some (.int .u64 (n64 keys[m])) := fun u hu => hu.cell hc'
        have C2 : ∀ u, GB wr.drew u → u.cell? ⟨w.heap.size, 2, none⟩ = some (.slice (some ad) keys.length kc) := fun u hu => hu.cell (hc2.trans rfl)
        have e1 : IntKind.i64.wrap ((m : Int) - 1) = k := by rw [wrapi _ (by omega) (by omega)]; omega
        have hT : Hid (rises (keys.take (m + 1)) = (rises (keys.take m) && decide (keys[k] < keys[m]))) := by
          subst hkm; exact Lib.hid (rises_take keys k hlt)
        have hR := Lib.hid hr
        have HK := Lib.hid hkm
        clear hr hkm
        by_cases hq0 : keys[k] < keys[m]
        · have hq : decide (n64 keys[m] ≤ n64 keys[k]) = false := by rw [le64]; simp [hq0]
          have HQ := Lib.hid hq0
          clear hq0
          go_wp2_with fail
          refine region_gb [(0,0),(1,0),(2,0),(3,0),(4,0),(5,0),(6,0),(7,0),(8,0),(9,0),(10,0),(11,0)] [] (by kernel_rfl) ?_
          repeat (refine S0w (v := ?_) (by rfl) (by rfl) (fun u hu N hN => ?_) ?_; rotate_left; (go_simp; exact hN); simp only [Act.put, List.setIfInBounds_toArray, List.set_cons_zero, List.set_cons_succ])
          refine S.done ?_
          go_wp2_with fail
          go_roundw
          case rel => exact ⟨m + 1, by go_num, by omega, by omega, by rw [hT.out, hR.out]; simp [HQ.out], GB.trans _ _ _ hb (GB.drew _)⟩
          case measure => simp [intOf]; omega
        · have hq : decide (n64 keys[m] ≤ n64 keys[k]) = true := by rw [le64]; simp [hq0]
          have hf : rises keys = false := rises_false keys (m + 1) (by rw [hT.out]; simp [hq0])
          have HF := Lib.hid hf
          clear hq0 hf
          go_wp2_with fail
          refine region_gb [(0,0),(1,0),(2,0),(3,0),(4,0),(5,0),(6,0),(7,0),(8,0),(9,0),(10,0),(11,0)] [] (by kernel_rfl) ?_
          repeat (refine S0w (v := ?_) (by rfl) (by rfl) (fun u hu N hN => ?_) ?_; rotate_left; (go_simp; exact hN); simp only [Act.put, List.setIfInBounds_toArray, List.set_cons_zero, List.set_cons_succ])
          refine S.done ?_
          go_wp2_with fail
          go_ret
          exact ⟨by rw [HF.out]; rfl, bgb hg1 (GB.trans _ _ _ hb (GB.drew _)) hg1.size⟩
      · rw [List.take_of_length_le (by omega)] at hr
        have HR := Lib.hid hr
        clear hr
        go_wp2_with fail
        go_ret
        exact ⟨by rw [HR.out]; rfl, bgb hg1 hb hg1.size⟩
/-- Two slices of 64-bit numbers are compared. -/
theorem equal64_any (a b : Option Addr) (l m : List UInt64) (c d : Nat) (w : World) (hl : l.length ≤ maxLen) (hm : m.length ≤ maxLen) (ha : Rd w a (l.map b64)) (hb : Rd w b (m.map b64)) :
    Calls Try.prog 121 #[.slice a l.length c, .slice b m.length d] w fun e w' => e = .returned (.bool (l == m)) ∧ Below w.heap.size w w' := by
  unfold maxLen at hl hm
  by_cases hlen : l.length = m.length
  · have hlen' := Lib.hid hlen
    have hle : m.length ≤ l.length := by omega
    have hge : l.length ≤ m.length := by omega
    clear hlen
    go_enter Try.func121, Try.ntmps121
    have ht : ((l.length : Int) != (m.length : Int)) = false := by simp; omega
    go_wp2_with fail
    go_loopw [5, 13] (fun _ i wr => ∃ k : Nat, k ≤ l.length ∧ i = .int .i64 k ∧ Hid (l.take k = m.take k) ∧ Below w.heap.size w wr) (fun _ i _ => l.length - (intOf i).toNat)
    case atStart => exact ⟨0, by omega, rfl, by simp [Hid], Below.refl _ _⟩
    case round =>
      obtain ⟨k, hk, rfl, htk, hbel⟩ := hrel
      by_cases hlt : k < l.length
      · have hlt' : k < m.length := by omega
        obtain ⟨ada, rfl, hca⟩ := (ha.below hbel) k (by simpa using hlt)
        obtain ⟨adb, rfl, hcb⟩ := (hb.below hbel) k (by simpa using hlt')
        simp only [List.getElem_map, b64] at hca hcb
        have HA : ∀ u, GB wr.drew u → u.cell? (ada.add k) = some (.int .u64 (n64 l[k])) := fun u hu => hu.cell hca
        have HB : ∀ u, GB wr.drew u → u.cell? (adb.add k) = some (.int .u64 (n64 m[k])) := fun u hu => hu.cell hcb
        have tk1 := List.take_succ_eq_append_getElem hlt
        have tk2 := List.take_succ_eq_append_getElem hlt'
        have T1 := Lib.hid tk1
        have T2 := Lib.hid tk2
        clear tk1 tk2
        by_cases hne : l[k] = m[k]
        · have hq : (n64 l[k] != n64 m[k]) = false := by simp [hne]
          have HE := Lib.hid hne
          clear hne
          go_wp2_with fail
          refine region_gb [(0,0),(1,0),(2,0),(3,0),(4,0),(5,0),(6,0),(7,0),(8,0)] [] (by kernel_rfl) ?_
          repeat (refine S0w (v := ?_) (by rfl) (by rfl) (fun u hu N hN => ?_) ?_; rotate_left; (go_simp; exact hN); simp only [Act.put, List.setIfInBounds_toArray, List.set_cons_zero, List.set_cons_succ])
          refine S.done ?_
          go_wp2_with fail
          go_roundw
          case rel => exact ⟨k + 1, by omega, by go_num, by show _ = _; rw [T1.out, T2.out, htk.out, HE.out], hbel.drew⟩
          case measure => simp [intOf]; omega
        · have hq : (n64 l[k] != n64 m[k]) = true := by rw [bne_iff_ne]; exact fun h => hne (n64_inj h)
          have hlm : (l == m) = false := by
            rw [beq_eq_false_iff_ne]; rintro rfl; exact hne rfl
          go_wp2_with fail
          refine region_gb [(0,0),(1,0),(2,0),(3,0),(4,0),(5,0),(6,0),(7,0),(8,0)] [] (by kernel_rfl) ?_
          repeat (refine S0w (v := ?_) (by rfl) (by rfl) (fun u hu N hN => ?_) ?_; rotate_left; (go_simp; exact hN); simp only [Act.put, List.setIfInBounds_toArray, List.set_cons_zero, List.set_cons_succ])
          refine S.done ?_
          go_wp2_with fail
          go_ret
          exact ⟨by rw [hlm]; rfl, hbel.drew⟩
      · have hlm : (l == m) = true := by
          have h1 := htk.out
          rw [List.take_of_length_le (by omega), List.take_of_length_le (by omega)] at h1
          rw [beq_iff_eq]; exact h1
        go_wp2_with fail
        go_ret
        exact ⟨by rw [hlm]; rfl, hbel⟩
  · have ht : ((l.length : Int) != (m.length : Int)) = true := by rw [bne_iff_ne]; omega
    have hlm : (l == m) = false := by
      rw [beq_eq_false_iff_ne]; rintro rfl; exact hlen rfl
    go_enter Try.func121, Try.ntmps121
    go_wp2_with fail
    go_ret
    exact ⟨by rw [hlm]; rfl, Below.refl _ _⟩

theorem info75 : (Try.prog.info? 75).map (fun i => (i.zero, i.size, i.bytes)) = some (some (.int .u64 0), 1, 8) := by kernel_rfl
theorem elem64 : Elem 93 75 1 8 (.int .u64 0) := by
  obtain ⟨i, hi, hz0, hz1, hz2⟩ := info_parts info75
  exact ⟨Try.underlying93, ⟨i, hi, hz0, hz1, hz2⟩, rfl, by decide, by decide⟩
theorem b64_oneCell (l : List UInt64) : ∀ u ∈ l.map b64, u.oneCell' = true := by
  intro u hu
  obtain ⟨_, _, rfl⟩ := List.mem_map.1 hu
  rfl
/-- The call hands back 64-bit numbers of its own, and leaves all old blocks as they were. -/
def Gives64 (l : List UInt64) (w : World) (e : Ending) (w' : World) : Prop := ∃ v, e = .returned v ∧ w'.ownsRow w.heap.size 75 1 v l.length (l.map b64) ∧ Below w.heap.size w w'
set_option maxRecDepth 100000 in
theorem clone64_any (a : Option Addr) (l : List UInt64) (c : Nat) (w : World) (hl : l.length ≤ 1099511627776) (hrd : Rd w a (l.map b64)) :
    Calls Try.prog 122 #[.slice a l.length c] w (Gives64 l w) := by
  have hn := fun w a n c => Lib.run_eql_slice_nil (P := Try.prog) w 93 75 a n c 0 0 Try.underlying93
  cases a with
  | none =>
    have : l = [] := by simpa using hrd.none
    subst this
    go_enter Try.func122, Try.ntmps122
    go_wp2_with fail
    go_ret
    exact ⟨_, rfl, World.ownsRow_nil _ _ _ _, Below.refl _ _⟩
  | some ad =>
    have h0 : (w.alloc (.cells #[] 75)).ownsRow w.heap.size 75 1 (.slice (some ⟨w.heap.size, 0, none⟩) 0 0) 0 [] := World.ownsRow_lit (base := w.heap.size) (e := 75) (size := 1) w #[] 0 (Nat.le_refl _) (Nat.zero_le _) rfl
    go_enter Try.func122, Try.ntmps122
    go_wp2_with (first
      | (at_builtin; refine wpList_appendV elem64 rfl (.tmp 5) (.tmp 6) rfl rfl h0 rfl (by simp) (hrd.below ((Below.refl _ _).alloc (Nat.le_refl _) _)) (b64_oneCell l) (by omega) (by simp) ?_))
    intro v' w1 hown hgr
    go_wp2_with fail
    go_ret
    exact ⟨_, rfl, by simpa using hown, ((Below.refl _ _).alloc (Nat.le_refl _) _).grown hgr (by simp) (fun k hk => by simp [Value.ownBlock] at hk; omega)⟩
end Go.Proofs.Ytiihllfjlgbfcaa
