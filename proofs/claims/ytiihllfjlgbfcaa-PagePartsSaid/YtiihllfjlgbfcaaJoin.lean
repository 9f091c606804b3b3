/- The walks of slices.IndexFunc, ContainsFunc, Grow and Concat at pages, and of page.Join. -/
import Derived.Test.YtiihllfjlgbfcaaPart
import Derived.Lib.AppendZerosOnto
import Derived.Deep.CutBlock
import Derived.Deep.DeepCutAuto
namespace Go.Proofs.Ytiihllfjlgbfcaa
open Go.RowKit
/-- A page that can be read. -/
def PgCell (w : World) (v : Value) (l : List UInt16) : Prop := ∃ a c, v = .slice a l.length c ∧ Rd w a (l.map b16)
theorem PgCell.gb {w u : World} {v : Value} {l : List UInt16} (h : PgCell w v l) (g : GB w u) : PgCell u v l := by
  obtain ⟨a, c, h1, h2⟩ := h; exact ⟨a, c, h1, g.rd h2⟩
/-- A row of pages. -/
structure Pgs (w : World) (a : Option Addr) (A : List (List UInt16)) (cs : List Value) : Prop where
  len : cs.length = A.length
  rd : Rd w a cs
  each : ∀ i (h : i < A.length) (h' : i < cs.length), PgCell w cs[i] A[i]
theorem Pgs.gb {w u : World} {a : Option Addr} {A : List (List UInt16)} {cs : List Value} (h : Pgs w a A cs) (g : GB w u) : Pgs u a A cs :=
  ⟨h.len, g.rd h.rd, fun i h1 h2 => (h.each i h1 h2).gb g⟩
theorem Pgs.at {w : World} {a : Option Addr} {A : List (List UInt16)} {cs : List Value} (h : Pgs w a A cs) (i : Nat) (hi : i < A.length) :
    ∃ ad b c, a = some ad ∧ w.cell? (ad.add i) = some (.slice b A[i].length c) ∧ Rd w b (A[i].map b16) := by
  obtain ⟨ad, ha, hc⟩ := h.rd i (by rw [h.len]; exact hi)
  obtain ⟨b, c, hv, hr⟩ := h.each i hi (by rw [h.len]; exact hi)
  exact ⟨ad, b, c, ha, by rw [hc, hv], hr⟩
theorem any_take_succ {α : Type} (l : List α) (f : α → Bool) (k : Nat) (h : k < l.length) : (l.take (k + 1)).any f = ((l.take k).any f || f l[k]) := by
  rw [List.take_succ_eq_append_getElem h, List.any_append]; simp
theorem any_of_take {α : Type} (l : List α) (f : α → Bool) (k : Nat) (h : (l.take k).any f = true) : l.any f = true := by
  rw [List.any_eq_true] at h ⊢
  obtain ⟨x, hx, hf⟩ := h
  exact ⟨x, List.mem_of_mem_take hx, hf⟩
theorem lenNot_any (a : Option Addr) (n c : Nat) (w : World) : Calls Try.prog 112 #[.slice a n c] w fun e w' => e = .returned (.bool (n != 120)) ∧ w = w' := by
  by_cases h : n = 120
  · have hq : ((n : Int) != 120) = false := by simp; omega
    have h2 : (n != 120) = false := by simp; omega
    rw [h2]
    go_enter Try.func112, Try.ntmps112
    go_wp2_with fail
    go_ret
    exact ⟨rfl, rfl⟩
  · have hq : ((n : Int) != 120) = true := by rw [bne_iff_ne]; omega
    have h2 : (n != 120) = true := by rw [bne_iff_ne]; omega
    rw [h2]
    go_enter Try.func112, Try.ntmps112
    go_wp2_with fail
    go_ret
    exact ⟨rfl, rfl⟩
theorem notNil_any (x : UInt16) (w : World) : Calls Try.prog 115 #[.int .u16 (n16 x)] w fun e w' => e = .returned (.bool (x != 0)) ∧ w = w' := by
  by_cases h : x = 0
  · have hq : ((n16 x : Int) != 0) = false := by rw [h]; rfl
    have h2 : (x != 0) = false := by simp [h]
    rw [h2]
    go_enter Try.func115, Try.ntmps115
    go_wp2_with fail
    go_ret
    exact ⟨rfl, rfl⟩
  · have hq : ((n16 x : Int) != 0) = true := by rw [bne_iff_ne]; intro h'; exact h (n16_inj (h'.trans (by rfl)))
    have h2 : (x != 0) = true := by rw [bne_iff_ne]; exact h
    rw [h2]
    go_enter Try.func115, Try.ntmps115
    go_wp2_with fail
    go_ret
    exact ⟨rfl, rfl⟩
set_option maxRecDepth 100000 in
theorem indexLen_any (a : Option Addr) (A : List (List UInt16)) (cs : List Value) (c : Nat) (w : World) (hl : A.length ≤ 1000000) (h : Pgs w a A cs) :
    Calls Try.prog 136 #[.slice a A.length c, .func (.func 112) #[] #[]] w fun e w' => (∃ k : Int, e = .returned (.int .i64 k) ∧ decide (0 ≤ k) = A.any (fun p => p.length != 120)) ∧ w = w' := by
  go_enter Try.func136, Try.ntmps136
  go_wp2_with fail
  go_loopw [8] (fun x wr => ∃ k : Nat, x = .int .i64 k ∧ k ≤ A.length ∧ Hid ((A.take k).any (fun p => p.length != 120) = false) ∧ w = wr) (fun x _ => A.length - (intOf x).toNat)
  case atStart => exact ⟨0, rfl, by omega, Lib.hid (by simp), rfl⟩
  case round =>
    obtain ⟨k, rfl, hk, HT, rfl⟩ := hrel
    by_cases hlt : k < A.length
    · obtain ⟨ad, b, cb, rfl, hc, -⟩ := h.at k hlt
      have ht := any_take_succ A (fun p => p.length != 120) k hlt
      have HA := Lib.hid (any_of_take A (fun p => p.length != 120) (k + 1))
      have HTT := Lib.hid ht
      clear ht
      go_wp2_with fail
      refine (lenNot_any b _ cb _).mono ?_
      rintro e w2 ⟨rfl, rfl⟩
      obtain ⟨q, hq⟩ : ∃ q, (A[k].length != 120) = q := ⟨_, rfl⟩
      have hq2 := hq
      rw [hq]
      have HQ := Lib.hid hq
      clear hq hq2
      cases q
      · go_wp2_with fail
        exact ⟨⟨k + 1, by go_num, by omega, Lib.hid (by rw [HTT.out, HT.out, HQ.out]; rfl), trivial⟩, by simp [intOf]; omega⟩
      · go_wp2_with fail
        go_ret
        exact ⟨⟨k, rfl, by rw [HA.out (by rw [HTT.out, HQ.out]; simp)]; simp⟩, rfl⟩
    · have hT := HT.out
      rw [List.take_of_length_le (by omega)] at hT
      have HTT := Lib.hid hT
      clear hT
      go_wp2_with fail
      go_ret
      exact ⟨⟨-1, rfl, by rw [HTT.out]; rfl⟩, rfl⟩
theorem containsLen_any (a : Option Addr) (A : List (List UInt16)) (cs : List Value) (c : Nat) (w : World) (hl : A.length ≤ 1000000) (h : Pgs w a A cs) :
    Calls Try.prog 111 #[.slice a A.length c, .func (.func 112) #[] #[]] w fun e w' => e = .returned (.bool (A.any (fun p => p.length != 120))) ∧ w = w' := by
  go_enter Try.func111, Try.ntmps111
  go_wp2_with fail
  refine (indexLen_any a A cs c w hl h).mono ?_
  rintro e w2 ⟨⟨k, rfl, hk⟩, rfl⟩
  have HK := Lib.hid hk
  clear hk
  by_cases h0 : 0 ≤ k
  all_goals
    go_wp2_with fail
    go_ret
    exact ⟨by rw [← HK.out]; simp [h0], rfl⟩
set_option maxRecDepth 100000 in
theorem indexNot_any (a : Option Addr) (l : List UInt16) (c : Nat) (w : World) (hl : l.length ≤ 1000000) (h : Rd w a (l.map b16)) :
    Calls Try.prog 138 #[.slice a l.length c, .func (.func 115) #[] #[]] w fun e w' => (∃ k : Int, e = .returned (.int .i64 k) ∧ decide (0 ≤ k) = l.any (fun x => x != 0)) ∧ w = w' := by
  go_enter Try.func138, Try.ntmps138
  go_wp2_with fail
  go_loopw [8] (fun x wr => ∃ k : Nat, x = .int .i64 k ∧ k ≤ l.length ∧ Hid ((l.take k).any (fun x => x != 0) = false) ∧ w = wr) (fun x _ => l.length - (intOf x).toNat)
  case atStart => exact ⟨0, rfl, by omega, Lib.hid (by simp), rfl⟩
  case round =>
    obtain ⟨k, rfl, hk, HT, rfl⟩ := hrel
    by_cases hlt : k < l.length
    · obtain ⟨ad, rfl, hc⟩ := h k (by simpa using hlt)
      simp only [List.getElem_map, b16] at hc
      have ht := any_take_succ l (fun x => x != 0) k hlt
      have HA := Lib.hid (any_of_take l (fun x => x != 0) (k + 1))
      have HTT := Lib.hid ht
      clear ht
      generalize l[k] = z at *
      go_wp2_with fail
      refine (notNil_any z _).mono ?_
      rintro e w2 ⟨rfl, rfl⟩
      obtain ⟨q, hq⟩ : ∃ q, (z != 0) = q := ⟨_, rfl⟩
      rw [hq]
      have HQ := Lib.hid hq
      clear hq
      cases q
      · go_wp2_with fail
        exact ⟨⟨k + 1, by go_num, by omega, Lib.hid (by rw [HTT.out, HT.out, HQ.out]; rfl), trivial⟩, by simp [intOf]; omega⟩
      · go_wp2_with fail
        go_ret
        exact ⟨⟨k, rfl, by rw [HA.out (by rw [HTT.out, HQ.out]; simp)]; simp⟩, rfl⟩
    · have hT := HT.out
      rw [List.take_of_length_le (by omega)] at hT
      have HTT := Lib.hid hT
      clear hT
      go_wp2_with fail
      go_ret
      exact ⟨⟨-1, rfl, by rw [HTT.out]; rfl⟩, rfl⟩
theorem containsNot_any (a : Option Addr) (l : List UInt16) (c : Nat) (w : World) (hl : l.length ≤ 1000000) (h : Rd w a (l.map b16)) :
    Calls Try.prog 114 #[.slice a l.length c, .func (.func 115) #[] #[]] w fun e w' => e = .returned (.bool (l.any (fun x => x != 0))) ∧ w = w' := by
  go_enter Try.func114, Try.ntmps114
  go_wp2_with fail
  refine (indexNot_any a l c w hl h).mono ?_
  rintro e w2 ⟨⟨k, rfl, hk⟩, rfl⟩
  have HK := Lib.hid hk
  clear hk
  by_cases h0 : 0 ≤ k
  all_goals
    go_wp2_with fail
    go_ret
    exact ⟨by rw [← HK.out]; simp [h0], rfl⟩
theorem cut16_from (a : Option Addr) (len cap n : Nat) (k : IntKind) (hn : n ≤ len) (w : World) :
    (Instr.sliceAt 35 (.slice a len cap) (some (.int k n)) none none).run Try.prog w = .ok (.slice (cutAt a n cap 1) (len - n) (cap - n)) w ∧
    (Instr.slice 35 (.slice a len cap) (some (.int k n)) none none).run Try.prog w = .ok (.slice (cutAt a n cap 1) (len - n) (cap - n)) w := by
  obtain ⟨i, hi, hz0, hz1, hz2⟩ := info_parts info73
  have h := run_cut_from (P := Try.prog) Try.underlying35 hi w a len cap n k hn
  rw [hz1] at h
  exact ⟨h, by rw [← sliceAt_slice Try.underlying35]; exact h⟩
theorem cut16_full (a : Option Addr) (len cap n : Nat) (k k' : IntKind) (hn : n ≤ cap) (w : World) :
    (Instr.sliceAt 35 (.slice a len cap) none (some (.int k n)) (some (.int k' n))).run Try.prog w = .ok (.slice a n n) w ∧
    (Instr.slice 35 (.slice a len cap) none (some (.int k n)) (some (.int k' n))).run Try.prog w = .ok (.slice a n n) w := by
  obtain ⟨i, hi, hz0, hz1, hz2⟩ := info_parts info73
  have h := run_cut_full (P := Try.prog) Try.underlying35 hi w a len cap n k k' hn
  exact ⟨h, by rw [← sliceAt_slice Try.underlying35]; exact h⟩
theorem zc16 (k : Nat) : (Builtin.zeroCells (Value.int .u16 0).cells k).size = k := by
  have h : Builtin.zeroCells (Value.int .u16 0).cells k = madeCells (Value.int .u16 0).cells (k * 1) := by
    unfold Builtin.zeroCells madeCells
    rfl
  rw [h, Nat.mul_one]
  simp [madeCells]
theorem run_append_nil16 (w : World) (ty : TypeId) (k : Nat) (hk : 0 < k) (hb : k ≤ 1000000) :
    ∃ cap w', (Builtin.append_ #[35, 3] ty #[.slice none 0 0, .int .i64 k]).run Try.prog w = .ok (.slice (some ⟨w.heap.size, 0, none⟩) k cap) w' ∧ w'.ownsRow w.heap.size 73 1 (.slice (some ⟨w.heap.size, 0, none⟩) 0 cap) 0 [] ∧ GB w w' := by
  obtain ⟨i, hi, hz0, hz1, hz2⟩ := info_parts info73
  have hold : (Builtin.firstCells i.size 0 (.slice none 0 0)).run Try.prog w.drew = .ok (#[] : Array Value) w.drew := by simp [Builtin.firstCells]
  have h := Lib.run_append_grow_zeros (P := Try.prog) w 35 3 ty 73 i _ .i64 .i64 Try.underlying35 Try.underlying3 hi hz0 none 0 0 [] hold k hk (by omega) (by omega) (by omega) (by rw [hz2]; omega) (growslice_fits (by omega) (by rw [hz2]; omega))
  rw [Nat.zero_add] at h
  have hcap := grownCap_ge w k 0 73
  have hmax := grownCap_le_maxLen w k 0 73 (by unfold maxLen; omega)
  refine ⟨grownCap w k 0 73, _, h, ⟨by simp, .inr ⟨w.heap.size, _, _, rfl, Nat.le_refl _, heap_alloc_new _ _, Nat.zero_le _, hmax, ?_, by simp⟩⟩, GB.trans _ _ _ (GB.drew w) ((Below.refl _ _).alloc (Nat.le_refl _) _)⟩
  simp only [Array.size_append, zc16]
  simp; omega
set_option maxRecDepth 100000 in
theorem growNil_any (n : Nat) (w : World) (hn : n ≤ 1000000) : Calls Try.prog 137 #[.slice none 0 0, .int .i64 n] w fun e w' => ∃ v, e = .returned v ∧ w'.ownsRow w.heap.size 73 1 v 0 [] ∧ GB w w' := by
  by_cases h0 : n = 0
  · subst h0
    go_enter Try.func137, Try.ntmps137
    go_wp2_with fail
    go_ret
    exact ⟨_, rfl, World.ownsRow_nil _ _ _ _, GB.refl _⟩
  · have hp : 0 < n := by omega
    obtain ⟨cap, w2, hr, hown, hg⟩ := run_append_nil16 w 35 n hp hn
    have hcut := fun w => cut16_full (some ⟨w.heap.size, 0, none⟩) n cap 0 .i64 .i64 (Nat.zero_le _) w
    go_enter Try.func137, Try.ntmps137
    go_wp2_with (first | with_reducible refine halt_builtin .append ?_)
    refine Lib.wpList_append_run _ rfl (.tmp 20) (.tmp 21) 35 3 rfl _ _ (by rfl) (by rfl) _ _ hr ?_
    simp only [Act.put, List.setIfInBounds_toArray, List.set_cons_zero, List.set_cons_succ]
    go_wp2_with fail
    go_ret
    exact ⟨_, rfl, hown, hg⟩
def PgsFlat (A : List (List UInt16)) : List UInt16 := A.flatten
def GivesFlat (l : List UInt16) (w : World) (e : Ending) (w' : World) : Prop := ∃ v, e = .returned v ∧ w'.ownsRow w.heap.size 73 1 v l.length (l.map b16) ∧ GB w w'
theorem cat_take_succ (A : List (List UInt16)) (k : Nat) (h : k < A.length) : (A.take (k + 1)).flatten = (A.take k).flatten ++ A[k] := by
  rw [List.take_succ_eq_append_getElem h, List.flatten_append]; simp
theorem cat_take_le (A : List (List UInt16)) (k : Nat) : (A.take k).flatten.length ≤ A.flatten.length := by
  conv => rhs; rw [← List.take_append_drop k A, List.flatten_append, List.length_append]
  omega
set_option maxHeartbeats 4000000 in
set_option maxRecDepth 100000 in
theorem concat_any (a : Option Addr) (A : List (List UInt16)) (cs : List Value) (c : Nat) (w : World) (hl : A.length ≤ 1000000) (hf : A.flatten.length ≤ 1000000) (h : Pgs w a A cs) :
    Calls Try.prog 113 #[.slice a A.length c] w (GivesFlat A.flatten w) := by
  go_enter Try.func113, Try.ntmps113
  go_upto_block 0 with fail
  go_cut [3] (fun s wx => s = .int .i64 (A.flatten.length : Nat) ∧ w = wx)
  case first =>
    go_wp2_with fail
    go_loopw [3, 11] (fun x y wr => ∃ k : Nat, y = .int .i64 k ∧ k ≤ A.length ∧ x = .int .i64 ((A.take k).flatten.length : Nat) ∧ w = wr) (fun _ y _ => A.length - (intOf y).toNat)
    case atStart => exact ⟨0, rfl, by omega, by simp, rfl⟩
    case round =>
      obtain ⟨k, rfl, hk, rfl, rfl⟩ := hrel
      by_cases hlt : k < A.length
      · obtain ⟨ad, b, cb, rfl, hc, -⟩ := h.at k hlt
        have hs := congrArg List.length (cat_take_succ A k hlt)
        have hle := cat_take_le A (k + 1)
        rw [List.length_append] at hs
        have hb : (A.take k).flatten.length + A[k].length ≤ 1000000 := by omega
        have HS := Lib.hid hs
        clear hs hle
        generalize (A.take k).flatten.length = n at *
        generalize hz : A[k].length = z at *
        have e1 : IntKind.i64.wrap ((n : Int) + (z : Int)) = ((n + z : Nat) : Int) := by rw [wrapi _ (by omega) (by omega)]; omega
        go_wp2_with fail
        exact ⟨⟨k + 1, by go_num, by omega, by rw [HS.out]; simp, trivial⟩, by simp [intOf]; omega⟩
      · have hT : A.take k = A := List.take_of_length_le (by omega)
        rw [hT]
        clear hT
        go_wp2_with fail
        go_meet
        case rel => exact ⟨rfl, rfl⟩
  case rest =>
    obtain ⟨rfl, rfl⟩ := hcut
    have hgr := growNil_any A.flatten.length w hf
    have HGR := Lib.hid hgr
    clear hgr
    have hle0 := cat_take_le A
    have HLE : Hid (∀ k, (A.take k).flatten.length ≤ 1000000) := Lib.hid (fun k => Nat.le_trans (hle0 k) hf)
    clear hle0
    generalize A.flatten.length = N at *
    go_wp2_with fail
    refine HGR.out.mono ?_
    rintro e w2 ⟨v, rfl, hown, hg⟩
    go_wp2_with fail
    go_loopw [6, 27] (fun x y wr => ∃ k : Nat, y = .int .i64 k ∧ k ≤ A.length ∧ wr.ownsRow w.heap.size 73 1 x (A.take k).flatten.length ((A.take k).flatten.map b16) ∧ GB w wr) (fun _ y _ => A.length - (intOf y).toNat)
    case atStart => exact ⟨0, rfl, by omega, by simpa using hown, hg⟩
    case round =>
      obtain ⟨k, rfl, hk, hrow, hgr⟩ := hrel
      by_cases hlt : k < A.length
      · obtain ⟨ad, b, cb, rfl, hc, hrd⟩ := (h.gb hgr).at k hlt
        have hs := cat_take_succ A k hlt
        have hle := HLE.out (k + 1)
        rw [hs, List.length_append] at hle
        have hb : (A.take k).flatten.length + A[k].length ≤ 1000000 := by omega
        have HS := Lib.hid hs
        clear hs hle
        generalize (A.take k).flatten = M at *
        generalize A[k] = N at *
        obtain ⟨xa, xc, rfl, -, -, -, -, hlt2⟩ := Row.shape hrow
        go_wp2_with (first | with_reducible refine halt_builtin .append ?_)
        refine wpList_appendV elem16 rfl (.tmp 31) (.tmp 32) rfl (by rfl) hrow (by rfl) (by simp) hrd (b16s_oneCell N) (by omega) hgr.size ?_
        intro v4 w4 hown4 hG4
        simp only [Act.put, List.setIfInBounds_toArray, List.set_cons_zero, List.set_cons_succ]
        have hg4 : GB w w4 := hgr.grown hG4 hgr.size (fun j hj => (hlt2 j hj).1)
        have HO := Lib.hid hown4
        clear hown4 hG4
        go_wp2_with fail
        go_roundw
        case rel => exact ⟨k + 1, by go_num, by omega, by rw [HS.out, List.length_append, List.map_append]; exact HO.out, hg4⟩
        case measure => simp [intOf]; omega
      · have hT : A.take k = A := List.take_of_length_le (by omega)
        rw [hT] at hrow
        have HR := Lib.hid hrow
        clear hT hrow
        go_wp2_with fail
        go_ret
        exact ⟨_, rfl, HR.out, hgr⟩
theorem flat120 : ∀ (A : List (List UInt16)), A.any (fun p => p.length != 120) = false → A.flatten.length = A.length * 120
  | [], _ => rfl
  | p :: A, h => by
    rw [List.any_cons, Bool.or_eq_false_iff] at h
    have hp : p.length = 120 := by have := h.1; simpa using this
    rw [List.flatten_cons, List.length_append, flat120 A h.2, List.length_cons, hp]; omega
def joinP (n : Int) (A : List (List UInt16)) : List UInt16 × Int :=
  if n < 1 ∨ 1000 < n ∨ (A.length : Int) ≠ pages n ∨ A.any (fun p => p.length != 120) = true then ([], 2)
  else if (A.flatten.drop n.toNat).any (fun x => x != 0) = true then ([], 4) else (A.flatten.take n.toNat, 0)
set_option maxHeartbeats 4000000 in
set_option maxRecDepth 100000 in
theorem join_any (n : Int) (a : Option Addr) (A : List (List UInt16)) (cs : List Value) (c : Nat) (w : World) (hn : n ≤ 9223372036854775807) (hl : A.length ≤ 1000) (h : Pgs w a A cs) :
    Calls Try.prog 55 #[.int .i64 n, .slice a A.length c] w (GivesPg (joinP n A).1 (joinP n A).2 w) := by
  have hbad : (n < 1 ∨ 1000 < n ∨ (A.length : Int) ≠ pages n ∨ A.any (fun p => p.length != 120) = true) → Hid ((joinP n A).1 = [] ∧ (joinP n A).2 = 2) := fun hb => Lib.hid (by unfold joinP; rw [if_pos hb]; exact ⟨rfl, rfl⟩)
  by_cases h1 : n < 1
  · have HB := hbad (.inl h1)
    clear hbad
    go_enter Try.func55, Try.ntmps55
    go_wp2_with fail
    go_ret2
    exact ⟨none, 0, by rw [HB.out.1, HB.out.2]; rfl, by rw [HB.out.1]; exact Rd.nil _ _, GB.refl _⟩
  by_cases h2 : 1000 < n
  · have HB := hbad (.inr (.inl h2))
    clear hbad
    go_enter Try.func55, Try.ntmps55
    go_wp2_with fail
    go_ret2
    exact ⟨none, 0, by rw [HB.out.1, HB.out.2]; rfl, by rw [HB.out.1]; exact Rd.nil _ _, GB.refl _⟩
  have hpg := pages_any n w hn
  by_cases h3 : (A.length : Int) = pages n
  case neg =>
    have HB := hbad (.inr (.inr (.inl h3)))
    have hq : ((A.length : Int) != pages n) = true := by rw [bne_iff_ne]; exact h3
    clear hbad h3
    generalize pages n = z at *
    go_enter Try.func55, Try.ntmps55
    go_wp2_with fail
    refine hpg.mono ?_
    rintro e w2 ⟨rfl, rfl⟩
    go_wp2_with fail
    go_ret2
    exact ⟨none, 0, by rw [HB.out.1, HB.out.2]; rfl, by rw [HB.out.1]; exact Rd.nil _ _, GB.refl _⟩
  have hq : ((A.length : Int) != pages n) = false := by simp [h3]
  have hcl := containsLen_any a A cs c w (by omega) h
  by_cases h4 : A.any (fun p => p.length != 120) = true
  · have HB := hbad (.inr (.inr (.inr h4)))
    rw [h4] at hcl
    clear hbad h3 h4
    generalize pages n = z at *
    go_enter Try.func55, Try.ntmps55
    go_wp2_with fail
    refine hpg.mono ?_
    rintro e w2 ⟨rfl, rfl⟩
    go_wp2_with fail
    refine hcl.mono ?_
    rintro e w2 ⟨rfl, rfl⟩
    go_wp2_with fail
    go_ret2
    exact ⟨none, 0, by rw [HB.out.1, HB.out.2]; rfl, by rw [HB.out.1]; exact Rd.nil _ _, GB.refl _⟩
  obtain ⟨m, rfl⟩ : ∃ m : Nat, n = (m : Int) := ⟨n.toNat, by omega⟩
  have h5 : A.any (fun p => p.length != 120) = false := by simpa using h4
  rw [h5] at hcl
  have hfl := flat120 A h5
  have hpn := pages_N m
  have hm : m ≤ A.flatten.length := by rw [hfl]; unfold pagesN at hpn; omega
  have hfb : A.flatten.length ≤ 1000000 := by omega
  have hcc := concat_any a A cs c w (by omega) hfb h
  have hgood : Hid (joinP (m : Int) A = if (A.flatten.drop m).any (fun x => x != 0) = true then ([], 4) else (A.flatten.take m, 0)) := Lib.hid (by
    unfold joinP
    rw [if_neg (by rw [h5]; simp; omega), Int.toNat_natCast])
  have HCC := Lib.hid hcc
  have HCL := Lib.hid hcl
  have HPG := Lib.hid hpg
  clear hbad h5 h4 hfl hpn h3 hcc hcl hpg
  generalize pages (m : Int) = z at *
  generalize A.flatten = M at *
  go_enter Try.func55, Try.ntmps55
  go_wp2_with fail
  refine HPG.out.mono ?_
  rintro e w2 ⟨rfl, rfl⟩
  go_wp2_with fail
  refine HCL.out.mono ?_
  rintro e w2 ⟨rfl, rfl⟩
  go_wp2_with fail
  refine HCC.out.mono ?_
  rintro e w2 ⟨v, rfl, hown, hg⟩
  obtain ⟨xa, xc, rfl, hrd, hnc, hcm, -, -⟩ := Row.shape hown
  have hcA := fun w => (cut16_from xa M.length xc m .i64 hm w).1
  have hcB := fun w => (cut16_from xa M.length xc m .i64 hm w).2
  have hfA := fun w => (cut16_full xa M.length xc m .i64 .i64 (by omega) w).1
  have hfB := fun w => (cut16_full xa M.length xc m .i64 .i64 (by omega) w).2
  have hdl : (M.drop m).length = M.length - m := List.length_drop
  have hcn := containsNot_any (cutAt xa m xc 1) (M.drop m) (xc - m) w2 (by omega) (by
    have := hrd.cut m xc 1 (by rw [List.length_map]; omega)
    rw [Nat.mul_one] at this
    rw [List.map_drop]; exact this)
  rw [hdl] at hcn
  have hrt := hrd.take m
  have hRT : Rd w2 xa ((M.take m).map b16) := by rw [List.map_take]; exact hrt
  have hml : Hid ((M.take m).length = m) := Lib.hid (by rw [List.length_take]; omega)
  obtain ⟨q, hQ⟩ : ∃ q, (M.drop m).any (fun x => x != 0) = q := ⟨_, rfl⟩
  rw [hQ] at hcn hgood
  clear hQ hrt hdl hown hrd
  go_wp2_with fail
  refine hcn.mono ?_
  rintro e w3 ⟨rfl, rfl⟩
  cases q
  · have HG : Hid ((joinP (m : Int) A).1 = M.take m ∧ (joinP (m : Int) A).2 = 0) := Lib.hid (by rw [hgood.out]; exact ⟨rfl, rfl⟩)
    go_wp2_with fail
    go_ret2
    exact ⟨xa, m, by rw [HG.out.1, HG.out.2, hml.out]; rfl, by rw [HG.out.1]; exact hRT, hg⟩
  · have HG : Hid ((joinP (m : Int) A).1 = [] ∧ (joinP (m : Int) A).2 = 4) := Lib.hid (by rw [hgood.out]; exact ⟨rfl, rfl⟩)
    go_wp2_with fail
    go_ret2
    exact ⟨none, 0, by rw [HG.out.1, HG.out.2]; rfl, by rw [HG.out.1]; exact Rd.nil _ _, hg⟩
end Go.Proofs.Ytiihllfjlgbfcaa
