/- The walks of page.Part, voileref07.Part and voileref07.Pages. -/
import Derived.Test.YtiihllfjlgbfcaaPSame
namespace Go.Proofs.Ytiihllfjlgbfcaa
open Go.RowKit
theorem size73 : (Try.prog.info? 73).map (·.size) = some 1 := by kernel_rfl
theorem b16s_oneCell (l : List UInt16) : ∀ u ∈ l.map b16, u.oneCell' = true := by
  intro u hu
  obtain ⟨_, _, rfl⟩ := List.mem_map.1 hu
  rfl
theorem L.copy16 {w : World} {ops : Array Oper} {rest : List Oper} {o : Oper} {a : Act} {Q : Exit → Act → World → Prop} (hgd : o.guard = none) (d s : Operand)
    (ho : o.op = .call { callee := .builtin .copy, args := #[d, s], argTypes := #[35, 35] }) {g off n dc sc : Nat} {T : TypeId} {L m : List UInt16} {sp : Option Addr}
    (hd : a.eval d = .slice (some ⟨g, off, none⟩) n dc) (hs : a.eval s = .slice sp m.length sc) (hB : Blk w g T (L.map b16)) (hrd : Rd w sp (m.map b16)) (hn : m.length ≤ n) (hfit : off + m.length ≤ L.length)
    (h : ∀ w', Blk w' g T ((put L off m).map b16) → w.grownBy w' (some g) → wpList Try.prog ops Q rest (a.put o.dst (goInt m.length)) w') : wpList Try.prog ops Q (o :: rest) a w := by
  have hput : (L.map b16).take off ++ m.map b16 ++ (L.map b16).drop (off + m.length) = (put L off m).map b16 := by simp [put, List.map_take, List.map_drop]
  by_cases h0 : m.length = 0
  · obtain rfl : m = [] := List.eq_nil_of_length_eq_zero h0
    refine wpList_copy_nothing hgd d s 35 35 ho 73 Try.underlying35 size73 _ sp n dc 0 sc hd hs (by simp) ?_
    exact h w (by rw [put_nil]; exact hB) (World.grownBy.refl _ _)
  · obtain ⟨ad, rfl, -⟩ := hrd 0 (by simp; omega)
    refine wpList_copy_own hgd d s 35 35 ho 73 Try.underlying35 size73 g off n dc ad m.length sc hd hs (L.map b16).toArray T hB (m.map b16) (by rw [List.length_map]; exact (Nat.min_eq_left hn).symm) hrd.cells (by simpa using hfit) (b16s_oneCell m) ?_
    have := h (w.setRow g ((put L off m).map b16).toArray) (hB.row _) (grown_row _ _ _)
    rw [← hput] at this
    simpa using this
theorem run_cut_mid {P : Program} {T e : TypeId} {i : TypeInfo} (h1 : P.underlying T = some (.slice e)) (h2 : P.info? e = some i) (w : World) (a : Option Addr) (len cap lo hi : Nat) (k k' k'' : IntKind) (hlo : lo < hi) (hhi : hi ≤ cap) :
    (Instr.sliceAt T (.slice a len cap) (some (.int k lo)) (some (.int k' hi)) (some (.int k'' hi))).run P w = .ok (.slice (a.map (·.add (lo * i.size))) (hi - lo) (hi - lo)) w := by
  simp [Instr.sliceAt, Instr.slice, Instr.sliceBounds, Instr.sliceBound, asIntOf, run_underlying h1, sizeOf, typeInfo, h2, hhi, Nat.le_of_lt hlo]
  intro h; omega
theorem cut16_mid (a : Option Addr) (len cap lo hi : Nat) (k k' k'' : IntKind) (hlo : lo < hi) (hhi : hi ≤ cap) (w : World) :
    (Instr.sliceAt 35 (.slice a len cap) (some (.int k lo)) (some (.int k' hi)) (some (.int k'' hi))).run Try.prog w = .ok (.slice (a.map (·.add lo)) (hi - lo) (hi - lo)) w ∧
    (Instr.slice 35 (.slice a len cap) (some (.int k lo)) (some (.int k' hi)) (some (.int k'' hi))).run Try.prog w = .ok (.slice (a.map (·.add lo)) (hi - lo) (hi - lo)) w := by
  obtain ⟨i, hi', hz0, hz1, hz2⟩ := info_parts info73
  have h := run_cut_mid (P := Try.prog) Try.underlying35 hi' w a len cap lo hi k k' k'' hlo hhi
  rw [hz1] at h
  simp only [Nat.mul_one] at h
  exact ⟨h, by rw [← sliceAt_slice Try.underlying35]; exact h⟩
theorem Rd.mid {w : World} {a : Option Addr} {cs : List Value} (h : Rd w a cs) (lo n : Nat) : Rd w (a.map (·.add lo)) ((cs.drop lo).take n) := by
  intro j hj
  have hj' : lo + j < cs.length := by simp at hj; omega
  obtain ⟨ad, rfl, hcell⟩ := h _ hj'
  refine ⟨ad.add lo, rfl, ?_⟩
  rw [Addr.add_add, hcell]
  simp
/-- A page of an area's counts. -/
def partP (l : List UInt16) (k : Nat) : List UInt16 := put (zeros16 120) 0 ((l.drop (k * 120)).take 120)
def partI (l : List UInt16) (i : Int) : List UInt16 := if 0 ≤ i ∧ i ≤ 1000 then partP l i.toNat else zeros16 120
theorem partP_length (l : List UInt16) (k : Nat) : (partP l k).length = 120 := by
  unfold partP
  rw [put_length _ _ _ (by rw [zeros16_length, List.length_take]; omega), zeros16_length]
theorem partI_length (l : List UInt16) (i : Int) : (partI l i).length = 120 := by
  unfold partI; split
  · exact partP_length _ _
  · exact zeros16_length _
theorem partP_far (l : List UInt16) (k : Nat) (h : l.length ≤ k * 120) : partP l k = zeros16 120 := by
  unfold partP
  rw [List.drop_of_length_le h, List.take_nil, put_nil]
/-- The call hands back a page of its own. -/
def GivesPart (l : List UInt16) (w : World) (e : Ending) (w' : World) : Prop := e = .returned (.slice (some ⟨w.heap.size, 0, none⟩) 120 120) ∧ Blk w' w.heap.size 73 (l.map b16) ∧ GB w w'
set_option maxRecDepth 100000 in
theorem part_any (ca : Option Addr) (l : List UInt16) (cc : Nat) (i : Int) (w : World) (_ : l.length ≤ 1010) (hc : l.length ≤ cc) (hrd : Rd w ca (l.map b16)) :
    Calls Try.prog 53 #[.slice ca l.length cc, .int .i64 i] w (GivesPart (partI l i) w) := by
  have HZ := Lib.hid (zeros16_length 120)
  by_cases hg : 0 ≤ i ∧ i ≤ 1000 ∧ i * 120 < l.length
  · obtain ⟨h0, h1, h2⟩ := hg
    obtain ⟨k, rfl⟩ : ∃ k : Nat, i = (k : Int) := ⟨i.toNat, by omega⟩
    have hk : k * 120 < l.length := by omega
    have hp : partI l (k : Int) = put (zeros16 120) 0 ((l.drop (k * 120)).take 120) := by unfold partI; rw [if_pos ⟨h0, h1⟩]; rfl
    have e1 : IntKind.i64.wrap ((k : Int) * 120) = ((k * 120 : Nat) : Int) := by rw [wrapi _ (by omega) (by omega)]; omega
    have e2 : IntKind.i64.wrap (((k * 120 : Nat) : Int) + 120) = ((k * 120 + 120 : Nat) : Int) := by rw [wrapi _ (by omega) (by omega)]; omega
    obtain ⟨to', hto⟩ : ∃ t, t = min l.length (k * 120 + 120) := ⟨_, rfl⟩
    have hm : ((l.drop (k * 120)).take 120).length = to' - k * 120 := by rw [List.length_take, List.length_drop]; omega
    have hP := Lib.hid hp
    have HM := Lib.hid hm
    clear hp hm
    generalize hF : k * 120 = fr at *
    have hcut := fun w => cut16_mid ca l.length cc fr to' .i64 .i64 .i64 (by omega) (by omega) w
    have hcutA := fun w => (hcut w).1
    have hcutB := fun w => (hcut w).2
    have hrdm := fun w2 (g : GB w w2) => (show ((l.drop fr).take 120).map b16 = ((l.map b16).drop fr).take 120 by simp [List.map_take, List.map_drop]) ▸ (g.rd hrd).mid fr 120
    have HR := Lib.hid hrdm
    clear hcut hF hrdm
    go_enter Try.func53, Try.ntmps53
    go_wp2_with (first | with_reducible refine halt_make 35 ?_)
    refine L.make (n := 120) elem16 _ _ rfl rfl rfl (by omega) (by rfl) ?_
    intro w2 hB2 hG2
    rw [made16] at hB2
    simp only [Act.put, List.setIfInBounds_toArray, List.set_cons_zero, List.set_cons_succ]
    by_cases hmin : (l.length : Int) ≤ (fr : Int) + 120
    · obtain rfl : to' = l.length := by omega
      have HM2 : Hid (((l.drop fr).take 120).length = l.length - fr) := Lib.hid (by rw [HM.out])
      clear hto HM
      go_wp2_with (first | with_reducible refine halt_builtin .copy ?_)
      refine L.copy16 rfl _ _ rfl (T := 73) (L := zeros16 120) (m := (l.drop fr).take 120) (off := 0) rfl (by rw [HM2.out]; rfl) hB2 (HR.out _ hG2) (by rw [HM2.out]; omega) (by rw [HM2.out, HZ.out]; omega) ?_
      intro w3 hB3 hG3
      simp only [Act.put, List.setIfInBounds_toArray, List.set_cons_zero, List.set_cons_succ]
      go_wp2_with fail
      go_ret
      exact ⟨rfl, by rw [hP.out]; exact hB3, hG2.grown hG3 hG2.size (fun k hk => by cases hk; exact Nat.le_refl _)⟩
    · obtain rfl : to' = fr + 120 := by omega
      have HM2 : Hid (((l.drop fr).take 120).length = 120) := Lib.hid (by rw [HM.out]; omega)
      clear hto HM
      go_wp2_with (first | with_reducible refine halt_builtin .copy ?_)
      refine L.copy16 rfl _ _ rfl (T := 73) (L := zeros16 120) (m := (l.drop fr).take 120) (off := 0) rfl (by rw [HM2.out]; rfl) hB2 (HR.out _ hG2) (by rw [HM2.out]; omega) (by rw [HM2.out, HZ.out]; omega) ?_
      intro w3 hB3 hG3
      simp only [Act.put, List.setIfInBounds_toArray, List.set_cons_zero, List.set_cons_succ]
      go_wp2_with fail
      go_ret
      exact ⟨rfl, by rw [hP.out]; exact hB3, hG2.grown hG3 hG2.size (fun k hk => by cases hk; exact Nat.le_refl _)⟩
  · have hz : partI l i = zeros16 120 := by
      unfold partI
      split
      · rw [partP_far _ _ (by omega)]
      · rfl
    rw [hz]
    clear hz
    by_cases h0 : 0 ≤ i
    · by_cases h1 : i ≤ 1000
      · have e1 : IntKind.i64.wrap (i * 120) = i * 120 := wrapi _ (by omega) (by omega)
        have h2 : ¬ i * 120 < l.length := by omega
        clear hg
        go_enter Try.func53, Try.ntmps53
        go_wp2_with (first | with_reducible refine halt_make 35 ?_)
        refine L.make (n := 120) elem16 _ _ rfl rfl rfl (by omega) (by rfl) ?_
        intro w2 hB2 hG2
        rw [made16] at hB2
        simp only [Act.put, List.setIfInBounds_toArray, List.set_cons_zero, List.set_cons_succ]
        go_wp2_with fail
        go_ret
        exact ⟨rfl, hB2, hG2⟩
      · clear hg
        go_enter Try.func53, Try.ntmps53
        go_wp2_with (first | with_reducible refine halt_make 35 ?_)
        refine L.make (n := 120) elem16 _ _ rfl rfl rfl (by omega) (by rfl) ?_
        intro w2 hB2 hG2
        rw [made16] at hB2
        simp only [Act.put, List.setIfInBounds_toArray, List.set_cons_zero, List.set_cons_succ]
        go_wp2_with fail
        go_ret
        exact ⟨rfl, hB2, hG2⟩
    · clear hg
      go_enter Try.func53, Try.ntmps53
      go_wp2_with (first | with_reducible refine halt_make 35 ?_)
      refine L.make (n := 120) elem16 _ _ rfl rfl rfl (by omega) (by rfl) ?_
      intro w2 hB2 hG2
      rw [made16] at hB2
      simp only [Act.put, List.setIfInBounds_toArray, List.set_cons_zero, List.set_cons_succ]
      go_wp2_with fail
      go_ret
      exact ⟨rfl, hB2, hG2⟩
theorem chunk_at (l : List UInt16) (f i : Nat) (h : i < ((l.drop f).take 120).length) : ((l.drop f).take 120)[i] = l[f + i]'(by simp at h; omega) := by
  simp
set_option maxHeartbeats 4000000 in
set_option maxRecDepth 100000 in
theorem rpart_any (ca : Option Addr) (l : List UInt16) (cc : Nat) (i : Int) (w : World) (hl : l.length ≤ 1010) (hrd : Rd w ca (l.map b16)) :
    Calls Try.prog 54 #[.slice ca l.length cc, .int .i64 i] w (GivesPart (partI l i) w) := by
  have HZ := Lib.hid (zeros16_length 120)
  by_cases hg : 0 ≤ i ∧ i < 100
  · obtain ⟨h0, h1⟩ := hg
    obtain ⟨k, rfl⟩ : ∃ k : Nat, i = (k : Int) := ⟨i.toNat, by omega⟩
    obtain ⟨fr, hF⟩ : ∃ fr, fr = k * 120 := ⟨_, rfl⟩
    have hp : partI l (k : Int) = put (zeros16 120) 0 ((l.drop fr).take 120) := by unfold partI; rw [if_pos ⟨h0, by omega⟩, hF]; rfl
    have e1 : IntKind.i64.wrap ((k : Int) * 120) = (fr : Int) := by rw [wrapi _ (by omega) (by omega)]; omega
    have hfr : fr ≤ 12000 := by omega
    clear hF
    obtain ⟨M, hM⟩ : ∃ M, (l.drop fr).take 120 = M := ⟨_, rfl⟩
    have hml : M.length = min 120 (l.length - fr) := by rw [← hM, List.length_take, List.length_drop]
    have hat : ∀ j (h : j < M.length), M[j] = l[fr + j]'(by omega) := fun j h => by subst hM; exact chunk_at l fr j h
    rw [hM] at hp
    have HP := Lib.hid hp
    have HA := Lib.hid hat
    clear hM hp hat
    go_enter Try.func54, Try.ntmps54
    go_wp2_with (first | with_reducible refine halt_make 35 ?_)
    refine L.make (n := 120) elem16 _ _ rfl rfl rfl (by omega) (by rfl) ?_
    intro w2 hB2 hG2
    rw [made16] at hB2
    simp only [Act.put, List.setIfInBounds_toArray, List.set_cons_zero, List.set_cons_succ]
    go_wp2_with fail
    go_loopw [6] (fun x wr => ∃ j : Nat, j ≤ 120 ∧ x = .int .i64 j ∧ Blk wr w.heap.size 73 ((put (zeros16 120) 0 (M.take j)).map b16) ∧ GB w wr) (fun x _ => 120 - (intOf x).toNat)
    case atStart => exact ⟨0, by omega, rfl, by rw [List.take_zero, put_nil]; exact hB2, hG2⟩
    case round =>
      obtain ⟨j, hj, rfl, hB, hgr⟩ := hrel
      have e2 : IntKind.i64.wrap ((fr : Int) + (j : Int)) = ((fr + j : Nat) : Int) := by rw [wrapi _ (by omega) (by omega)]; omega
      by_cases hlt : j < 120
      · by_cases hin : fr + j < l.length
        · have hjm : j < M.length := by omega
          obtain ⟨ad, rfl, hc⟩ := (hgr.rd hrd) (fr + j) (by rw [List.length_map]; exact hin)
          simp only [List.getElem_map, b16] at hc
          have hs := put_set (zeros16 120) M 0 j hjm (by rw [HZ.out]; omega)
          rw [HA.out j hjm, Nat.zero_add] at hs
          generalize l[fr + j] = z at *
          have HS := Lib.hid hs
          have hpl : (put (zeros16 120) 0 (M.take j)).length = 120 := by rw [put_length _ _ _ (by rw [HZ.out, List.length_take]; omega)]; exact HZ.out
          obtain ⟨x0, hcx⟩ := hB.cell16 j (by omega)
          have hfz := hB.frozen j
          have f5 : GB w (wr.setCell ⟨w.heap.size, j, none⟩ (.int .u16 (n16 z))) := hgr.grown (grown_cell wr w.heap.size j _) hgr.size (fun k hk => by cases hk; exact Nat.le_refl _)
          clear HA hs hpl hml
          go_wp2_with fail
          go_roundw
          case rel => exact ⟨j + 1, by omega, by go_num, by rw [← HS.out]; exact hB.set16 j z, f5⟩
          case measure => simp [intOf]; omega
        · have hk : M.take (j + 1) = M.take j := by rw [List.take_of_length_le (by omega), List.take_of_length_le (by omega)]
          have HK := Lib.hid hk
          clear HA hk hml
          go_wp2_with fail
          go_roundw
          case rel => exact ⟨j + 1, by omega, by go_num, by rw [HK.out]; exact hB, hgr⟩
          case measure => simp [intOf]; omega
      · have hk : M.take j = M := List.take_of_length_le (by omega)
        have HK := Lib.hid hk
        clear HA hk hml
        go_wp2_with fail
        go_ret
        exact ⟨rfl, by rw [HP.out, ← HK.out]; exact hB, hgr⟩
  · have hz : partI l i = zeros16 120 := by
      unfold partI
      split
      · rw [partP_far _ _ (by omega)]
      · rfl
    rw [hz]
    clear hz
    by_cases h0 : 0 ≤ i
    all_goals
      have h1 : ¬ 0 ≤ i ∨ ¬ i < 100 := by omega
      have h2 : 0 ≤ i → ¬ i < 100 := by omega
      clear hg
      go_enter Try.func54, Try.ntmps54
      go_wp2_with (first | with_reducible refine halt_make 35 ?_)
      refine L.make (n := 120) elem16 _ _ rfl rfl rfl (by omega) (by rfl) ?_
      intro w2 hB2 hG2
      rw [made16] at hB2
      simp only [Act.put, List.setIfInBounds_toArray, List.set_cons_zero, List.set_cons_succ]
      go_wp2_with fail
      go_loopw [6] (fun x wr => ∃ j : Nat, j ≤ 120 ∧ x = .int .i64 j ∧ w2 = wr) (fun x _ => 120 - (intOf x).toNat)
      case atStart => exact ⟨0, by omega, rfl, rfl⟩
      case round =>
        obtain ⟨j, hj, rfl, rfl⟩ := hrel
        by_cases hlt : j < 120
        · first
          | (have h3 : ¬ i < 100 := by omega
             go_wp2_with fail
             exact ⟨⟨j + 1, by omega, by go_num, trivial⟩, by simp [intOf]; omega⟩)
          | (go_wp2_with fail
             exact ⟨⟨j + 1, by omega, by go_num, trivial⟩, by simp [intOf]; omega⟩)
        · go_wp2_with fail
          go_ret
          exact ⟨rfl, hB2, hG2⟩
def pagesN (n : Nat) : Nat := (n + 119) / 120
theorem pages_N (n : Nat) : pages (n : Int) = (pagesN n : Int) := by
  unfold pages pagesN
  split <;> omega
theorem rpages_any (n : Nat) (w : World) (h : n ≤ 1010) : Calls Try.prog 52 #[.int .i64 n] w fun e w' => e = .returned (.int .i64 (pagesN n)) ∧ w = w' := by
  go_enter Try.func52, Try.ntmps52
  go_wp2_with fail
  go_loop [0, 3] (fun x y => ∃ k : Nat, y = .int .i64 k ∧ x = .int .i64 ((n : Int) - 120 * k) ∧ k ≤ pagesN n) (fun x _ => (intOf x + 120).toNat)
  case atStart => exact ⟨0, rfl, by simp, by omega⟩
  case round =>
    obtain ⟨k, rfl, rfl, hk⟩ := hrel
    unfold pagesN at hk
    by_cases hlt : 0 < (n : Int) - 120 * k
    · have e1 : IntKind.i64.wrap ((n : Int) - 120 * k - 120) = (n : Int) - 120 * ((k + 1 : Nat) : Int) := by rw [wrapi _ (by omega) (by omega)]; omega
      have hk2 : k + 1 ≤ pagesN n := by unfold pagesN; omega
      have HK := Lib.hid hk2
      clear hk2
      go_wp2_with fail
      refine ⟨⟨k + 1, by go_num, rfl, HK.out⟩, by simp [intOf]; omega⟩
    · have hk2 : k = pagesN n := by unfold pagesN; omega
      have HK := Lib.hid hk2
      clear hk2
      go_wp2_with fail
      go_ret
      exact ⟨by rw [HK.out]; rfl, rfl⟩
end Go.Proofs.Ytiihllfjlgbfcaa
