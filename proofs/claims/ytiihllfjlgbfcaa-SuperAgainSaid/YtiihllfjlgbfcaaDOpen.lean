/- The walks of a binary search over ints, of slices.Insert at ints, and of a disk's Open. -/
import Derived.Test.YtiihllfjlgbfcaaDGrow
import Derived.Shelf.Spec.SlicesInsertGrow
namespace Go.Proofs.Ytiihllfjlgbfcaa
open Go.RowKit Go.Shelf
def bI (x : Int) : Value := .int .i64 x
theorem lessI_any (a b : Int) (w : World) : Calls Try.prog 131 #[.int .i64 a, .int .i64 b] w fun e w' => e = .returned (.bool (decide (a < b))) ∧ w = w' := by
  go_enter Try.func131, Try.ntmps131
  go_wp2
  all_goals (go_ret; first | exact ⟨by simp_all, rfl⟩ | exact ⟨rfl, rfl⟩)
theorem nanI_any (a : Int) (w : World) : Calls Try.prog 132 #[.int .i64 a] w fun e w' => e = .returned (.bool false) ∧ w = w' := by
  go_enter Try.func132, Try.ntmps132
  go_wp2
  go_ret
  exact ⟨by simp, rfl⟩
set_option maxRecDepth 100000 in
theorem bsI_any (a : Option Addr) (l : List Int) (c : Nat) (k : Int) (p : Nat) (q : Bool) (hq : (l[p]? == some k) = q) (w : World) (hl : l.length ≤ 1099511627776) (hrd : Rd w a (l.map bI)) (hp : p ≤ l.length)
    (hlo : ∀ i (h : i < l.length), i < p → l[i] < k) (hhi : ∀ i (h : i < l.length), p ≤ i → ¬ l[i] < k) :
    Calls Try.prog 107 #[.slice a l.length c, .int .i64 k] w fun e w' => e = .returned (.tuple #[.int .i64 p, .bool q]) ∧ w = w' := by
  have HLO := Lib.hid hlo
  have HHI := Lib.hid hhi
  have HQ := Lib.hid hq
  clear hlo hhi hq
  go_enter Try.func107, Try.ntmps107
  go_wp2_with fail
  go_loop [7, 8] (fun x y => ∃ i j : Nat, x = .int .i64 i ∧ y = .int .i64 j ∧ i ≤ p ∧ p ≤ j ∧ j ≤ l.length) (fun x y => (intOf y - intOf x).toNat)
  case atStart => exact ⟨0, l.length, rfl, rfl, by omega, hp, by omega⟩
  case round =>
    obtain ⟨i, j, rfl, rfl, hi, hj, hjl⟩ := hrel
    by_cases hlt : i < j
    · obtain ⟨m, hm⟩ : ∃ m, m = (i + j) / 2 := ⟨_, rfl⟩
      have hm1 : i ≤ m := by omega
      have hm2 : m < j := by omega
      have hml : m < l.length := by omega
      have e1 : ((i : Int) + (j : Int)) / (2 : Int) = (m : Int) := by omega
      have e1' : ((i : Int) + (j : Int)) / 2 = (m : Int) := by omega
      have HM := Lib.hid hm
      clear hm
      obtain ⟨ad, rfl, hc⟩ := hrd m (by simpa using hml)
      simp only [List.getElem_map, bI] at hc
      go_wp2_with fail
      by_cases hmp : m < p
      · have hq : decide (l[m] < k) = true := by simp [HLO.out m hml hmp]
        refine (lessI_any _ _ _).mono ?_
        rintro e w2 ⟨rfl, rfl⟩
        go_wp2_with fail
        go_round
        case rel => exact ⟨m + 1, j, by go_num, rfl, by omega, hj, hjl⟩
        case measure => simp [intOf]; omega
      · have hq : decide (l[m] < k) = false := by simp [HHI.out m hml (by omega)]
        refine (lessI_any _ _ _).mono ?_
        rintro e w2 ⟨rfl, rfl⟩
        go_wp2_with fail
        go_round
        case rel => exact ⟨i, m, rfl, rfl, hi, by omega, by omega⟩
        case measure => simp [intOf]; omega
    · obtain rfl : i = p := by omega
      by_cases hpl : i < l.length
      · obtain ⟨ad, rfl, hc⟩ := hrd i (by simpa using hpl)
        simp only [List.getElem_map, bI] at hc
        have hr : (l[i]? == some k) = (l[i] == k) := by simp [hpl]
        by_cases heq : l[i] = k
        · have hq : (l[i] == k) = true := by simp [heq]
          obtain rfl : q = true := by rw [← HQ.out, hr]; simpa using heq
          clear heq hr
          go_wp2_with fail
          go_ret2
          exact ⟨rfl, rfl⟩
        · have hq : (l[i] == k) = false := by simpa using heq
          obtain rfl : q = false := by rw [← HQ.out, hr]; simpa using heq
          clear heq hr
          go_wp2_with fail
          refine (nanI_any _ _).mono ?_
          rintro e w2 ⟨rfl, rfl⟩
          go_wp2_with fail
          go_ret2
          exact ⟨rfl, rfl⟩
      · obtain rfl : q = false := by rw [← HQ.out]; simp [hpl]
        go_wp2_with fail
        go_ret2
        exact ⟨rfl, rfl⟩
/-! ### slices.Insert at ints: the shelf's contracts, laid over this program -/
def renI : Ren := ⟨fun x => if x = 21 then 108 else if x = 27 then 133 else if x = 28 then 134 else if x = 35 then 142 else if x = 39 then 145 else x, fun x => if x = 22 then 66 else x, fun x => x⟩
theorem layI : Lays2.n21 Try.prog renI where
  mixed := mixed
  f21 := by rw [show Body2.n21 renI = Try.f108 by kernel_rfl]; exact Try.func108
  f27 := by rw [show Body2.n27 renI = Try.f133 by kernel_rfl]; exact Try.func133
  f28 := by rw [show Body2.n28 renI = Try.f134 by kernel_rfl]; exact Try.func134
  f35 := by rw [show Body2.n35 renI = Try.f142 by kernel_rfl]; exact Try.func142
  f39 := by rw [show Body2.n39 renI = Try.f145 by kernel_rfl]; exact Try.func145
  t0 := Try.underlying0
  a0 := Try.isAgg0
  z0 := Try.sizeOf0
  v0 := Try.zeroValue0
  t3 := Try.underlying3
  a3 := Try.isAgg3
  z3 := Try.sizeOf3
  v3 := Try.zeroValue3
  t4 := Try.underlying4
  a4 := Try.isAgg4
  z4 := Try.sizeOf4
  v4 := Try.zeroValue4
  t22 := Try.underlying66
  a22 := Try.isAgg66
  z22 := Try.sizeOf66
  v22 := Try.zeroValue66
  i3 := info3'
theorem Blk.setCells {g : Nat} {T : TypeId} : ∀ (vs : List Value) {w : World} {cs : List Value} (o : Nat), Blk w g T cs → o + vs.length ≤ cs.length → Blk (w.setCells g o vs) g T (put cs o vs)
  | [], w, cs, o, h, _ => by
    have : put cs o [] = cs := by simp [put]
    rw [this]; exact h
  | v :: r, w, cs, o, h, hl => by
    simp only [List.length_cons] at hl
    have h2 := Blk.setCells r (o + 1) (h.set o v) (by rw [List.length_set]; omega)
    have e : put (cs.set o v) (o + 1) r = put cs o (v :: r) := by
      simp only [put, List.length_cons]
      rw [List.drop_set_of_lt (by omega), List.take_set, List.take_succ_eq_append_getElem (by omega), List.set_append_right _ _ (by simp; omega)]
      simp [Nat.min_eq_left (show o ≤ cs.length by omega)]
      congr 1; omega
    rw [← e]; exact h2
theorem grown_cells (g : Nat) : ∀ (vs : List Value) (w : World) (o : Nat), w.grownBy (w.setCells g o vs) (some g)
  | [], _, _ => World.grownBy.refl _ _
  | v :: r, w, o => (grown_cell w g o v).trans (grown_cells g r _ (o + 1))
theorem Row.blk {base e sz g n c : Nat} {w : World} {cs : List Value} (h : w.ownsRow base e sz (.slice (some ⟨g, 0, none⟩) n c) n cs) :
    ∃ cur, Blk w g e cur ∧ base ≤ g ∧ n ≤ c ∧ c ≤ maxLen ∧ cur.length = c * sz ∧ cur.take (n * sz) = cs := by
  rcases h.2 with ⟨h1, _⟩ | ⟨g', cap, cur, h1, hb, hg, hnc, hcm, hs, ht⟩
  · cases h1
  · cases h1
    exact ⟨cur.toList, by unfold Blk; rw [hg], hb, hnc, hcm, by simpa using hs, ht⟩
theorem Row.mk {base e sz g n c : Nat} {w : World} {cur cs : List Value} (hB : Blk w g e cur) (hb : base ≤ g) (hn : n ≤ c) (hc : c ≤ maxLen) (hl : cur.length = c * sz) (ht : cur.take (n * sz) = cs) : w.ownsRow base e sz (.slice (some ⟨g, 0, none⟩) n c) n cs := by
  refine ⟨?_, .inr ⟨g, c, cur.toArray, rfl, hb, hB, hn, hc, by simpa using hl, by simpa using ht⟩⟩
  rw [← ht, List.length_take, hl]
  exact Nat.min_eq_left (Nat.mul_le_mul_right _ hn)
def insAt (L : List Int) (i : Nat) (x : Int) : List Int := L.take i ++ x :: L.drop i
theorem take_put_ins (cur : List Value) (L : List Value) (n i : Nat) (x : Value) (h : cur.take n = L) (hn : L.length = n) (hi : i ≤ n) (hc : n + 1 ≤ cur.length) : (put (put cur (i + 1) (L.drop i)) i [x]).take (n + 1) = L.take i ++ x :: L.drop i := by
  have hL : L.take i = cur.take i := by rw [← h, List.take_take, Nat.min_eq_left hi]
  have e1 : (put cur (i + 1) (L.drop i)).take i = L.take i := by
    unfold put
    rw [List.append_assoc, List.take_append_of_le_length (by rw [List.length_take]; omega), List.take_take, Nat.min_eq_left (by omega), hL]
  have e2 : (put cur (i + 1) (L.drop i)).drop (i + 1) = L.drop i ++ cur.drop (n + 1) := by
    unfold put
    have : (cur.take (i + 1)).length = i + 1 := by rw [List.length_take]; omega
    rw [List.append_assoc, List.drop_append_of_le_length (by omega), List.drop_of_length_le (by omega), List.nil_append, List.length_drop, hn]
    congr 2; omega
  show (((put cur (i + 1) (L.drop i)).take i ++ [x] ++ (put cur (i + 1) (L.drop i)).drop (i + 1))).take (n + 1) = _
  rw [e1, e2, ← List.append_assoc, List.take_append_of_le_length (by simp; omega), List.take_of_length_le (by simp; omega)]
  simp
theorem bI_oneCell (L : List Int) : ∀ u ∈ L.map bI, u.oneCell' = true := by
  intro u hu
  obtain ⟨_, _, rfl⟩ := List.mem_map.1 hu
  rfl
theorem insAt_map (L : List Int) (i : Nat) (x : Int) : (insAt L i x).map bI = (L.map bI).take i ++ bI x :: (L.map bI).drop i := by simp [insAt, List.map_take, List.map_drop]
theorem insAt_length (L : List Int) (i : Nat) (x : Int) : (insAt L i x).length = L.length + 1 := by simp [insAt]; omega
def GivesRowI (base : Nat) (L : List Int) (row : Option Nat) (w : World) (e : Ending) (w' : World) : Prop := ∃ v, e = .returned v ∧ w'.ownsRow base 3 1 v L.length (L.map bI) ∧ w.grownBy w' row
theorem Blk.newA (w : World) (A : Array Value) (T : TypeId) : Blk (w.alloc (.cells A T)) w.heap.size T A.toList := by
  have := Blk.new w A.toList T
  rwa [Array.toArray_toList] at this
theorem insertI_any (base : Nat) (v : Value) (L : List Int) (i : Nat) (x : Int) (vb vc : Nat) (w : World) (hown : w.ownsRow base 3 1 v L.length (L.map bI)) (hi : i ≤ L.length) (hv : Blk w vb 3 [bI x]) (hne : v.ownBlock ≠ some vb) (hb : base ≤ w.heap.size) (hs : L.length ≤ 1000000) :
    Calls Try.prog 108 #[v, .int .i64 i, .slice (some ⟨vb, 0, none⟩) 1 vc] w (GivesRowI base (insAt L i x) v.ownBlock w) := by
  have hvs : ∀ j u, [bI x][j]? = some u → w.cell? ⟨vb, 0 + j, none⟩ = some u := fun j u hj => by rw [Nat.zero_add, hv.cell]; exact hj
  have h1v : ∀ u ∈ [bI x], u.oneCell' = true := by simp [bI, Value.oneCell']
  have hown0 := hown
  have zsz : ∀ k, (Builtin.zeroCells (Value.int .i64 0).cells k).size = k := fun k => by simp [Builtin.zeroCells, Value.cells]
  have h3 : renI.t 3 = 3 := rfl
  -- a new row
  have newrow : ∀ (w1 : World) (cells : List Value) (n cap : Nat), n = L.length + 1 → n ≤ cap → cap ≤ maxLen → cells.length = cap → cells.take n = (insAt L i x).map bI → Blk w1 w.heap.size 3 cells → w.grownBy w1 v.ownBlock →
      GivesRowI base (insAt L i x) v.ownBlock w (.returned (.slice (some ⟨w.heap.size, 0, none⟩) n cap)) w1 := fun w1 cells n cap hn hcap hm hl ht hB hG =>
    ⟨_, rfl, by rw [insAt_length, ← hn]; exact Row.mk hB hb hcap hm (by omega) (by simpa using ht), hG⟩
  have galloc : ∀ (w0 : World) (o : Obj) (r : Option Nat), w0.grownBy (w0.alloc o) r := fun w0 o r => by
    have f : Fr (fun _ => False) w0 (w0.alloc o) := (Fr.refl _ w0).alloc o
    exact ⟨f.os, f.tape, f.output, f.size, fun k hk _ => f.block k hk (fun h => h)⟩
  have gdrew : ∀ (w0 : World) (r : Option Nat), w0.grownBy w0.drew r := fun w0 r => by
    have f : Fr (fun _ => False) w0 w0.drew := (Fr.refl _ w0).drew
    exact ⟨f.os, f.tape, f.output, f.size, fun k hk _ => f.block k hk (fun h => h)⟩
  have hzs : ∀ k, (Builtin.zeroCells (Value.int .i64 0).cells k).toList.length = k := fun k => by rw [Array.length_toList, zsz]
  rcases hown.2 with ⟨rfl, h0⟩ | ⟨g, cap, cur0, rfl, hbg, hg, hnc, hcm, hcs, htake⟩
  · have hL : L = [] := List.eq_nil_of_length_eq_zero h0
    subst hL
    obtain rfl : i = 0 := by simpa using hi
    refine (Any2.slices_Insert_int_end_grow layI none 0 0 vb 0 1 vc [] [bI x] w (by omega) (by omega) (by omega) (by omega) rfl rfl (fun _ => rfl) (fun a ha => by cases ha) hvs h1v).mono ?_
    rintro e w1 ⟨rfl, rfl⟩
    rw [h3]
    have hge := grownCap_ge w (0 + 1) 0 3
    have hle := grownCap_le_maxLen w (0 + 1) 0 3 (by unfold maxLen; omega)
    generalize grownCap w (0 + 1) 0 3 = cap at *
    refine newrow _ (([] ++ [bI x]).toArray ++ Builtin.zeroCells (Value.int .i64 0).cells (cap - (0 + 1))).toList _ _ (by simp) hge hle (by rw [Array.toList_append, List.length_append, hzs]; simp; omega) (by simp [insAt]) (Blk.newA w.drew _ 3) ((gdrew w _).trans (galloc _ _ _))
  · obtain ⟨cur, hB, -, -, -, hcl, hct⟩ := Row.blk hown0
    simp only [Nat.mul_one] at hcl hct
    have hgv : vb ≠ g := fun e => hne (by rw [e]; rfl)
    have hcell : ∀ j u, (L.map bI)[j]? = some u → w.cell? ⟨g, 0 + j, none⟩ = some u := fun j u hj => by
      rw [Nat.zero_add, hB.cell]
      rw [← hct, List.getElem?_take] at hj
      split at hj
      · exact hj
      · cases hj
    have hml : (L.map bI).length = L.length := List.length_map _
    have hcm' : cap ≤ 9223372036854775807 := by unfold maxLen at hcm; omega
    by_cases hend : i = L.length
    · subst hend
      have hins : (insAt L L.length x).map bI = L.map bI ++ [bI x] := by rw [insAt_map, List.take_of_length_le (by simp), List.drop_of_length_le (by simp)]
      by_cases hroom : L.length + 1 ≤ cap
      · refine (Any2.slices_Insert_int_end_room layI g 0 L.length cap vb 0 1 vc [bI x] w (by omega) hroom hcm' rfl (fun j hj => ?_) (fun j hj => hB.frozen _) hvs h1v).mono ?_
        · rw [hB.cell, List.getElem?_eq_getElem (by omega)]; rfl
        · rintro e w1 ⟨rfl, rfl⟩
          rw [Nat.zero_add]
          have hB1 := hB.setCells [bI x] L.length (by simp; omega)
          refine ⟨_, rfl, ?_, grown_cells g _ _ _⟩
          rw [insAt_length]
          refine Row.mk hB1 hbg hroom hcm (by rw [put_length _ _ _ (by simp; omega)]; omega) ?_
          rw [Nat.mul_one, hins]
          simp only [put]
          rw [hct, List.take_append_of_le_length (by simp), List.take_of_length_le (by simp)]
      · refine (Any2.slices_Insert_int_end_grow layI (some ⟨g, 0, none⟩) L.length cap vb 0 1 vc (L.map bI) [bI x] w (by omega) hnc (by omega) (by omega) hml rfl (fun h => by cases h) (fun a ha j u hj => by cases ha; rw [Addr.add_lit]; exact hcell j u hj) hvs h1v).mono ?_
        rintro e w1 ⟨rfl, rfl⟩
        rw [h3]
        have hge := grownCap_ge w (L.length + 1) cap 3
        have hle := grownCap_le_maxLen w (L.length + 1) cap 3 (by unfold maxLen; omega)
        generalize grownCap w (L.length + 1) cap 3 = cap' at *
        refine newrow _ ((L.map bI ++ [bI x]).toArray ++ Builtin.zeroCells (Value.int .i64 0).cells (cap' - (L.length + 1))).toList _ _ rfl hge hle (by rw [Array.toList_append, List.length_append, hzs]; simp; omega) (by
          rw [hins, Array.toList_append, List.take_append_of_le_length (by simp), List.take_of_length_le (by simp)]) (Blk.newA w.drew _ 3) ((gdrew w _).trans (galloc _ _ _))
    · have hlt : i < L.length := by omega
      by_cases hroom : L.length + 1 ≤ cap
      · have hsa : w.shape? vb = some (3, 1) := by unfold World.shape?; rw [show w.heap[vb]? = _ from hv]; rfl
        have hsb : w.shape? g = some (3, cap) := by unfold World.shape?; rw [show w.heap[g]? = _ from hB]; simp [hcl]
        refine (Any2.slices_Insert_int_shift layI g 0 L.length cap i vb 0 1 vc (L.map bI) [bI x] w hlt (by omega) hroom hcm' hgv hml rfl hcell (fun j hj => ?_) (fun j hj => hB.frozen _) hvs (bI_oneCell L) h1v 3 3 1 cap hsa hsb (by omega) (hv.frozen _) (hv.frozen _)).mono ?_
        · rw [Nat.zero_add, hB.cell, List.getElem?_eq_getElem (by omega)]; rfl
        · rintro e w1 ⟨rfl, rfl⟩
          rw [Nat.zero_add, Nat.zero_add]
          have hBd := Blk.gb hB (GB.drew w)
          have hB1 := (hBd.setCells ((L.map bI).drop i) (i + 1) (by simp; omega)).setCells [bI x] i (by rw [put_length _ _ _ (by simp; omega)]; simp; omega)
          refine ⟨_, rfl, ?_, ((gdrew w _).trans (grown_cells g _ _ _)).trans (grown_cells g _ _ _)⟩
          rw [insAt_length]
          refine Row.mk hB1 hbg hroom hcm (by rw [put_length _ _ _ (by rw [put_length _ _ _ (by simp; omega)]; simp; omega), put_length _ _ _ (by simp; omega)]; omega) ?_
          rw [Nat.mul_one, insAt_map]
          exact take_put_ins cur (L.map bI) L.length i (bI x) hct hml hi (by omega)
      · refine (Any2.slices_Insert_int_grow layI g 0 L.length cap i vb 0 1 vc (L.map bI) [bI x] w hlt (by omega) hnc (by omega) (by omega) hml rfl hcell hvs (bI_oneCell L) h1v).mono ?_
        rintro e w1 ⟨rfl, rfl⟩
        rw [h3]
        have hge := grownCap_ge w (L.length + 1) cap 3
        have hle := grownCap_le_maxLen w (L.length + 1) cap 3 (by unfold maxLen; omega)
        generalize grownCap w (L.length + 1) cap 3 = cap' at *
        have hN := Blk.newA w (((L.map bI).take i).toArray ++ Builtin.zeroCells (Value.int .i64 0).cells (L.length + 1 - i) ++ Builtin.zeroCells (Value.int .i64 0).cells (cap' - (L.length + 1))) 3
        have hNl : (((L.map bI).take i).toArray ++ Builtin.zeroCells (Value.int .i64 0).cells (L.length + 1 - i) ++ Builtin.zeroCells (Value.int .i64 0).cells (cap' - (L.length + 1))).toList.length = cap' := by
          rw [Array.toList_append, Array.toList_append, List.length_append, List.length_append, hzs, hzs]; simp; omega
        have hNt : (((L.map bI).take i).toArray ++ Builtin.zeroCells (Value.int .i64 0).cells (L.length + 1 - i) ++ Builtin.zeroCells (Value.int .i64 0).cells (cap' - (L.length + 1))).toList.take i = (L.map bI).take i := by
          rw [Array.toList_append, Array.toList_append, List.append_assoc, List.take_append_of_le_length (by simp; omega), List.take_of_length_le (by simp; omega)]
        have gN := galloc w (.cells (((L.map bI).take i).toArray ++ Builtin.zeroCells (Value.int .i64 0).cells (L.length + 1 - i) ++ Builtin.zeroCells (Value.int .i64 0).cells (cap' - (L.length + 1))) 3) (Value.slice (some ⟨g, 0, none⟩) L.length cap).ownBlock
        generalize (((L.map bI).take i).toArray ++ Builtin.zeroCells (Value.int .i64 0).cells (L.length + 1 - i) ++ Builtin.zeroCells (Value.int .i64 0).cells (cap' - (L.length + 1))) = A at *
        generalize A.toList = B at *
        have hB1 := (Blk.gb hN (GB.drew _)).setCells [bI x] i (by simp; omega)
        have hB2 := (Blk.gb hB1 (GB.drew _)).setCells ((L.map bI).drop i) (i + 1) (by rw [put_length _ _ _ (by simp; omega)]; simp; omega)
        have f1 : Fr (fun k => (Value.slice (some ⟨g, 0, none⟩) L.length cap).ownBlock = some k) w (w.alloc (.cells A 3)) := Fr.of_grown gN (fun k hk => hk)
        have f2 := (((f1.drew.grown (grown_cells w.heap.size [bI x] _ i) (fun j hj => by cases hj; exact .inr (Nat.le_refl _))).drew).grown (grown_cells w.heap.size ((L.map bI).drop i) _ (i + 1)) (fun j hj => by cases hj; exact .inr (Nat.le_refl _)))
        refine newrow _ _ _ _ rfl hge hle ?_ ?_ hB2 ⟨f2.os, f2.tape, f2.output, f2.size, fun k hk hne => f2.block k hk (fun e => hne e.symm)⟩
        · rw [put_length _ _ _ (by rw [put_length _ _ _ (by simp; omega)]; simp; omega), put_length _ _ _ (by simp; omega), hNl]
        · rw [insAt_map]
          have hpl : (put B i [bI x]).length = cap' := by rw [put_length _ _ _ (by simp; omega), hNl]
          have e1 : (put B i [bI x]).take (i + 1) = (L.map bI).take i ++ [bI x] := by
            unfold put
            rw [hNt, List.take_append_of_le_length (by simp; omega), List.take_of_length_le (by simp; omega)]
          show (((put B i [bI x]).take (i + 1) ++ (L.map bI).drop i) ++ _).take (L.length + 1) = _
          rw [e1, List.take_append_of_le_length (by simp; omega), List.take_of_length_le (by simp; omega)]
          simp
end Go.Proofs.Ytiihllfjlgbfcaa
