/- The plain law and the walk of the law DiskFutures. -/
import Derived.Test.YtiihllfjlgbfcaaSteps
import Derived.Test.YtiihllfjlgbfcaaDSame
import Derived.Lib.AppendZerosOnto
namespace Go.Proofs.Ytiihllfjlgbfcaa
open Go.RowKit
/-! ### The plain law -/
theorem rawPick_noughts (P : List Int) (j k n : Nat) : rawPick (P ++ List.replicate j 0) k n = rawPick P k n := by
  unfold rawPick
  rw [List.length_append, List.length_replicate]
  by_cases h : k < P.length
  · rw [if_pos (by omega), if_pos h]
    have : (P ++ List.replicate j 0).getD k 0 = P.getD k 0 := by simp [List.getD, List.getElem?_append, h]
    rw [this]
  · rw [if_neg h]
    by_cases h2 : k < P.length + j
    · rw [if_pos h2]
      have : (P ++ List.replicate j 0).getD k 0 = 0 := by
        have hk : ¬ k < P.length := h
        have hk2 : k - P.length < j := by omega
        simp [List.getD, List.getElem?_append, hk, hk2]
      rw [this, Int.zero_tmod]
    · rw [if_neg h2]
theorem pickN_congr {A B : List Int} {k n : Nat} (h : rawPick A k n = rawPick B k n) : pickN A k n = pickN B k n := by
  unfold pickN; rw [h]
theorem crashK_congr (d : DD) (A B : List Int) (h : ∀ k n, rawPick A k n = rawPick B k n) (m : Nat) : crashK d A m = crashK d B m := by
  induction m with
  | zero => rfl
  | succ m ih => rw [crashK, crashK, ih, pickN_congr (h m _)]
theorem crash_noughts (d : DD) (P : List Int) (j : Nat) : d.crash (P ++ List.replicate j 0) = d.crash P := by
  unfold DD.crash
  rw [crashK_congr d _ _ (fun k n => rawPick_noughts P j k n)]
theorem rawPick_first (x : Int) (P : List Int) (k n : Nat) : rawPick (x :: P.drop 1) (k + 1) n = rawPick P (k + 1) n := by
  unfold rawPick
  rw [List.length_cons, List.length_drop]
  by_cases h : k + 1 < P.length
  · rw [if_pos (by omega), if_pos h]
    have : (x :: P.drop 1).getD (k + 1) 0 = P.getD (k + 1) 0 := by
      simp only [List.getD, List.getElem?_cons_succ, List.getElem?_drop]
      rw [Nat.add_comm 1 k]
    rw [this]
  · rw [if_neg h, if_neg (by omega)]
/-- Picks that differ at the first alone show differences at the first open sector alone. -/
theorem crash_first (d : DD) (x : Int) (P : List Int) (i : Nat) (h : (openL d.jr).length = 0 ∨ (openL d.jr).getD 0 0 ≠ (i : Int)) (hp : ∀ k, k < (openL d.jr).length → 0 ≤ (openL d.jr).getD k 0) :
    (d.crash P).img.getD i [] = (d.crash (x :: P.drop 1)).img.getD i [] := by
  have key : ∀ m, m ≤ (openL d.jr).length → (crashK d P m).getD i [] = (crashK d (x :: P.drop 1) m).getD i [] := by
    intro m
    induction m with
    | zero => intro _; rfl
    | succ m ih =>
      intro hm
      rw [crashK, crashK, getD_set, getD_set, crashK_length, crashK_length]
      cases m with
      | zero =>
        have h0 := hp 0 (by omega)
        have hne : ((openL d.jr).getD 0 0).toNat ≠ i := by
          rcases h with h | h
          · omega
          · omega
        rw [if_neg (fun e => hne e.1), if_neg (fun e => hne e.1)]; rfl
      | succ m =>
        rw [pickN_congr (rawPick_first x P m _), ih (by omega)]
  exact key _ (Nat.le_refl _)
theorem open_nonneg (d : DD) (k : Nat) (hk : k < (openL d.jr).length) : 0 ≤ (openL d.jr).getD k 0 := by
  have : (openL d.jr).getD k 0 = (openL d.jr)[k] := by simp [List.getD, hk]
  rw [this]
  obtain ⟨e, -, he⟩ := (mem_openL d.jr _).1 (List.getElem_mem hk)
  omega
/-- What is read behind a crash was there ahead. -/
theorem crash_among {k : Nat} {d : DD} {r : RD} (h : Inv k d r) (P : List Int) (i : Nat) (hi : i < r.s.length) : ∃ b ∈ r.s.getD i [], (d.crash P).img.getD i [] = full b := by
  have hl := h.ag.len
  have key : ∀ m, m ≤ (openL d.jr).length → (crashK d P m).getD i [] ∈ pastOf d i := by
    intro m
    induction m with
    | zero => intro _; unfold pastOf; simp [crashK]
    | succ m ih =>
      intro hm
      obtain ⟨j, hj, hjl, hjp⟩ := open_at d h.dg m (by omega)
      have e0 : (openL d.jr).getD m 0 = (j : Int) := by rw [← hj]; simp [List.getD, show m < (openL d.jr).length by omega]
      rw [crashK, e0, Int.toNat_natCast, getD_set, crashK_length]
      by_cases e : j = i
      · subst e
        rw [if_pos ⟨rfl, hjl⟩]
        have hv : d.vers j = pastOf d j := by unfold DD.vers pastOf; rw [if_pos hjp]
        rw [hv]
        have hlt := pickN_lt P m (pastOf d j).length (by unfold pastOf; simp)
        have : (pastOf d j).getD (pickN P m (pastOf d j).length) [] = (pastOf d j)[pickN P m (pastOf d j).length] := by simp [List.getD, hlt]
        rw [this]
        exact List.getElem_mem hlt
      · rw [if_neg (fun x => e x.1)]
        exact ih (by omega)
  have hm := key _ (Nat.le_refl _)
  rw [h.ag.past i hi] at hm
  obtain ⟨b, hb, he⟩ := List.mem_map.1 hm
  exact ⟨b, hb, he.symm⟩
theorem read_at' (d : DD) (k : Nat) (hk : k < d.img.length) : d.read (k : Int) = (d.img.getD k [], 0) := by
  have hh : d.has (k : Int) = 0 := by unfold DD.has; rw [if_neg (by omega)]
  unfold DD.read
  rw [hh, if_pos rfl, Int.toNat_natCast]
/-! ### Noughts behind an own row of ints -/
theorem zcI (k : Nat) : (Builtin.zeroCells (Value.int .i64 0).cells k).toList = (List.replicate k (0 : Int)).map bI := by
  have h : Builtin.zeroCells (Value.int .i64 0).cells k = madeCells #[.int .i64 0] (k * 1) := rfl
  rw [h, made1, Nat.mul_one, List.map_replicate]; rfl
theorem run_append_zerosI {w : World} {base : Nat} {v : Value} {A : List Int} (ty : TypeId) (hown : w.ownsRow base 3 1 v A.length (A.map bI)) (j : Nat) (hb : A.length + j ≤ 1000000) (hbase : base ≤ w.heap.size) :
    ∃ v' w', (Builtin.append_ #[66, 3] ty #[v, .int .i64 j]).run Try.prog w = .ok v' w' ∧ w'.ownsRow base 3 1 v' (A.length + j) ((A ++ List.replicate j 0).map bI) ∧ w.grownBy w' v.ownBlock := by
  obtain ⟨i, hi, hz0, hz1, hz2⟩ := info_parts info3'
  have hw : IntKind.i64.wrap (j : Int) = j := wrapi _ (by omega) (by omega)
  have fresh : ∀ (o : Obj) (row : Option Nat), w.grownBy (w.drew.alloc o) row := fun o row =>
    ⟨rfl, rfl, rfl, by simp, fun k hk _ => Below.heap_alloc w.drew o k hk⟩
  rcases Nat.eq_zero_or_pos j with rfl | hj
  · have hw0 : IntKind.i64.wrap (0 : Int) = 0 := by decide
    refine ⟨v, w, ?_, by simpa using hown, World.grownBy.refl _ _⟩
    rcases hown.2 with ⟨rfl, h0⟩ | ⟨g, cap, cur, rfl, _, _, hnc, _⟩
    · simp [Builtin.append_, run_underlying Try.underlying66, run_underlying Try.underlying3, sizeOf, typeInfo, hi, asInt, asIntOf, hw0]
    · simp [Builtin.append_, run_underlying Try.underlying66, run_underlying Try.underlying3, sizeOf, typeInfo, hi, asInt, asIntOf, hw0, storeCells, hnc]
  · rcases hown.2 with ⟨rfl, h0⟩ | ⟨g, cap, cur, rfl, hbg, hB, hnc, hcm, hs, ht⟩
    · have hA : A = [] := List.eq_nil_of_length_eq_zero h0
      subst hA
      have h := Lib.run_append_nil_zeros (P := Try.prog) w 66 3 ty 3 i _ .i64 .i64 Try.underlying66 Try.underlying3 hi hz0 j hj (by omega) (by omega) (by rw [hz2]; omega)
      refine ⟨_, _, h, ?_, fresh _ _⟩
      have hge := grownCap_ge w j 0 3
      show World.ownsRow _ base 3 1 (.slice (some ⟨w.drew.heap.size, 0, none⟩) j (grownCap w j 0 3)) (0 + j) (([] ++ List.replicate j (0 : Int)).map bI)
      rw [Nat.zero_add, List.nil_append]
      refine Row.mk (Blk.newA w.drew _ 3) hbase hge (grownCap_le_maxLen _ _ _ _ (by unfold maxLen; omega)) ?_ ?_
      · rw [Array.toList_append, zcI, zcI, List.length_append, List.length_map, List.length_map, List.length_replicate, List.length_replicate]; omega
      · rw [Array.toList_append, zcI, zcI, List.take_left' (by simp)]
    · have hBk : Blk w g 3 cur.toList := by unfold Blk; rw [Array.toArray_toList]; exact hB
      by_cases hfit : A.length + j ≤ cap
      · have hlen : (List.map bI (List.replicate j (0 : Int))).length = j := by simp
        have hst := run_storeCells_at Try.prog g A.length 3 ((List.replicate j (0 : Int)).map bI) 0 cur w hB (by rw [hlen]; omega) (bI_oneCell _)
        rw [Nat.add_zero] at hst
        refine ⟨.slice (some ⟨g, 0, none⟩) (A.length + j) cap, w.setRow g (put cur.toList A.length ((List.replicate j (0 : Int)).map bI)).toArray, ?_, ?_, grown_row _ _ _⟩
        · have hneg : ¬ ((j : Int) < 0) := by omega
          have h48 : ¬ ((281474976710656 : Int) < (j : Int) * 8) := by omega
          rw [List.map_replicate] at hst
          simp [Builtin.append_, run_underlying Try.underlying66, run_underlying Try.underlying3, sizeOf, zeroValue, typeInfo, hi, hz0, hz1, asInt, asIntOf, hw, hfit, hz2, show ¬ j = 0 by omega, zcI, put, hneg, h48, Addr.add_lit, hst]
        · refine Row.mk (hBk.row _) hbg hfit hcm ?_ ?_
          · rw [put_length _ _ _ (by rw [hlen]; simp; omega)]; simpa using hs
          · have htl : (cur.toList.take A.length ++ (List.replicate j (0 : Int)).map bI).length = (A.length + j) * 1 := by simp; omega
            rw [Nat.mul_one] at ht
            unfold put
            rw [List.take_left' htl, ht, List.map_append]
      · have hold : (Builtin.firstCells i.size A.length (.slice (some ⟨g, 0, none⟩) A.length cap)).run Try.prog w.drew = .ok (A.map bI).toArray w.drew := by
          rw [hz1]
          exact run_firstCells_some w.drew 1 A.length ⟨g, 0, none⟩ A.length cap (A.map bI) (by simp) (fun k v hk => by
            rw [Addr.add_lit, Nat.zero_add]
            show w.cell? ⟨g, k, none⟩ = some v
            have hlt : k < (A.map bI).length := (List.getElem?_eq_some_iff.1 hk).1
            rw [hBk.cell, ← hk, ← ht, List.getElem?_take, if_pos (by simpa using hlt)])
        have h := Lib.run_append_grow_zeros (P := Try.prog) w 66 3 ty 3 i _ .i64 .i64 Try.underlying66 Try.underlying3 hi hz0 (some ⟨g, 0, none⟩) A.length cap (A.map bI) hold j hj (by omega) (by omega) (by omega) (by rw [hz2]; omega) (growslice_fits (by omega) (by rw [hz2]; omega))
        refine ⟨_, _, h, ?_, fresh _ _⟩
        have hge := grownCap_ge w (A.length + j) cap 3
        refine Row.mk (Blk.newA w.drew _ 3) hbase hge (grownCap_le_maxLen _ _ _ _ (by unfold maxLen; omega)) ?_ ?_
        · rw [Array.toList_append, Array.toList_append, zcI, zcI]; simp; omega
        · rw [Array.toList_append, Array.toList_append, zcI, zcI, List.take_left' (by simp)]; simp
/-! ### Among -/
set_option maxHeartbeats 4000000 in
set_option maxRecDepth 100000 in
theorem among_any (a : Option Addr) (l : List UInt8) (c : Nat) (Sx : List UInt8) (w : World) (hl : l.length ≤ 1000001) (hS : Sx.length = 64) (hrd : Rd w a (l.map b8)) :
    Calls Try.prog 90 #[.slice a l.length c, arr Sx] w fun e w' => e = .returned (.bool (l.any fun b => Sx == full b)) ∧ GB w w' := by
  go_enter Try.func90, Try.ntmps90
  go_wp2_with (first | with_reducible refine halt_box 59 ?_)
  refine L.box rfl (by rfl) (by rfl) ?_
  intro w1 hB1 hG1
  simp only [Act.put, List.setIfInBounds_toArray, List.set_cons_zero, List.set_cons_succ]
  have HS := Lib.hid hS
  clear hS
  go_wp2_with fail
  go_loopw [5] (fun x wr => ∃ i : Nat, x = .int .i64 i ∧ i ≤ l.length ∧ Hid ((l.take i).any (fun b => Sx == full b) = false) ∧ GB w wr ∧ Blk wr w.heap.size 59 (Sx.map b8)) (fun x _ => l.length - (intOf x).toNat)
  case atStart => exact ⟨0, rfl, by omega, Lib.hid (by simp), hG1, hB1⟩
  case round =>
    obtain ⟨i, rfl, hi, HA, hg, hB⟩ := hrel
    by_cases hlt : i < l.length
    · obtain ⟨ad, rfl, hc⟩ := (hg.rd hrd) i (by simpa using hlt)
      simp only [List.getElem_map, b8] at hc
      have hsu : (l.take (i + 1)).any (fun b => Sx == full b) = (Sx == full l[i]) := by
        rw [List.take_succ_eq_append_getElem hlt, List.any_append, HA.out]; simp
      have hall : (Sx == full l[i]) = true → l.any (fun b => Sx == full b) = true := fun h => List.any_eq_true.2 ⟨l[i], List.getElem_mem hlt, h⟩
      generalize l[i] = x at *
      have HF64 := Lib.hid (full_length x)
      have HFX : Hid (∀ u, Calls Try.prog 83 #[.int .u8 (n8 x)] u fun e w' => e = .returned (arr (full x)) ∧ GB u w') := Lib.hid (fun u => full_any x u)
      have HSU := Lib.hid hsu
      have HALL := Lib.hid hall
      clear hsu hall
      have hBd := Blk.gb hB (GB.drew wr)
      have hgd := GB.trans _ _ _ hg (GB.drew wr)
      have C0 : ∀ u, GB wr.drew u → u.cell? (ad.add i) = some (.int .u8 (n8 x)) := fun u hu => hu.cell ((GB.drew wr).cell hc)
      generalize full x = V at *
      by_cases he : Sx = V
      · have hq : (Sx == V) = true := by simp [he]
        have HE := Lib.hid (HALL.out hq)
        clear he HALL HSU
        go_upto_region 4 with fail
        refine region_gb [(0,0),(1,0),(2,0),(3,0),(4,0),(5,1),(6,0)] [] (by kernel_rfl) ?_
        refine S0 (by rfl) (by rfl) (fun u hu => X.load rfl (by rfl) Try.underlying59 info59 (hBd.gb hu) HS.out) ?_
        simp only [Act.put, List.setIfInBounds_toArray, List.set_cons_zero, List.set_cons_succ]
        iterate 4 (refine S0w (v := ?_) (by rfl) (by rfl) (fun u hu N hN => ?_) ?_; rotate_left; (go_simp; exact hN); simp only [Act.put, List.setIfInBounds_toArray, List.set_cons_zero, List.set_cons_succ])
        refine S1 (by rfl) (by rfl) (fun K hK => ?_)
        go_wp2_with fail
        refine (HFX.out _).mono ?_
        rintro e y ⟨rfl, hby⟩
        refine hK _ _ hby ?_
        clear hK K
        refine S0 (by rfl) (by rfl) (fun u hu => X.eql rfl (by rfl) (by rfl) Try.underlying59 guard59 HS.out HF64.out) ?_
        simp only [Act.put, List.setIfInBounds_toArray, List.set_cons_zero, List.set_cons_succ]
        rw [hq]
        refine S.done ?_
        go_wp2_with fail
        go_ret
        exact ⟨by rw [HE.out]; rfl, GB.trans _ _ _ hgd hby⟩
      · have hq : (Sx == V) = false := by simp [he]
        have HE : Hid ((l.take (i + 1)).any (fun b => Sx == full b) = false) := Lib.hid (by rw [HSU.out]; exact hq)
        clear he HALL HSU
        go_upto_region 4 with fail
        refine region_gb [(0,0),(1,0),(2,0),(3,0),(4,0),(5,1),(6,0)] [] (by kernel_rfl) ?_
        refine S0 (by rfl) (by rfl) (fun u hu => X.load rfl (by rfl) Try.underlying59 info59 (hBd.gb hu) HS.out) ?_
        simp only [Act.put, List.setIfInBounds_toArray, List.set_cons_zero, List.set_cons_succ]
        iterate 4 (refine S0w (v := ?_) (by rfl) (by rfl) (fun u hu N hN => ?_) ?_; rotate_left; (go_simp; exact hN); simp only [Act.put, List.setIfInBounds_toArray, List.set_cons_zero, List.set_cons_succ])
        refine S1 (by rfl) (by rfl) (fun K hK => ?_)
        go_wp2_with fail
        refine (HFX.out _).mono ?_
        rintro e y ⟨rfl, hby⟩
        refine hK _ _ hby ?_
        clear hK K
        refine S0 (by rfl) (by rfl) (fun u hu => X.eql rfl (by rfl) (by rfl) Try.underlying59 guard59 HS.out HF64.out) ?_
        simp only [Act.put, List.setIfInBounds_toArray, List.set_cons_zero, List.set_cons_succ]
        rw [hq]
        refine S.done ?_
        go_wp2_with fail
        go_roundw
        case rel => exact ⟨i + 1, by go_num, by omega, HE, GB.trans _ _ _ hgd hby, Blk.gb hBd hby⟩
        case measure => simp [intOf]; omega
    · have HE : Hid (l.any (fun b => Sx == full b) = false) := Lib.hid (by have := HA.out; rwa [List.take_of_length_le (by omega)] at this)
      go_wp2_with fail
      go_ret
      exact ⟨by rw [HE.out]; rfl, hg⟩
/-! ### Three copies in memory -/
theorem wpList_appendZ {w : World} {ops : Array Oper} {rest : List Oper} {o : Oper} {a : Act} {Q : Exit → Act → World → Prop} (hgd : o.guard = none) (s x : Operand)
    (ho : o.op = .call { callee := .builtin .append, args := #[s, x], argTypes := #[66, 3] })
    {base j : Nat} {v : Value} {A : List Int} (hs : a.eval s = v) (hown : w.ownsRow base 3 1 v A.length (A.map bI)) (hx : a.eval x = .int .i64 j) (hb : A.length + j ≤ 1000000) (hbase : base ≤ w.heap.size)
    (h : ∀ v' w', w'.ownsRow base 3 1 v' (A.length + j) ((A ++ List.replicate j 0).map bI) → w.grownBy w' v.ownBlock → wpList Try.prog ops Q rest (a.put o.dst v') w') : wpList Try.prog ops Q (o :: rest) a w :=
  wpList_plain hgd fun _ hK => by
    obtain ⟨v', w', hr, h2, h3⟩ := run_append_zerosI o.type hown j hb hbase
    refine wp_run ?_ (hK _ _ (h v' w' h2 h3))
    simp only [execOp, ho, resolve, invoke, builtin, Sem.run_bind, Sem.run_pure, Result.andThen_ok, List.map_toArray, List.map_cons, List.map_nil, hs, hx, hr]
theorem info3_size : ∃ i, Try.prog.info? 3 = some i ∧ i.size = 1 := by
  obtain ⟨i, hi, _, h1, _⟩ := info_parts info3'
  exact ⟨i, hi, h1⟩
theorem cut66_from (a : Option Addr) (len cap n : Nat) (k : IntKind) (x : Int) (hx : x = n) (hn : n ≤ len) (w : World) :
    (Instr.sliceAt 66 (.slice a len cap) (some (.int k x)) none none).run Try.prog w = .ok (.slice (cutAt a n cap 1) (len - n) (cap - n)) w ∧
    (Instr.slice 66 (.slice a len cap) (some (.int k x)) none none).run Try.prog w = .ok (.slice (cutAt a n cap 1) (len - n) (cap - n)) w := by
  subst hx
  obtain ⟨i, hi, h1⟩ := info3_size
  have h := run_cut_from (P := Try.prog) Try.underlying66 hi w a len cap n k hn
  rw [h1] at h
  exact ⟨h, by rw [← sliceAt_slice Try.underlying66]; exact h⟩
/-- A disk with its reference, and three copies of it; a row of ints that none of them bears. -/
structure Three (w u : World) (oa : Option Addr) (O : List Int) (p q : Nat) (D : DD) (R : RD) (Fd Gr : Nat → Prop) (p1 p2 p3 : Nat) (A B C : DD) (F1 F2 F3 : Nat → Prop) : Prop where
  d0 : DiskAt u p D Fd
  r0 : RefAt u q R Gr
  a : DiskAt u p1 A F1
  b : DiskAt u p2 B F2
  c : DiskAt u p3 C F3
  ab : ∀ k, F1 k → ¬ F2 k
  bc : ∀ k, F2 k → ¬ F3 k
  ca : ∀ k, F3 k → ¬ F1 k
  old : ∀ k, (Fd k ∨ Gr k) → ¬ F1 k ∧ ¬ F2 k ∧ ¬ F3 k
  l1 : ∀ k, F1 k → w.heap.size ≤ k
  l2 : ∀ k, F2 k → w.heap.size ≤ k
  l3 : ∀ k, F3 k → w.heap.size ≤ k
  ro : Rd u oa (O.map bI)
  off : ∀ ad, oa = some ad → ad.block < u.heap.size ∧ ¬ F1 ad.block ∧ ¬ F2 ad.block ∧ ¬ F3 ad.block
  gb : GB w u
section
variable {w u x : World} {oa : Option Addr} {O : List Int} {p q : Nat} {D : DD} {R : RD} {Fd Gr : Nat → Prop} {p1 p2 p3 : Nat} {A B C A' : DD} {F1 F2 F3 : Nat → Prop}
theorem Three.on (h : Three w u oa O p q D R Fd Gr p1 p2 p3 A B C F1 F2 F3) (g : GB u x) : Three w x oa O p q D R Fd Gr p1 p2 p3 A B C F1 F2 F3 :=
  ⟨h.d0.gb g, h.r0.gb g, h.a.gb g, h.b.gb g, h.c.gb g, h.ab, h.bc, h.ca, h.old, h.l1, h.l2, h.l3, g.rd h.ro, fun ad ha => ⟨Nat.lt_of_lt_of_le (h.off ad ha).1 (Below.size g), (h.off ad ha).2⟩, GB.trans _ _ _ h.gb g⟩
theorem Three.rot (h : Three w u oa O p q D R Fd Gr p1 p2 p3 A B C F1 F2 F3) : Three w u oa O p q D R Fd Gr p2 p3 p1 B C A F2 F3 F1 :=
  ⟨h.d0, h.r0, h.b, h.c, h.a, h.bc, h.ca, h.ab, fun k hk => ⟨(h.old k hk).2.1, (h.old k hk).2.2, (h.old k hk).1⟩, h.l2, h.l3, h.l1, h.ro, fun ad ha => ⟨(h.off ad ha).1, (h.off ad ha).2.2.1, (h.off ad ha).2.2.2, (h.off ad ha).2.1⟩, h.gb⟩
theorem Three.step (h : Three w u oa O p q D R Fd Gr p1 p2 p3 A B C F1 F2 F3) (m : Moved p1 A' F1 u x) : ∃ F1', Three w x oa O p q D R Fd Gr p1 p2 p3 A' B C F1' F2 F3 := by
  obtain ⟨F1', a1, a2, a3⟩ := m
  have hs := Below.size h.gb
  have b2 := h.b.bnd
  have b3 := h.c.bnd
  refine ⟨F1', h.d0.fr a2 (fun j hj => (h.old j (.inl hj)).1), h.r0.fr a2 (fun j hj => (h.old j (.inr hj)).1), a1, h.b.fr a2 (fun j hj hf => h.ab j hf hj), h.c.fr a2 (fun j hj hf => h.ca j hj hf), fun k hk hf => ?_, h.bc, fun k hk hf => ?_, fun k hk => ⟨fun hf => ?_, (h.old k hk).2⟩, fun k hk => ?_, h.l2, h.l3, a2.rd h.ro (fun ad ha => (h.off ad ha).2.1), fun ad ha => ⟨Nat.lt_of_lt_of_le (h.off ad ha).1 a2.size, fun hf => ?_, (h.off ad ha).2.2⟩, a2.gbw h.gb h.l1⟩
  · rcases a3 k hk with h' | h'
    · exact h.ab k h' hf
    · have := b2 k hf; omega
  · rcases a3 k hf with h' | h'
    · exact h.ca k hk h'
    · have := b3 k hk; omega
  · rcases a3 k hf with h' | h'
    · exact (h.old k hk).1 h'
    · rcases hk with hk | hk
      · have := h.d0.bnd k hk; omega
      · have := h.r0.bnd k hk; omega
  · rcases a3 k hk with h' | h'
    · exact h.l1 k h'
    · omega
  · have := h.off ad ha
    rcases a3 ad.block hf with h' | h'
    · exact this.2.1 h'
    · omega
end
/-! ### The walk -/
set_option maxHeartbeats 8000000 in
set_option maxRecDepth 100000 in
theorem futures_walk (n : Int) (sa : Option Addr) (xs : List SArg) (sc : Nat) (pa : Option Addr) (P : List Int) (pc : Nat) (c : Int) (w : World) (h : StepsAt w sa xs) (hrp : Rd w pa (P.map bI)) (hpc : P.length ≤ pc) :
    Calls Try.prog 18 #[.int .i64 n, .slice sa xs.length sc, .slice pa P.length pc, .int .i64 c] w fun e w' => e = .returned (.bool true) ∧ GB w w' := by
  have hkn := Lib.hid (fun u => known3_any u)
  have HM1 := Lib.hid (fun u (hu : GB w u) => much_any sa xs sc 40 u (h.gb hu) (by decide))
  have HP : Hid (∀ b, (b = false → xs.length ≤ 40 ∧ ∀ s ∈ xs, s.x.picks.length ≤ 1000) → b = false → xs.length ≤ 40 ∧ Hid (∀ s ∈ xs, s.x.picks.length ≤ 1000)) := Lib.hid (fun b hb h => ⟨(hb h).1, Lib.hid (hb h).2⟩)
  go_enter Try.func18, Try.ntmps18
  go_upto_region 1 with fail
  go_cut [34] (fun s wx => ∃ bb, s = .bool bb ∧ w = wx ∧ (bb = false → 1 ≤ n ∧ n ≤ 12 ∧ (xs.length ≤ 40 ∧ Hid (∀ s ∈ xs, s.x.picks.length ≤ 1000)) ∧ P.length ≤ 30))
  case first =>
    by_cases hn1 : n < 1
    · go_wp2_with fail
      go_meet
      case rel => exact ⟨true, rfl, rfl, fun h => by cases h⟩
    · by_cases hn2 : 12 < n
      · go_wp2_with fail
        go_meet
        case rel => exact ⟨true, rfl, rfl, fun h => by cases h⟩
      · go_wp2_with fail
        refine (HM1.out _ (GB.refl _)).mono ?_
        rintro e w1 ⟨b, rfl, rfl, hb⟩
        replace hb := HP.out _ hb
        cases b
        · have hb1 := hb rfl
          clear hb
          go_wp2_with fail
          go_meet
          case rel => exact ⟨_, rfl, rfl, fun h => ⟨by omega, by omega, hb1, by simp at h; omega⟩⟩
        · go_wp2_with fail
          go_meet
          case rel => exact ⟨true, rfl, rfl, fun h => by cases h⟩
  case rest =>
    obtain ⟨bb, rfl, rfl, hbb⟩ := hcut
    cases bb
    case true =>
      go_wp2_with fail
      refine (hkn.out _).mono ?_
      rintro e w2 ⟨rfl, hb2⟩
      go_wp2_with fail
      go_ret
      exact ⟨rfl, hb2⟩
    obtain ⟨hn1, hn2, ⟨hx40, hxp⟩, hp30⟩ := hbb rfl
    clear hbb HM1 HP
    obtain ⟨m, rfl⟩ : ∃ m : Nat, n = (m : Int) := ⟨n.toNat, by omega⟩
    have HPR : Hid (∀ u, GB w u → Calls Try.prog 88 #[.int .i64 m, .slice sa xs.length sc] u (fun e w' => ∃ p q, e = .returned (.tuple #[.pointer (some ⟨p, 0, none⟩), .pointer (some ⟨q, 0, none⟩)]) ∧ Both u w' p q xs.length (runD m xs) (runR m xs))) :=
      Lib.hid (fun u g => pair_det m sa xs sc u (h.gb g) (by omega) hxp.out (by omega) (by omega))
    generalize runD m xs = D at *
    generalize runR m xs = R at *
    generalize xs.length = Xn at *
    clear h hxp
    go_wp2_with fail
    refine (HPR.out _ (GB.refl _)).mono ?_
    rintro e w1 ⟨p, q, rfl, hi0, Fd, Gr, hd, hr, hdr, hFd, hGr, hg1⟩
    have hop := ropen3_any q R Gr w1 hr hi0.rg
    clear HPR
    go_wp2_with fail
    refine hop.mono ?_
    rintro e w2 ⟨v, rfl, hov, hg2⟩
    have hOD : Hid (openL D.jr = R.openR) := Lib.hid (hi0.ag.open hi0.dg.inn)
    have hOl : R.openR.length ≤ 1000 := by rw [← hOD.out]; have := openL_length D.jr; have := hi0.jr; omega
    obtain ⟨oa, oc, rfl, hro, -, -, -, -⟩ := Row.shape hov
    have hofo : ∀ ad, oa = some ad → ad.block < w2.heap.size := fun ad ha => by subst ha; exact (hov.lt ad.block rfl).2
    have hd2 := hd.gb hg2
    have hr2 := hr.gb hg2
    have hjr : D.jr.length ≤ 1000000 := by have := hi0.jr; omega
    have HCP : Hid (∀ u, GB w2 u → Calls Try.prog 46 #[.pointer (some ⟨p, 0, none⟩)] u (GivesCopyD D u)) := Lib.hid (fun u g => copyd_any p D Fd u (hd2.gb g) hi0.dg hjr)
    generalize R.openR = O at *
    have hgw2 := GB.trans _ _ _ hg1 hg2
    have HI0 := Lib.hid hi0
    have hRf := hi0.rg.few
    clear hop hov hi0 hjr hg2
    go_wp2_with fail
    refine (HCP.out _ (GB.refl _)).mono ?_
    rintro e w3 ⟨p1, F1, rfl, ht1, hg3, hF1⟩
    go_wp2_with fail
    refine (HCP.out _ hg3).mono ?_
    rintro e w4 ⟨p2, F2, rfl, ht2, hg4, hF2⟩
    have hg24 := GB.trans _ _ _ hg3 hg4
    go_wp2_with fail
    refine (HCP.out _ hg24).mono ?_
    rintro e w5 ⟨p3, F3, rfl, ht3, hg5, hF3⟩
    have hg25 := GB.trans _ _ _ hg24 hg5
    have hT : Three w w5 oa O p q D R Fd Gr p1 p2 p3 D D D F1 F2 F3 := by
      have s1 := Below.size hgw2
      have s3 := Below.size hg3
      have s4 := Below.size hg4
      have s5 := Below.size hg5
      have b1 := ht1.bnd
      have b2 := ht2.bnd
      have bd := hd2.bnd
      have br := hr2.bnd
      refine ⟨hd2.gb hg25, hr2.gb hg25, ht1.gb (GB.trans _ _ _ hg4 hg5), ht2.gb hg5, ht3, fun k h1 h2 => ?_, fun k h1 h2 => ?_, fun k h1 h2 => ?_, fun k hk => ⟨fun hf => ?_, fun hf => ?_, fun hf => ?_⟩, fun k hk => ?_, fun k hk => ?_, fun k hk => ?_, hg25.rd hro, fun ad ha => ⟨?_, fun hf => ?_, fun hf => ?_, fun hf => ?_⟩, GB.trans _ _ _ hgw2 hg25⟩
      · have := b1 k h1; have := hF2 k h2; omega
      · have := b2 k h1; have := hF3 k h2; omega
      · have := b1 k h2; have := hF3 k h1; omega
      · have := hF1 k hf
        rcases hk with hk | hk
        · have := bd k hk; omega
        · have := br k hk; omega
      · have := hF2 k hf
        rcases hk with hk | hk
        · have := bd k hk; omega
        · have := br k hk; omega
      · have := hF3 k hf
        rcases hk with hk | hk
        · have := bd k hk; omega
        · have := br k hk; omega
      · have := hF1 k hk; omega
      · have := hF2 k hk; omega
      · have := hF3 k hk; omega
      · have := hofo ad ha; omega
      · have := hofo ad ha; have := hF1 _ hf; omega
      · have := hofo ad ha; have := hF2 _ hf; omega
      · have := hofo ad ha; have := hF3 _ hf; omega
    have HCR : Hid (∀ (p' : Nat) (F' : Nat → Prop) (a' : Option Addr) (L' : List Int) (c' : Nat) (u : World), DiskAt u p' D F' → Rd u a' (L'.map bI) → Calls Try.prog 45 #[.pointer (some ⟨p', 0, none⟩), .slice a' L'.length c'] u fun e w' => e = .returned (.int .i64 0) ∧ Moved p' (D.crash L') F' u w') :=
      Lib.hid (fun p' F' a' L' c' u h1 h2 => crash_any p' D F' a' L' c' u h1 HI0.out.dg (by have := HI0.out.jr; omega) h2)
    clear hd hr hdr hFd hGr hg1 hro hofo hd2 hr2 HCP ht1 hg3 hF1 ht2 hg4 hF2 hg24 ht3 hg5 hF3 hg25 hgw2
    go_wp2_with fail
    refine (HCR.out p1 F1 pa P pc _ hT.a (hT.gb.rd hrp)).mono ?_
    rintro e w6 ⟨rfl, hm6⟩
    obtain ⟨F1', hT6⟩ := hT.step hm6
    replace hT6 := hT6.rot
    clear hT hm6
    go_upto_region 11 with fail
    go_cut [74] (fun s wx => s = .int .i64 0 ∧ ∃ F2', Three w wx oa O p q D R Fd Gr p2 p3 p1 (D.crash (c :: P.drop 1)) D (D.crash P) F2' F3 F1')
    case first =>
      obtain ⟨k, hmi, hkl, hkd⟩ : ∃ k : Nat, min (1 : Int) (P.length : Int) = (k : Int) ∧ k ≤ P.length ∧ P.drop k = P.drop 1 := by
        cases P with
        | nil => exact ⟨0, rfl, Nat.le_refl _, rfl⟩
        | cons y P => exact ⟨1, by simp only [List.length_cons]; omega, by simp, rfl⟩
      have hcA := fun u => (cut66_from pa P.length pc k .i64 (k : Int) rfl hkl u).1
      have hcB := fun u => (cut66_from pa P.length pc k .i64 (k : Int) rfl hkl u).2
      have hrdk := (hT6.gb.rd hrp).cut k pc 1 (by simp; omega)
      rw [Nat.mul_one, ← List.map_drop] at hrdk
      have hml : (P.drop k).length = P.length - k := List.length_drop
      generalize P.drop k = M at *
      have HKD := Lib.hid hkd
      generalize P.length - k = ml at *
      generalize cutAt pa k pc 1 = ca at *
      generalize pc - k = cc at *
      have hml9 : ml ≤ 1000 := by have := congrArg List.length hkd; simp at this; omega
      have HML := Lib.hid hml
      clear hml hkd
      go_wp2_with (first | with_reducible refine halt_builtin .append ?_)
      refine (wpList_appendV elemI (base := w6.heap.size) (n := 1) (cs := [bI c]) (ms := M.map bI) (m := ml) rfl (.tmp 67) (.tmp 72) rfl (by rfl) (Row.mk (Blk.new w6 [bI c] 3) (Nat.le_refl _) (Nat.le_refl _) (by unfold maxLen; omega) rfl rfl) (by rfl) (by have := HML.out; simp; omega) (GB.rd ((Below.refl _ _).alloc (Nat.le_refl _) _) hrdk) (bI_oneCell M) (by omega) (by simp) ?_)
      intro v7 w7 hv7 hG7
      have hgA : GB w6 (w6.alloc (.cells #[bI c] 3)) := (Below.refl _ _).alloc (Nat.le_refl _) _
      have hg7 : GB w6 w7 := hgA.grown hG7 hgA.size (fun j hj => by cases hj; exact Nat.le_refl _)
      obtain ⟨a7, c7, rfl, hrd7, -, -, -, -⟩ := Row.shape hv7
      have hT7 := hT6.on hg7
      have hcr := HCR.out p2 F2 a7 (c :: M) c7 w7 hT7.a hrd7
      rw [show (c :: M).length = 1 + ml by rw [List.length_cons, HML.out]; omega] at hcr
      clear hcA hcB hrdk hv7 hG7 hgA hrd7
      go_wp2_with fail
      refine hcr.mono ?_
      rintro e w8 ⟨rfl, hm8⟩
      go_wp2_with fail
      go_meet
      case rel => exact ⟨rfl, by rw [← HKD.out]; exact hT7.step hm8⟩
    case rest =>
      obtain ⟨rfl, F2', hT8⟩ := hcut
      replace hT8 := hT8.rot
      clear hT6
      go_upto_region 12 with fail
      go_cut [85] (fun s wx => s = .int .i64 0 ∧ ∃ F3', Three w wx oa O p q D R Fd Gr p3 p1 p2 (D.crash P) (D.crash P) (D.crash (c :: P.drop 1)) F3' F1' F2')
      case first =>
        obtain ⟨z, hz⟩ : ∃ z : Int, (O.length : Int) - (P.length : Int) = z := ⟨_, rfl⟩
        obtain ⟨j, hj, hj1⟩ : ∃ j : Nat, max z 0 = (j : Int) ∧ j ≤ 1000 := ⟨(max z 0).toNat, by omega, by omega⟩
        have hwz : IntKind.i64.wrap z = z := wrapi _ (by omega) (by omega)
        have hrdP := hT8.gb.rd hrp
        go_wp2_with (first | (at_builtin; refine wpList_appendV elemI (base := wc.heap.size) (n := 0) (cs := []) (ms := P.map bI) (m := P.length) rfl (.const (.slice none 0 0)) (.tmp 76) rfl (by rfl) (World.ownsRow_nil wc wc.heap.size 3 1) (by rfl) (by simp) hrdP (bI_oneCell P) (by omega) (Nat.le_refl _) ?_))
        intro v9 w9 hv9 hG9
        have hg9 : GB wc w9 := (GB.refl wc).grown hG9 (Nat.le_refl _) (fun j hj => by cases hj)
        have hs9 := Below.size hg9
        replace hv9 : w9.ownsRow wc.heap.size 3 1 v9 P.length (P.map bI) := by simpa using hv9
        obtain ⟨a9, c9, rfl, -, -, -, -, -⟩ := Row.shape hv9
        clear hG9 hrdP
        go_wp2_with (first | (at_builtin; refine wpList_appendZ (j := j) (A := P) rfl (.tmp 77) (.tmp 83) rfl rfl hv9 (by rfl) (by omega) hs9 ?_))
        intro v10 w10 hv10 hG10
        have hg10 : GB wc w10 := hg9.grown hG10 hs9 (fun j hj => (hv9.lt j hj).1)
        obtain ⟨a10, c10, rfl, hrd10, -, -, -, -⟩ := Row.shape hv10
        have hT10 := hT8.on hg10
        replace hrd10 : Rd w10 a10 ((P ++ List.replicate j (0 : Int)).map bI) := by simpa using hrd10
        have hcr := HCR.out p3 F3 a10 (P ++ List.replicate j 0) c10 w10 hT10.a hrd10
        rw [List.length_append, List.length_replicate, crash_noughts] at hcr
        clear hv9 hv10 hG10 hrd10
        go_wp2_with fail
        refine hcr.mono ?_
        rintro e w11 ⟨rfl, hm11⟩
        go_wp2_with fail
        go_meet
        case rel => exact ⟨rfl, hT10.step hm11⟩
      case rest =>
        obtain ⟨rfl, F3', hT11⟩ := hcut
        replace hT11 := hT11.rot
        clear hT8 HCR
        generalize hA : D.crash P = A at *
        generalize hB : D.crash (c :: P.drop 1) = B at *
        have hAg : DGood A := by rw [← hA]; exact DGood.crash HI0.out.dg P
        have hBg : DGood B := by rw [← hB]; exact DGood.crash HI0.out.dg _
        have hAl : A.img.length = R.s.length := by rw [← hA]; show (crashK D P _).length = _; rw [crashK_length]; exact HI0.out.ag.len
        have hBl : B.img.length = R.s.length := by rw [← hB]; show (crashK D _ _).length = _; rw [crashK_length]; exact HI0.out.ag.len
        have hAj : A.jr = [] := by rw [← hA]; rfl
        have hBj : B.jr = [] := by rw [← hB]; rfl
        have HAM : Hid (∀ i, i < R.s.length → (R.s.getD i []).any (fun b => A.img.getD i [] == full b) = true) := Lib.hid (fun i hi => by
          obtain ⟨b, hb, he⟩ := crash_among HI0.out P i hi
          rw [hA] at he
          exact List.any_eq_true.2 ⟨b, hb, by rw [he]; simp⟩)
        have HBM : Hid (∀ i, i < R.s.length → (R.s.getD i []).any (fun b => B.img.getD i [] == full b) = true) := Lib.hid (fun i hi => by
          obtain ⟨b, hb, he⟩ := crash_among HI0.out (c :: P.drop 1) i hi
          rw [hB] at he
          exact List.any_eq_true.2 ⟨b, hb, by rw [he]; simp⟩)
        have HNE : Hid (∀ i : Nat, A.img.getD i [] ≠ B.img.getD i [] → 0 < O.length ∧ O.getD 0 0 = (i : Int)) := Lib.hid (fun i hi => by
          by_cases hz : O.length = 0
          · refine absurd ?_ hi
            have := crash_first D c P i (.inl (by rw [hOD.out]; exact hz)) (open_nonneg D)
            rw [hA, hB] at this; exact this
          · by_cases h0 : O.getD 0 0 = (i : Int)
            · exact ⟨by omega, h0⟩
            · refine absurd ?_ hi
              have := crash_first D c P i (.inr (by rw [hOD.out]; exact h0)) (open_nonneg D)
              rw [hA, hB] at this; exact this)
        have HSM := Lib.hid (fun u (g : GB wc u) => same_any p1 p3 A A F1' F3' u (hT11.a.gb g) hAg (by rw [hAj]; simp) (hT11.c.gb g) hAg (by rw [hAj]; simp))
        have hss : A.same A = true := by unfold DD.same; simp
        rw [hss] at HSM
        have HOA : Hid (∀ u, GB wc u → Calls Try.prog 48 #[.pointer (some ⟨p1, 0, none⟩)] u (GivesInts [] u)) := Lib.hid (fun u g => by
          have := dopen_any p1 A F1' u (hT11.a.gb g) hAg (by rw [hAj]; simp)
          rw [hAj] at this; exact this)
        have HOB : Hid (∀ u, GB wc u → Calls Try.prog 48 #[.pointer (some ⟨p2, 0, none⟩)] u (GivesInts [] u)) := Lib.hid (fun u g => by
          have := dopen_any p2 B F2' u (hT11.b.gb g) hBg (by rw [hBj]; simp)
          rw [hBj] at this; exact this)
        have HSH := Lib.hid (fun u (g : GB wc u) => shows_any p q Xn D R Fd Gr u (hT11.d0.gb g) (hT11.r0.gb g) HI0.out (by omega))
        clear hss hAj hBj hA hB
        go_wp2_with fail
        refine (HSM.out _ (GB.refl _)).mono ?_
        rintro e w12 ⟨rfl, g12⟩
        go_wp2_with fail
        refine (HOA.out _ g12).mono ?_
        rintro e w13 ⟨v13, rfl, hv13, g13⟩
        obtain ⟨a13, c13, rfl, -, -, -, -, -⟩ := Row.shape hv13
        replace g13 := GB.trans _ _ _ g12 g13
        clear hv13
        simp only [List.length_nil]
        go_wp2_with fail
        refine (HOB.out _ g13).mono ?_
        rintro e w14 ⟨v14, rfl, hv14, g14⟩
        obtain ⟨a14, c14, rfl, -, -, -, -, -⟩ := Row.shape hv14
        replace g14 := GB.trans _ _ _ g13 g14
        clear hv14
        simp only [List.length_nil]
        go_wp2_with fail
        refine (HSH.out _ g14).mono ?_
        rintro e w15 ⟨rfl, g15⟩
        have hT15 := hT11.on (GB.trans _ _ _ g14 g15)
        clear HSM HOA HOB HSH g12 g13 g14 g15 hT11
        have HAG := Lib.hid hAg
        have HBG := Lib.hid hBg
        have HAL := Lib.hid hAl
        have HBL := Lib.hid hBl
        clear hAg hBg hAl hBl
        go_wp2_with fail
        go_loopw [15] (fun x wr => ∃ i : Nat, x = .int .i64 i ∧ i ≤ R.s.length ∧ GB w15 wr) (fun x _ => R.s.length - (intOf x).toNat)
        case atStart => exact ⟨0, rfl, by omega, GB.refl _⟩
        case round =>
          obtain ⟨i, rfl, hi, hgr⟩ := hrel
          have hTr := hT15.on hgr
          have hse := sectors_any p1 A F1' wr hTr.a
          rw [HAL.out] at hse
          by_cases hlt : i < R.s.length
          · have hrA := read_any p1 A F1' i wr hTr.a HAG.out
            rw [read_at' A i (by rw [HAL.out]; exact hlt)] at hrA
            have HRB : Hid (∀ u, GB wr u → Calls Try.prog 42 #[.pointer (some ⟨p2, 0, none⟩), .int .i64 i] u (GivesArr (B.img.getD i []) 0 u)) := Lib.hid (fun u g => by
              have := read_any p2 B F2' i u (hTr.b.gb g) HBG.out
              rw [read_at' B i (by rw [HBL.out]; exact hlt)] at this; exact this)
            have h64 : ∀ Z : DD, DGood Z → Z.img.length = R.s.length → (Z.img.getD i []).length = 64 := fun Z hZ hl => by
              have h0 : i < Z.img.length := by omega
              rw [show Z.img.getD i [] = Z.img[i] by simp [List.getD, h0]]
              exact hZ.sec.at i h0
            have HSX := Lib.hid (h64 A HAG.out HAL.out)
            have HSY := Lib.hid (h64 B HBG.out HBL.out)
            have HNEi := Lib.hid (HNE.out i)
            have HAMi := Lib.hid (HAM.out i hlt)
            have HBMi := Lib.hid (HBM.out i hlt)
            clear h64
            generalize A.img.getD i [] = Sx at *
            generalize B.img.getD i [] = Sy at *
            go_wp2_with fail
            refine hse.mono ?_
            rintro e w16 ⟨rfl, rfl⟩
            clear hse
            go_wp2_with fail
            refine hrA.mono ?_
            rintro e w17 ⟨rfl, hb17⟩
            clear hrA
            simp only
            go_wp2_with (first | with_reducible refine halt_alloc 59 ?_ | with_reducible refine halt_store 59 ?_)
            refine L.alloc rfl zero59 (by rfl) ?_
            intro w18 hA18 hG18
            simp only [Act.put, List.setIfInBounds_toArray, List.set_cons_zero, List.set_cons_succ]
            go_wp2_with (first | with_reducible refine halt_alloc 59 ?_ | with_reducible refine halt_store 59 ?_)
            refine L.store rfl info59 (by rfl) (by rfl) hA18 (by rw [List.length_map]; exact zeros_length 64) HSX.out (by rfl) ?_
            intro w19 hS19 hG19
            simp only [Act.put]
            have f19 : Fr (· = w17.heap.size) w17 w19 := (Fr.of_gb hG18).trans (Fr.of_grown hG19 (fun j hj => by cases hj; rfl))
            have g19 : GB wr w19 := Fr.gbw hb17 (fun j e => by have := Below.size hb17; omega) f19
            clear f19 hG18 hG19 hA18 hb17
            generalize w17.heap.size = bx at *
            go_wp2_with fail
            refine (HRB.out _ g19).mono ?_
            rintro e w20 ⟨rfl, hb20⟩
            replace hS19 := Blk.gb hS19 hb20
            replace g19 := GB.trans _ _ _ g19 hb20
            clear HRB hb20
            simp only
            go_wp2_with (first | with_reducible refine halt_alloc 59 ?_ | with_reducible refine halt_store 59 ?_)
            refine L.alloc rfl zero59 (by rfl) ?_
            intro w21 hA21 hG21
            simp only [Act.put, List.setIfInBounds_toArray, List.set_cons_zero, List.set_cons_succ]
            go_wp2_with (first | with_reducible refine halt_alloc 59 ?_ | with_reducible refine halt_store 59 ?_)
            refine L.store rfl info59 (by rfl) (by rfl) hA21 (by rw [List.length_map]; exact zeros_length 64) HSY.out (by rfl) ?_
            intro wk hS22 hG22
            simp only [Act.put]
            have f22 : Fr (· = w20.heap.size) w20 wk := (Fr.of_gb hG21).trans (Fr.of_grown hG22 (fun j hj => by cases hj; rfl))
            have gk : GB wr wk := Fr.gbw g19 (fun j e => by have := Below.size g19; omega) f22
            have hSx := f22.blk hS19 (by have := hS19.lt; omega)
            clear f22 hG21 hG22 hA21 g19 hS19
            generalize w20.heap.size = bY at *
            have hTk := hTr.on (GB.trans _ _ _ gk (GB.drew wk))
            have hgk := GB.trans _ _ _ (GB.trans _ _ _ hgr gk) (GB.drew wk)
            obtain ⟨y, hry⟩ := hTk.r0
            obtain ⟨gs, vc, ra, rac, hvs, hc, hrT, -⟩ := hry.at i hlt
            have hq0 := hry.blk
            rw [hvs] at hq0
            have hRi : R.s.getD i [] = R.s[i] := by simp [List.getD, hlt]
            have hTl := (HI0.out.rg.ne _ (List.getElem_mem hlt)).2
            rw [hRi] at HAMi HBMi
            have HAX : Hid (∀ u, GB wk.drew u → Calls Try.prog 90 #[.slice ra R.s[i].length rac, arr Sx] u fun e w' => e = .returned (.bool true) ∧ GB u w') := Lib.hid (fun u g => by
              have := among_any ra R.s[i] rac Sx u (by omega) HSX.out (g.rd hrT)
              rw [HAMi.out] at this; exact this)
            have HAY : Hid (∀ u, GB wk.drew u → Calls Try.prog 90 #[.slice ra R.s[i].length rac, arr Sy] u fun e w' => e = .returned (.bool true) ∧ GB u w') := Lib.hid (fun u g => by
              have := among_any ra R.s[i] rac Sy u (by omega) HSY.out (g.rd hrT)
              rw [HBMi.out] at this; exact this)
            have C0 : ∀ u, GB wk.drew u → u.cell? ⟨q, 0, none⟩ = some (.slice (some ⟨gs, 0, none⟩) R.s.length vc) := fun u hu => (hq0.gb hu).cell 0
            have C1 : ∀ u, GB wk.drew u → u.cell? ⟨gs, i, none⟩ = some (.slice ra R.s[i].length rac) := fun u hu => hu.cell hc
            have hro := hTk.ro
            clear HAMi HBMi hRi hTl hq0 hc hvs hry hrT hTk hTr gk
            generalize R.s[i] = T at *
            have hSxd := Blk.gb hSx (GB.drew wk)
            have hSyd := Blk.gb hS22 (GB.drew wk)
            clear hSx hS22
            go_upto_region 20 with fail
            go_cut [164] (fun s wx => s = .bool false ∧ GB wk.drew wx)
            case first =>
              by_cases he : Sx = Sy
              · have hq : (!(Sx == Sy)) = false := by simp [he]
                clear he HNEi hro
                have hu0 := GB.refl wk.drew
                refine region_gb [(0,0),(1,0),(2,0),(3,0),(4,0),(5,0),(6,0),(7,0),(8,0),(9,0),(10,0),(11,0),(12,0),(13,0),(14,0),(15,0),(16,0),(17,0),(18,0),(19,0),(20,0),(21,0),(22,0),(23,0),(24,0),(25,1),(26,0),(27,0),(28,0),(29,0),(30,0),(31,0),(32,0),(33,0),(34,0),(35,0),(36,0),(37,0),(38,1),(39,0),(40,0)] [] (by kernel_rfl) ?_
                refine S0 (by rfl) (by rfl) (fun u hu => X.load rfl (by rfl) Try.underlying59 info59 (hSxd.gb hu) HSX.out) ?_
                simp only [Act.put, List.setIfInBounds_toArray, List.set_cons_zero, List.set_cons_succ]
                refine S0 (by rfl) (by rfl) (fun u hu => X.load rfl (by rfl) Try.underlying59 info59 (hSyd.gb hu) HSY.out) ?_
                simp only [Act.put, List.setIfInBounds_toArray, List.set_cons_zero, List.set_cons_succ]
                refine S0 (by rfl) (by rfl) (fun u hu => X.neq rfl (by rfl) (by rfl) Try.underlying59 guard59 HSX.out HSY.out) ?_
                simp only [Act.put, List.setIfInBounds_toArray, List.set_cons_zero, List.set_cons_succ]
                rw [hq]
                iterate 1 (refine S0w (v := ?_) (by rfl) (by rfl) (fun u hu N hN => ?_) ?_; rotate_left; (go_simp; exact hN); simp only [Act.put, List.setIfInBounds_toArray, List.set_cons_zero, List.set_cons_succ])
                iterate 10 (refine S0n (by rfl) (by rfl) ?_; simp only [Act.put, List.setIfInBounds_toArray, List.set_cons_zero, List.set_cons_succ])
                iterate 2 (refine S0w (v := ?_) (by rfl) (by rfl) (fun u hu N hN => ?_) ?_; rotate_left; (go_simp; exact hN); simp only [Act.put, List.setIfInBounds_toArray, List.set_cons_zero, List.set_cons_succ])
                iterate 8 (refine S0w (v := ?_) (by rfl) (by rfl) (fun u hu N hN => ?_) ?_; rotate_left; (go_simp; exact hN); simp only [Act.put, List.setIfInBounds_toArray, List.set_cons_zero, List.set_cons_succ])
                refine S0 (by rfl) (by rfl) (fun u hu => X.load rfl (by rfl) Try.underlying59 info59 (hSxd.gb (GB.trans _ _ _ hu0 hu)) HSX.out) ?_
                simp only [Act.put, List.setIfInBounds_toArray, List.set_cons_zero, List.set_cons_succ]
                refine S1 (by rfl) (by rfl) (fun K hK => ?_)
                go_wp2_with fail
                refine (HAX.out _ hu0).mono ?_
                rintro e y ⟨rfl, hby⟩
                refine hK _ _ hby ?_
                clear hK K
                replace hu0 := GB.trans _ _ _ hu0 hby
                clear hby
                have D0 := fun u (hu : GB y u) => C0 u (GB.trans _ _ _ hu0 hu)
                have D1 := fun u (hu : GB y u) => C1 u (GB.trans _ _ _ hu0 hu)
                clear C0 C1
                iterate 3 (refine S0w (v := ?_) (by rfl) (by rfl) (fun u hu N hN => ?_) ?_; rotate_left; (go_simp; exact hN); simp only [Act.put, List.setIfInBounds_toArray, List.set_cons_zero, List.set_cons_succ])
                iterate 8 (refine S0w (v := ?_) (by rfl) (by rfl) (fun u hu N hN => ?_) ?_; rotate_left; (go_simp; exact hN); simp only [Act.put, List.setIfInBounds_toArray, List.set_cons_zero, List.set_cons_succ])
                refine S0 (by rfl) (by rfl) (fun u hu => X.load rfl (by rfl) Try.underlying59 info59 (hSyd.gb (GB.trans _ _ _ hu0 hu)) HSY.out) ?_
                simp only [Act.put, List.setIfInBounds_toArray, List.set_cons_zero, List.set_cons_succ]
                refine S1 (by rfl) (by rfl) (fun K hK => ?_)
                go_wp2_with fail
                refine (HAY.out _ hu0).mono ?_
                rintro e y2 ⟨rfl, hby⟩
                refine hK _ _ hby ?_
                clear hK K
                replace hu0 := GB.trans _ _ _ hu0 hby
                clear hby
                iterate 2 (refine S0w (v := ?_) (by rfl) (by rfl) (fun u hu N hN => ?_) ?_; rotate_left; (go_simp; exact hN); simp only [Act.put, List.setIfInBounds_toArray, List.set_cons_zero, List.set_cons_succ])
                refine S.done ?_
                go_wp2_with fail
                go_meet
                case rel => exact ⟨rfl, hu0⟩
              · have hq : (!(Sx == Sy)) = true := by simp [he]
                obtain ⟨hO0, hOi⟩ := HNEi.out he
                have hqo : ((O.length : Int) == 0) = false := by rw [beq_eq_false_iff_ne]; omega
                have hqi : ((i : Int) != (i : Int)) = false := by simp
                obtain ⟨ad, rfl, hco⟩ := hro 0 (by simpa using hO0)
                simp only [List.getElem_map] at hco
                have e0 : O[0] = (i : Int) := by rw [← hOi]; simp [List.getD, hO0]
                rw [e0] at hco
                have C2 : ∀ u, GB wk.drew u → u.cell? ad = some (.int .i64 i) := fun u hu => hu.cell hco
                clear he HNEi hro hOi e0 hco
                have hu0 := GB.refl wk.drew
                refine region_gb [(0,0),(1,0),(2,0),(3,0),(4,0),(5,0),(6,0),(7,0),(8,0),(9,0),(10,0),(11,0),(12,0),(13,0),(14,0),(15,0),(16,0),(17,0),(18,0),(19,0),(20,0),(21,0),(22,0),(23,0),(24,0),(25,1),(26,0),(27,0),(28,0),(29,0),(30,0),(31,0),(32,0),(33,0),(34,0),(35,0),(36,0),(37,0),(38,1),(39,0),(40,0)] [] (by kernel_rfl) ?_
                refine S0 (by rfl) (by rfl) (fun u hu => X.load rfl (by rfl) Try.underlying59 info59 (hSxd.gb hu) HSX.out) ?_
                simp only [Act.put, List.setIfInBounds_toArray, List.set_cons_zero, List.set_cons_succ]
                refine S0 (by rfl) (by rfl) (fun u hu => X.load rfl (by rfl) Try.underlying59 info59 (hSyd.gb hu) HSY.out) ?_
                simp only [Act.put, List.setIfInBounds_toArray, List.set_cons_zero, List.set_cons_succ]
                refine S0 (by rfl) (by rfl) (fun u hu => X.neq rfl (by rfl) (by rfl) Try.underlying59 guard59 HSX.out HSY.out) ?_
                simp only [Act.put, List.setIfInBounds_toArray, List.set_cons_zero, List.set_cons_succ]
                rw [hq]
                iterate 1 (refine S0w (v := ?_) (by rfl) (by rfl) (fun u hu N hN => ?_) ?_; rotate_left; (go_simp; exact hN); simp only [Act.put, List.setIfInBounds_toArray, List.set_cons_zero, List.set_cons_succ])
                iterate 2 (refine S0w (v := ?_) (by rfl) (by rfl) (fun u hu N hN => ?_) ?_; rotate_left; (go_simp; exact hN); simp only [Act.put, List.setIfInBounds_toArray, List.set_cons_zero, List.set_cons_succ])
                try rw [hqo]
                iterate 7 (refine S0w (v := ?_) (by rfl) (by rfl) (fun u hu N hN => ?_) ?_; rotate_left; (go_simp; exact hN); simp only [Act.put, List.setIfInBounds_toArray, List.set_cons_zero, List.set_cons_succ])
                try rw [hqi]
                iterate 1 (refine S0w (v := ?_) (by rfl) (by rfl) (fun u hu N hN => ?_) ?_; rotate_left; (go_simp; exact hN); simp only [Act.put, List.setIfInBounds_toArray, List.set_cons_zero, List.set_cons_succ])
                iterate 2 (refine S0w (v := ?_) (by rfl) (by rfl) (fun u hu N hN => ?_) ?_; rotate_left; (go_simp; exact hN); simp only [Act.put, List.setIfInBounds_toArray, List.set_cons_zero, List.set_cons_succ])
                iterate 8 (refine S0w (v := ?_) (by rfl) (by rfl) (fun u hu N hN => ?_) ?_; rotate_left; (go_simp; exact hN); simp only [Act.put, List.setIfInBounds_toArray, List.set_cons_zero, List.set_cons_succ])
                refine S0 (by rfl) (by rfl) (fun u hu => X.load rfl (by rfl) Try.underlying59 info59 (hSxd.gb (GB.trans _ _ _ hu0 hu)) HSX.out) ?_
                simp only [Act.put, List.setIfInBounds_toArray, List.set_cons_zero, List.set_cons_succ]
                refine S1 (by rfl) (by rfl) (fun K hK => ?_)
                go_wp2_with fail
                refine (HAX.out _ hu0).mono ?_
                rintro e y ⟨rfl, hby⟩
                refine hK _ _ hby ?_
                clear hK K
                replace hu0 := GB.trans _ _ _ hu0 hby
                clear hby
                have D0 := fun u (hu : GB y u) => C0 u (GB.trans _ _ _ hu0 hu)
                have D1 := fun u (hu : GB y u) => C1 u (GB.trans _ _ _ hu0 hu)
                clear C0 C1
                iterate 3 (refine S0w (v := ?_) (by rfl) (by rfl) (fun u hu N hN => ?_) ?_; rotate_left; (go_simp; exact hN); simp only [Act.put, List.setIfInBounds_toArray, List.set_cons_zero, List.set_cons_succ])
                iterate 8 (refine S0w (v := ?_) (by rfl) (by rfl) (fun u hu N hN => ?_) ?_; rotate_left; (go_simp; exact hN); simp only [Act.put, List.setIfInBounds_toArray, List.set_cons_zero, List.set_cons_succ])
                refine S0 (by rfl) (by rfl) (fun u hu => X.load rfl (by rfl) Try.underlying59 info59 (hSyd.gb (GB.trans _ _ _ hu0 hu)) HSY.out) ?_
                simp only [Act.put, List.setIfInBounds_toArray, List.set_cons_zero, List.set_cons_succ]
                refine S1 (by rfl) (by rfl) (fun K hK => ?_)
                go_wp2_with fail
                refine (HAY.out _ hu0).mono ?_
                rintro e y2 ⟨rfl, hby⟩
                refine hK _ _ hby ?_
                clear hK K
                replace hu0 := GB.trans _ _ _ hu0 hby
                clear hby
                iterate 2 (refine S0w (v := ?_) (by rfl) (by rfl) (fun u hu N hN => ?_) ?_; rotate_left; (go_simp; exact hN); simp only [Act.put, List.setIfInBounds_toArray, List.set_cons_zero, List.set_cons_succ])
                refine S.done ?_
                go_wp2_with fail
                go_meet
                case rel => exact ⟨rfl, hu0⟩
            case rest =>
              obtain ⟨rfl, hgc⟩ := hcut
              go_wp2_with fail
              go_roundw
              case rel => exact ⟨i + 1, by go_num, by omega, GB.trans _ _ _ hgk hgc⟩
              case measure => simp [intOf]; omega
          · have hgw := hTr.gb
            clear HNE HAM HBM
            go_wp2_with fail
            refine hse.mono ?_
            rintro e w16 ⟨rfl, rfl⟩
            go_wp2_with fail
            refine (hkn.out _).mono ?_
            rintro e w17 ⟨rfl, g17⟩
            go_wp2_with fail
            go_ret
            exact ⟨rfl, GB.trans _ _ _ hgw g17⟩
end Go.Proofs.Ytiihllfjlgbfcaa
