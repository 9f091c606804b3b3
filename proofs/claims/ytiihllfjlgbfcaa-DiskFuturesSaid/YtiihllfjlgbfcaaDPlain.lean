/- The plain law of disks: the program's disk and the reference's agree, step for step. No walk in sight. -/
import Derived.Test.YtiihllfjlgbfcaaDDo2
namespace Go.Proofs.Ytiihllfjlgbfcaa
open Go.RowKit
/-- What a sector's past is: what was written ahead, and what stands there. -/
def pastOf (d : DD) (i : Nat) : List (List UInt8) := pastL d.jr i ++ [d.img.getD i []]
/-- The two disks agree. -/
structure Agree (d : DD) (r : RD) : Prop where
  len : d.img.length = r.s.length
  past : ∀ i, i < r.s.length → pastOf d i = (r.s.getD i []).map full
  left : d.left = r.fuse
  dead : d.dead = r.dead
theorem pastL_append (jr : List (Nat × List UInt8)) (e : Nat × List UInt8) (i : Nat) : pastL (jr ++ [e]) i = pastL jr i ++ (if e.1 == i then [e.2] else []) := by
  unfold pastL
  rw [List.filter_append, List.map_append]
  by_cases hc : (e.1 == i) = true
  · simp [hc]
  · simp [hc]
theorem pastL_nil (i : Nat) : pastL [] i = [] := rfl
/-- What is read of a sector. -/
theorem Agree.now {d : DD} {r : RD} (h : Agree d r) (hg : RGood r) (i : Nat) (hi : i < r.s.length) : d.img.getD i [] = full (r.now i) := by
  have hp := h.past i hi
  have hpos : 0 < (r.s.getD i []).length := by
    have : r.s.getD i [] = r.s[i] := by simp [List.getD, hi]
    rw [this]; exact (hg.ne _ (List.getElem_mem hi)).1
  unfold pastOf at hp
  unfold RD.now
  generalize r.s.getD i [] = p at *
  have h1 := congrArg List.getLast? hp
  rw [List.getLast?_append, List.getLast?_singleton, List.getLast?_map] at h1
  have h2 : p.getLast? = p[p.length - 1]? := List.getLast?_eq_getElem?
  have e : p[p.length - 1]? = some (p[p.length - 1]'(by omega)) := List.getElem?_eq_getElem (by omega)
  rw [h2, e] at h1
  show _ = full ((p[p.length - 1]?).getD 0)
  rw [e]
  exact Option.some.inj h1
theorem Agree.moves {d : DD} {r : RD} (h : Agree d r) : (d.step.1 = if r.moves.1 then 0 else 10) ∧ Agree d.step.2 r.moves.2 := by
  unfold DD.step RD.moves
  rw [h.dead, h.left]
  split
  · exact ⟨rfl, h.len, fun i hi => h.past i hi, rfl, rfl⟩
  · exact ⟨rfl, h.len, fun i hi => h.past i hi, rfl, rfl⟩
theorem getD_set {α : Type} (l : List α) (i j : Nat) (x z : α) : (l.set i x).getD j z = if i = j ∧ j < l.length then x else l.getD j z := by
  simp only [List.getD, List.getElem?_set]
  by_cases h : i = j
  · subst h
    by_cases hl : i < l.length
    · simp [hl]
    · simp [hl]
  · simp [h]
theorem Agree.write {d : DD} {r : RD} (h : Agree d r) (k : Nat) (c : UInt8) : Agree (d.put k (full c)) (r.wr k c) := by
  refine ⟨?_, fun i hi => ?_, h.left, h.dead⟩
  · unfold DD.put RD.wr; simp only [List.length_set]; exact h.len
  · unfold RD.wr at hi
    simp only [List.length_set] at hi
    unfold pastOf DD.put RD.wr
    simp only
    rw [pastL_append, getD_set, getD_set]
    have hp := h.past i hi
    unfold pastOf at hp
    by_cases hki : k = i
    · subst hki
      rw [if_pos (show ((k, d.img.getD k []).1 == k) = true by simp), if_pos ⟨rfl, by rw [h.len]; exact hi⟩, if_pos ⟨rfl, hi⟩]
      show pastL d.jr k ++ [d.img.getD k []] ++ [full c] = _
      rw [hp, List.map_append]; rfl
    · rw [if_neg (show ¬ ((k, d.img.getD k []).1 == i) = true by simpa using hki), if_neg (fun e => hki e.1), if_neg (fun e => hki e.1), List.append_nil]
      exact hp
theorem settleUp_at (r : RD) (hg : RGood r) : ∀ k i, k ≤ r.s.length → i < r.s.length → (settleUp r k).s.getD i [] = if i < k then [r.now i] else r.s.getD i []
  | 0, i, _, _ => by simp [settleUp]
  | k + 1, i, hk, hi => by
    have ih := settleUp_at r hg k
    have hnow : (settleUp r k).now k = r.now k := by
      unfold RD.now
      rw [ih k (by omega) (by omega), if_neg (by omega)]
    rw [settleUp]
    unfold RD.settle
    simp only
    rw [getD_set, hnow, settleUp_len]
    by_cases hki : k = i
    · subst hki; rw [if_pos ⟨rfl, hi⟩, if_pos (by omega)]
    · rw [if_neg (fun e => hki e.1), ih i (by omega) hi]
      by_cases hlt : i < k
      · rw [if_pos hlt, if_pos (by omega)]
      · rw [if_neg hlt, if_neg (by omega)]
theorem settleUp_rest (r : RD) (k : Nat) : (settleUp r k).fuse = r.fuse ∧ (settleUp r k).dead = r.dead := by
  induction k with
  | zero => exact ⟨rfl, rfl⟩
  | succ k ih => exact ih
theorem Agree.flush {d : DD} {r : RD} (h : Agree d r) (hg : RGood r) : Agree { d with jr := [] } (settleUp r r.s.length) := by
  have hr := settleUp_rest r r.s.length
  refine ⟨by rw [settleUp_len]; exact h.len, fun i hi => ?_, by rw [hr.1]; exact h.left, by rw [hr.2]; exact h.dead⟩
  rw [settleUp_len] at hi
  rw [settleUp_at r hg r.s.length i (Nat.le_refl _) hi, if_pos hi]
  unfold pastOf
  simp only [pastL_nil, List.nil_append, List.map_cons, List.map_nil]
  rw [h.now hg i hi]
theorem Agree.grow {d : DD} {r : RD} (h : Agree d r) (k : Nat) (hinn : ∀ e ∈ d.jr, e.1 < d.img.length) : Agree { d with img := d.img ++ noughts k } (r.grown k) := by
  refine ⟨?_, fun i hi => ?_, h.left, h.dead⟩
  · rw [RD.grown_len]; simp [noughts, h.len]
  · rw [RD.grown_len] at hi
    unfold pastOf RD.grown
    simp only
    by_cases hlt : i < r.s.length
    · have hp := h.past i hlt
      unfold pastOf at hp
      have e1 : (d.img ++ noughts k).getD i [] = d.img.getD i [] := by simp [List.getD, List.getElem?_append_left (show i < d.img.length by rw [h.len]; exact hlt)]
      have e2 : (r.s ++ List.replicate k [0]).getD i [] = r.s.getD i [] := by simp [List.getD, List.getElem?_append_left hlt]
      rw [e1, e2]; exact hp
    · have e1 : (d.img ++ noughts k).getD i [] = zeros 64 := by
        simp only [List.getD]
        rw [List.getElem?_append_right (by rw [h.len]; omega)]
        have hl := h.len
        rw [List.getElem?_eq_getElem (by rw [noughts_length]; omega)]
        simp [noughts]
      have e2 : (r.s ++ List.replicate k [0]).getD i [] = [0] := by
        simp only [List.getD]
        rw [List.getElem?_append_right (by omega), List.getElem?_eq_getElem (by rw [List.length_replicate]; omega)]
        simp
      have e3 : pastL d.jr i = [] := by
        unfold pastL
        have : d.jr.filter (fun e => e.1 == i) = [] := by
          rw [List.filter_eq_nil_iff]
          intro e he
          have := hinn e he
          rw [h.len] at this
          simp; omega
        rw [this]; rfl
      rw [e1, e2, e3]; rfl
theorem Agree.new (n : Nat) : Agree (DD.new n) (RD.new n) := by
  refine ⟨by simp [DD.new, RD.new, noughts], fun i hi => ?_, rfl, rfl⟩
  simp only [RD.new, List.length_replicate] at hi
  unfold pastOf DD.new RD.new noughts
  simp [pastL_nil, List.getD, hi]
  rfl
/-! ### A loss of power -/
theorem sorted_ext : ∀ (l m : List Int), l.Pairwise (· < ·) → m.Pairwise (· < ·) → (∀ x, x ∈ l ↔ x ∈ m) → l = m
  | [], [], _, _, _ => rfl
  | [], y :: m, _, _, h => absurd ((h y).2 (by simp)) (by simp)
  | x :: l, [], _, _, h => absurd ((h x).1 (by simp)) (by simp)
  | x :: l, y :: m, hl, hm, h => by
    rw [List.pairwise_cons] at hl hm
    have hxy : x = y := by
      have h1 := (h x).1 (by simp)
      have h2 := (h y).2 (by simp)
      rcases List.mem_cons.1 h1 with e | h1
      · exact e
      · rcases List.mem_cons.1 h2 with e | h2
        · exact e.symm
        · have := hl.1 y h2; have := hm.1 x h1; omega
    subst hxy
    congr 1
    refine sorted_ext l m hl.2 hm.2 (fun z => ?_)
    have := h z
    rw [List.mem_cons, List.mem_cons] at this
    constructor
    · intro hz
      rcases this.1 (.inr hz) with rfl | h'
      · have := hl.1 z hz; omega
      · exact h'
    · intro hz
      rcases this.2 (.inr hz) with rfl | h'
      · have := hm.1 z hz; omega
      · exact h'
theorem openUp_iff (r : RD) (k : Nat) (x : Int) : x ∈ openUp r k ↔ ∃ i : Nat, x = (i : Int) ∧ i < k ∧ 1 < (r.s.getD i []).length := by
  induction k with
  | zero => simp [openUp]
  | succ k ih =>
    unfold openUp
    split
    · rename_i hc
      rw [List.mem_append, ih, List.mem_singleton]
      constructor
      · rintro (⟨i, h1, h2, h3⟩ | h)
        · exact ⟨i, h1, by omega, h3⟩
        · exact ⟨k, h, by omega, hc⟩
      · rintro ⟨i, h1, h2, h3⟩
        by_cases e : i = k
        · subst e; exact .inr h1
        · exact .inl ⟨i, h1, by omega, h3⟩
    · rename_i hc
      rw [ih]
      constructor
      · rintro ⟨i, h1, h2, h3⟩; exact ⟨i, h1, by omega, h3⟩
      · rintro ⟨i, h1, h2, h3⟩
        by_cases e : i = k
        · subst e; exact absurd h3 hc
        · exact ⟨i, h1, by omega, h3⟩
theorem openUp_sorted (r : RD) (k : Nat) : (openUp r k).Pairwise (· < ·) := by
  induction k with
  | zero => exact List.Pairwise.nil
  | succ k ih =>
    unfold openUp
    split
    · rw [List.pairwise_append]
      refine ⟨ih, by simp, fun a ha b hb => ?_⟩
      obtain ⟨i, h1, h2, -⟩ := (openUp_iff r k a).1 ha
      simp at hb; omega
    · exact ih
theorem Agree.len_past {d : DD} {r : RD} (h : Agree d r) (i : Nat) (hi : i < r.s.length) : (r.s.getD i []).length = (pastL d.jr i).length + 1 := by
  have := congrArg List.length (h.past i hi)
  unfold pastOf at this
  rw [List.length_map, List.length_append] at this
  simpa using this.symm
theorem Agree.open {d : DD} {r : RD} (h : Agree d r) (hinn : ∀ e ∈ d.jr, e.1 < d.img.length) : openL d.jr = r.openR := by
  refine sorted_ext _ _ (openL_sorted _) (openUp_sorted _ _) (fun x => ?_)
  show _ ↔ x ∈ openUp r r.s.length
  rw [mem_openL, openUp_iff]
  constructor
  · rintro ⟨e, he, rfl⟩
    have hl : e.1 < r.s.length := by rw [← h.len]; exact hinn e he
    refine ⟨e.1, rfl, hl, ?_⟩
    rw [h.len_past e.1 hl]
    have : 0 < (pastL d.jr e.1).length := by
      unfold pastL; rw [List.length_map]
      exact List.length_pos_of_mem (List.mem_filter.2 ⟨he, by simp⟩)
    omega
  · rintro ⟨i, rfl, hi, hl⟩
    rw [h.len_past i hi] at hl
    have : 0 < (pastL d.jr i).length := by omega
    unfold pastL at this
    rw [List.length_map] at this
    obtain ⟨e, he⟩ := List.exists_mem_of_length_pos this
    obtain ⟨h1, h2⟩ := List.mem_filter.1 he
    exact ⟨e, h1, by have := h2; simp at this; omega⟩
theorem pick_eq (picks : List Int) (k n : Nat) (h : 0 < n) : pickN picks k n = rpick picks k n := by
  unfold pickN rpick rawPick
  split
  · generalize picks.getD k 0 = x
    have h1 := Int.lt_tmod_of_pos x (show (0 : Int) < n by omega)
    have h2 := Int.tmod_lt_of_pos x (show (0 : Int) < n by omega)
    rw [Int.tmod_eq_emod_of_nonneg (by omega : 0 ≤ x.tmod n + n)]
    split
    · rw [Int.emod_eq_of_lt (by omega) (by omega)]
    · rw [Int.add_emod_right, Int.emod_eq_of_lt (by omega) (by omega)]
  · rfl
theorem rcrashUp_rest (r : RD) (picks : List Int) (k : Nat) : (rcrashUp r picks k).fuse = r.fuse ∧ (rcrashUp r picks k).dead = r.dead := by
  induction k with
  | zero => exact ⟨rfl, rfl⟩
  | succ k ih => exact ih
theorem Agree.crashUp {d : DD} {r : RD} (h : Agree d r) (hd : DGood d) (picks : List Int) : ∀ m, m ≤ (openL d.jr).length → ∀ i, i < r.s.length →
    ((∃ b, (crashK d picks m).getD i [] = full b ∧ (rcrashUp r picks m).s.getD i [] = [b]) ∧ ∃ k, k < m ∧ (openL d.jr).getD k 0 = (i : Int)) ∨
    ((crashK d picks m).getD i [] = d.img.getD i [] ∧ (rcrashUp r picks m).s.getD i [] = r.s.getD i [] ∧ ∀ k, k < m → (openL d.jr).getD k 0 ≠ (i : Int))
  | 0, _, i, _ => .inr ⟨rfl, rfl, fun k hk => absurd hk (by omega)⟩
  | m + 1, hm, i, hi => by
    have ih := Agree.crashUp h hd picks m (by omega)
    have hop := h.open hd.inn
    obtain ⟨j, hj, hjl, hp⟩ := open_at d hd m (by omega)
    have hjr : j < r.s.length := by rw [← h.len]; exact hjl
    have e0 : (openL d.jr).getD m 0 = (j : Int) := by rw [← hj]; simp [List.getD, show m < (openL d.jr).length by omega]
    have e0' : (r.openR).getD m 0 = (j : Int) := by rw [← hop]; exact e0
    -- j was not met ahead
    have hnew : (rcrashUp r picks m).s.getD j [] = r.s.getD j [] := by
      rcases ih j hjr with ⟨-, k, hk, he⟩ | ⟨-, h2, -⟩
      · exfalso
        have hs := List.pairwise_iff_getElem.1 (openL_sorted d.jr) k m (by omega) (by omega) hk
        have e1 : (openL d.jr)[k] = (j : Int) := by rw [← he]; simp [List.getD, show k < (openL d.jr).length by omega]
        rw [e1, hj] at hs; omega
      · exact h2
    have hvers : d.vers j = (r.s.getD j []).map full := by
      rw [← h.past j hjr]
      unfold DD.vers pastOf
      rw [if_pos hp]
    have hvl : (d.vers j).length = (r.s.getD j []).length := by rw [hvers, List.length_map]
    have hpos : 0 < (r.s.getD j []).length := by rw [h.len_past j hjr]; omega
    rw [crashK, rcrashUp, e0, e0']
    simp only [Int.toNat_natCast]
    unfold RD.settle
    simp only
    rw [hnew, getD_set, getD_set, crashK_length, rcrashUp_len]
    by_cases hji : j = i
    · subst hji
      rw [if_pos ⟨rfl, hjl⟩, if_pos ⟨rfl, hjr⟩]
      left
      refine ⟨⟨(r.s.getD j []).getD (rpick picks m (r.s.getD j []).length) 0, ?_, rfl⟩, m, by omega, e0⟩
      rw [pick_eq _ _ _ (by omega), hvl, hvers]
      have hlt := rpick_lt picks m (r.s.getD j []).length hpos
      generalize r.s.getD j [] = p at *
      simp [List.getD, hlt]
    · rw [if_neg (fun e => hji e.1), if_neg (fun e => hji e.1)]
      rcases ih i hi with ⟨hb, k, hk, he⟩ | ⟨h1, h2, h3⟩
      · exact .inl ⟨hb, k, by omega, he⟩
      · refine .inr ⟨h1, h2, fun k hk => ?_⟩
        by_cases e : k = m
        · subst e; rw [e0]; omega
        · exact h3 k (by omega)
theorem Agree.crash {d : DD} {r : RD} (h : Agree d r) (hd : DGood d) (picks : List Int) : Agree (d.crash picks) { rcrashUp r picks r.openR.length with fuse := -1, dead := false } := by
  have hop := h.open hd.inn
  refine ⟨by unfold DD.crash; simp only; rw [crashK_length, rcrashUp_len]; exact h.len, fun i hi => ?_, rfl, rfl⟩
  simp only [rcrashUp_len] at hi
  unfold pastOf DD.crash
  simp only [pastL_nil, List.nil_append]
  rw [← hop]
  rcases h.crashUp hd picks (openL d.jr).length (Nat.le_refl _) i hi with ⟨⟨b, h1, h2⟩, -⟩ | ⟨h1, h2, h3⟩
  · rw [h1, h2]; rfl
  · rw [h1, h2]
    have hp := h.past i hi
    have hnil : pastL d.jr i = [] := by
      cases hpl : pastL d.jr i with
      | nil => rfl
      | cons x l =>
        exfalso
        have hmem : (i : Int) ∈ openL d.jr := by
          rw [mem_openL]
          unfold pastL at hpl
          have : x ∈ (d.jr.filter (fun e => e.1 == i)).map (·.2) := by rw [hpl]; simp
          obtain ⟨e, he, -⟩ := List.mem_map.1 this
          obtain ⟨g1, g2⟩ := List.mem_filter.1 he
          exact ⟨e, g1, by simp at g2; omega⟩
        obtain ⟨k, hk, he⟩ := List.getElem_of_mem hmem
        exact h3 k hk (by rw [← he]; simp [List.getD, hk])
    unfold pastOf at hp
    rw [hnil, List.nil_append] at hp
    exact hp
/-! ### Step for step -/
structure Inv (k : Nat) (d : DD) (r : RD) : Prop where
  dg : DGood d
  rg : RGood r
  ag : Agree d r
  jr : d.jr.length ≤ k
theorem RGood.of {d : DD} {r : RD} (hd : DGood d) (ha : Agree d r) (hj : d.jr.length ≤ 999999) : RGood r := by
  refine ⟨by rw [← ha.len]; exact hd.some, by rw [← ha.len]; exact hd.few, fun x hx => ?_, by rw [← ha.left]; exact hd.lo, by rw [← ha.left]; exact hd.hi⟩
  obtain ⟨i, hi, rfl⟩ := List.getElem_of_mem hx
  have h1 := ha.len_past i hi
  have h2 : r.s.getD i [] = r.s[i] := by simp [List.getD, hi]
  have h3 := pastL_length d.jr i
  rw [h2] at h1
  omega
theorem Inv.mk' {k : Nat} {d : DD} {r : RD} (hd : DGood d) (ha : Agree d r) (hj : d.jr.length ≤ k) (hk : k ≤ 999999) : Inv k d r := ⟨hd, .of hd ha (by omega), ha, hj⟩
theorem DGood.step {d : DD} (h : DGood d) : DGood d.step.2 := by
  have hi := DD.step_img d
  refine ⟨by rw [hi.1]; exact h.some, by rw [hi.1]; exact h.few, by rw [hi.1]; exact h.sec, by rw [hi.2]; exact h.ent, by rw [hi.1, hi.2]; exact h.inn, ?_, ?_⟩
  · have := h.lo; unfold DD.step; split
    · exact this
    · simp only; split <;> omega
  · have := h.hi; unfold DD.step; split
    · exact this
    · simp only; split <;> omega
theorem DGood.put {d : DD} (h : DGood d) (k : Nat) (hk : k < d.img.length) (s : List UInt8) (hs : s.length = 64) : DGood (d.put k s) := by
  have hget : d.img.getD k [] = d.img[k] := by simp [List.getD, hk]
  refine ⟨by simp only [DD.put, List.length_set]; exact h.some, by simp only [DD.put, List.length_set]; exact h.few, all64_set h.sec k s hs, fun x hx => ?_, fun x hx => ?_, h.lo, h.hi⟩
  · simp only [DD.put] at hx
    rcases List.mem_append.1 hx with h' | h'
    · exact h.ent x h'
    · simp only [List.mem_singleton] at h'
      subst h'
      rw [entV_length, hget]
      have := h.sec.at k hk
      simp only; omega
  · simp only [DD.put, List.length_set] at hx ⊢
    rcases List.mem_append.1 hx with h' | h'
    · exact h.inn x h'
    · simp only [List.mem_singleton] at h'
      subst h'; exact hk
theorem DGood.flushed {d : DD} (h : DGood d) : DGood { d with jr := [] } := ⟨h.some, h.few, h.sec, (fun x hx => by cases hx), (fun x hx => by cases hx), h.lo, h.hi⟩
theorem DGood.crash {d : DD} (h : DGood d) (picks : List Int) : DGood (d.crash picks) :=
  ⟨by simp only [DD.crash]; rw [crashK_length]; exact h.some, by simp only [DD.crash]; rw [crashK_length]; exact h.few, crashK_all64 d h picks _ (Nat.le_refl _), (fun x hx => by cases hx), (fun x hx => by cases hx), by simp [DD.crash], by simp [DD.crash]⟩
theorem DGood.grow {d : DD} (h : DGood d) (k : Nat) (hk : d.img.length + k ≤ 8192) : DGood { d with img := d.img ++ noughts k } := by
  refine ⟨by simp only [List.length_append]; have := h.some; omega, by simp only [List.length_append, noughts_length]; exact hk, fun s hs => ?_, h.ent, fun x hx => ?_, h.lo, h.hi⟩
  · rcases List.mem_append.1 hs with h' | h'
    · exact h.sec s h'
    · exact all64_noughts k s h'
  · simp only [List.length_append]
    have := h.inn x hx; omega
theorem step_inv {k : Nat} {d : DD} {r : RD} (h : Inv k d r) (hk : k ≤ 9999) (x : Step) (hx : x.n ≤ 9223372036854775807) : (d.do x).1 = (r.do x).1 ∧ Inv (k + 1) (d.do x).2 (r.do x).2 := by
  obtain ⟨hd, hr, ha, hj⟩ := h
  obtain ⟨kind, n, c, ps⟩ := x
  simp only at hx
  have hsame : Inv (k + 1) d r := ⟨hd, hr, ha, by omega⟩
  have hmv := ha.moves
  have hlen := ha.len
  have hst := DD.step_img d
  have hdg := hd.step
  have hms := RD.moves_s r
  by_cases k1 : kind = 1
  · subst k1
    rw [RD.do1]
    have e1 : d.do ⟨1, n, c, ps⟩ = d.write n (full c) := by simp [DD.do]
    rw [e1]
    unfold DD.write
    by_cases hin : 0 ≤ n ∧ n < (r.s.length : Int)
    · have ht : r.there n = true := by unfold RD.there; simp [hin]
      have hh : d.has n = 0 := by unfold DD.has; rw [if_neg (by omega)]
      rw [ht, hh, if_pos rfl, if_pos rfl]
      cases hm : r.moves.1
      · rw [hm] at hmv
        rw [if_neg (by rw [hmv.1]; decide), if_neg (by decide)]
        exact ⟨hmv.1, .mk' hdg hmv.2 (by rw [hst.2]; omega) (by omega)⟩
      · rw [hm] at hmv
        have h0 : d.step.1 = 0 := hmv.1
        rw [if_pos h0, if_pos rfl]
        refine ⟨rfl, .mk' (hdg.put _ (by rw [hst.1]; omega) _ (full_length c)) (hmv.2.write _ c) ?_ (by omega)⟩
        simp only [DD.put, List.length_append]
        rw [hst.2]; simp; omega
    · have ht : r.there n = false := by
        unfold RD.there
        rw [Bool.and_eq_false_iff]
        simp only [decide_eq_false_iff_not]; omega
      have hh : d.has n = 2 := by unfold DD.has; rw [if_pos (by omega)]
      rw [ht, hh, if_neg (by decide), if_neg (by decide)]
      exact ⟨rfl, hsame⟩
  by_cases k2 : kind = 2
  · subst k2
    have e1 : d.do ⟨2, n, c, ps⟩ = d.flush := by simp [DD.do]
    have e2 : r.do ⟨2, n, c, ps⟩ = if r.moves.1 then (0, settleUp r.moves.2 r.moves.2.s.length) else (10, r.moves.2) := by simp [RD.do]
    rw [e1, e2]
    unfold DD.flush
    cases hm : r.moves.1
    · rw [hm] at hmv
      rw [if_neg (by rw [hmv.1]; decide), if_neg (by decide)]
      exact ⟨hmv.1, .mk' hdg hmv.2 (by rw [hst.2]; omega) (by omega)⟩
    · rw [hm] at hmv
      have h0 : d.step.1 = 0 := hmv.1
      rw [if_pos h0, if_pos rfl]
      exact ⟨rfl, .mk' hdg.flushed (hmv.2.flush hr.moves) (by simp) (by omega)⟩
  by_cases k3 : kind = 3
  · subst k3
    have e1 : d.do ⟨3, n, c, ps⟩ = d.fuse n := by simp [DD.do]
    have e2 : r.do ⟨3, n, c, ps⟩ = if n < 0 then (2, r) else (0, { r with fuse := n }) := by simp [RD.do]
    rw [e1, e2]
    unfold DD.fuse
    by_cases hn : n < 0
    · rw [if_pos hn, if_pos hn]; exact ⟨rfl, hsame⟩
    · rw [if_neg hn, if_neg hn]
      exact ⟨rfl, .mk' ⟨hd.some, hd.few, hd.sec, hd.ent, hd.inn, by simp only; omega, hx⟩ ⟨ha.len, ha.past, rfl, ha.dead⟩ (by simp only; omega) (by omega)⟩
  by_cases k4 : kind = 4
  · subst k4
    have e1 : d.do ⟨4, n, c, ps⟩ = (0, d.crash ps) := by simp [DD.do]
    rw [e1, RD.do4]
    exact ⟨rfl, .mk' (hd.crash ps) (ha.crash hd ps) (by simp [DD.crash]) (by omega)⟩
  by_cases k5 : kind = 5
  · subst k5
    have e1 : d.do ⟨5, n, c, ps⟩ = d.grow n := by simp [DD.do]
    rw [e1, RD.do5]
    unfold DD.grow
    rw [hlen]
    by_cases hb : n < (r.s.length : Int) ∨ 8192 < n
    · rw [if_pos hb, if_pos hb]; exact ⟨rfl, hsame⟩
    · rw [if_neg hb, if_neg hb]
      by_cases hdd : d.dead = true
      · rw [if_pos hdd, if_pos (by rw [← ha.dead]; exact hdd)]; exact ⟨rfl, hsame⟩
      · rw [if_neg hdd, if_neg (by rw [← ha.dead]; exact hdd)]
        exact ⟨rfl, .mk' (hd.grow (n.toNat - r.s.length) (by rw [hlen]; omega)) (ha.grow _ hd.inn) (by simp only; omega) (by omega)⟩
  by_cases k6 : kind = 6
  · subst k6
    have e1 : d.do ⟨6, n, c, ps⟩ = ((d.read n).2, d) := by simp [DD.do]
    have e2 : r.do ⟨6, n, c, ps⟩ = if r.there n then (0, r) else (2, r) := by simp [RD.do]
    rw [e1, e2]
    unfold DD.read
    by_cases hin : 0 ≤ n ∧ n < (r.s.length : Int)
    · have ht : r.there n = true := by unfold RD.there; simp [hin]
      have hh : d.has n = 0 := by unfold DD.has; rw [if_neg (by omega)]
      rw [ht, hh, if_pos rfl, if_pos rfl]
      exact ⟨rfl, hsame⟩
    · have ht : r.there n = false := by
        unfold RD.there
        rw [Bool.and_eq_false_iff]
        simp only [decide_eq_false_iff_not]; omega
      have hh : d.has n = 2 := by unfold DD.has; rw [if_pos (by omega)]
      rw [ht, hh, if_neg (by decide), if_neg (by decide)]
      exact ⟨rfl, hsame⟩
  have e1 : d.do ⟨kind, n, c, ps⟩ = (0, d) := by simp [DD.do, k1, k2, k3, k4, k5, k6]
  have e2 : r.do ⟨kind, n, c, ps⟩ = (0, r) := by simp [RD.do, k1, k2, k3, k4, k5, k6]
  rw [e1, e2]
  exact ⟨rfl, hsame⟩
end Go.Proofs.Ytiihllfjlgbfcaa
