/- The plain law and the walk of the law PageParts. -/
import Derived.Test.YtiihllfjlgbfcaaJoin
import Derived.Test.YtiihllfjlgbfcaaFr
namespace Go.Proofs.Ytiihllfjlgbfcaa
open Go.RowKit
/-! ### The plain law -/
def partsP (l : List UInt16) (k : Nat) : List (List UInt16) := (List.range k).map (partP l)
theorem partsP_length (l : List UInt16) (k : Nat) : (partsP l k).length = k := by simp [partsP]
theorem partsP_succ (l : List UInt16) (k : Nat) : partsP l (k + 1) = partsP l k ++ [partP l k] := by simp [partsP, List.range_succ]
theorem partsP_120 (l : List UInt16) (k : Nat) : ∀ p ∈ partsP l k, p.length = 120 := by
  intro p hp
  simp only [partsP, List.mem_map] at hp
  obtain ⟨i, -, rfl⟩ := hp
  exact partP_length l i
theorem any120 {A : List (List UInt16)} (h : ∀ p ∈ A, p.length = 120) : A.any (fun p => p.length != 120) = false := by
  rw [List.any_eq_false]
  intro p hp
  simp [h p hp]
theorem zeros16_add (a b : Nat) : zeros16 a ++ zeros16 b = zeros16 (a + b) := by simp [zeros16, List.replicate_append_replicate]
theorem partP_eq (l : List UInt16) (k : Nat) : partP l k = (l.drop (k * 120)).take 120 ++ zeros16 (120 - (l.length - k * 120)) := by
  unfold partP
  rw [put_zero]
  congr 1
  rw [List.length_take, List.length_drop]
  simp only [zeros16, List.drop_replicate]
  congr 1; omega
theorem parts_flat (l : List UInt16) : ∀ k, (partsP l k).flatten = l.take (k * 120) ++ zeros16 (k * 120 - l.length)
  | 0 => by simp [partsP, zeros16]
  | k + 1 => by
    rw [partsP_succ, List.flatten_append, parts_flat l k, partP_eq]
    simp only [List.flatten_cons, List.flatten_nil, List.append_nil]
    by_cases h : k * 120 ≤ l.length
    · rw [show k * 120 - l.length = 0 by omega, show (k + 1) * 120 = k * 120 + 120 by omega, List.take_add, show zeros16 0 = [] from rfl, List.append_nil, List.append_assoc]
      congr 3; omega
    · rw [List.drop_of_length_le (by omega), List.take_nil, List.nil_append, List.append_assoc, zeros16_add, List.take_of_length_le (by omega), List.take_of_length_le (by omega)]
      congr 2; omega
theorem flat_full (l : List UInt16) : (partsP l (pagesN l.length)).flatten = l ++ zeros16 (pagesN l.length * 120 - l.length) := by
  rw [parts_flat, List.take_of_length_le (by unfold pagesN; omega)]
theorem any_zeros16 (k : Nat) : (zeros16 k).any (fun x => x != 0) = false := by
  rw [List.any_eq_false]
  intro x hx
  simp [zeros16] at hx
  simp [hx.2]
theorem flat_set : ∀ (A : List (List UInt16)) (wi at' : Nat) (y : UInt16) (h : wi < A.length), (∀ p ∈ A, p.length = 120) → at' < 120 → (A.set wi (A[wi].set at' y)).flatten = A.flatten.set (wi * 120 + at') y
  | [], _, _, _, h, _, _ => absurd h (by simp)
  | p :: A, 0, at', y, _, hp, ha => by
    have h120 := hp p (by simp)
    simp only [List.set_cons_zero, List.getElem_cons_zero, List.flatten_cons, Nat.zero_mul, Nat.zero_add]
    rw [List.set_append_left _ _ (by omega)]
  | p :: A, wi + 1, at', y, h, hp, ha => by
    have h120 := hp p (by simp)
    simp only [List.set_cons_succ, List.getElem_cons_succ, List.flatten_cons]
    rw [List.set_append_right _ _ (by omega), flat_set A wi at' y (by simpa using h) (fun q hq => hp q (by simp [hq])) ha, h120]
    congr 2; omega
theorem flat_get : ∀ (A : List (List UInt16)) (wi at' : Nat) (h : wi < A.length), (∀ p ∈ A, p.length = 120) → at' < 120 → A.flatten[wi * 120 + at']? = A[wi][at']?
  | [], _, _, h, _, _ => absurd h (by simp)
  | p :: A, 0, at', _, hp, ha => by
    have h120 := hp p (by simp)
    simp only [List.getElem_cons_zero, List.flatten_cons, Nat.zero_mul, Nat.zero_add]
    rw [List.getElem?_append_left (by omega)]
  | p :: A, wi + 1, at', h, hp, ha => by
    have h120 := hp p (by simp)
    simp only [List.getElem_cons_succ, List.flatten_cons]
    rw [List.getElem?_append_right (by omega), h120, show (wi + 1) * 120 + at' - 120 = wi * 120 + at' by omega]
    exact flat_get A wi at' (by simpa using h) (fun q hq => hp q (by simp [hq])) ha
theorem join_out (n : Int) (A : List (List UInt16)) (h : n < 1 ∨ 1000 < n ∨ (A.length : Int) ≠ pages n ∨ A.any (fun p => p.length != 120) = true) : joinP n A = ([], 2) := by
  unfold joinP; rw [if_pos h]
theorem join_in (n : Nat) (A : List (List UInt16)) (h1 : 1 ≤ n) (h2 : n ≤ 1000) (hl : A.length = pagesN n) (h : ∀ p ∈ A, p.length = 120) :
    joinP (n : Int) A = if (A.flatten.drop n).any (fun x => x != 0) = true then ([], 4) else (A.flatten.take n, 0) := by
  unfold joinP
  rw [if_neg (by rw [any120 h, pages_N]; simp; omega), Int.toNat_natCast]
theorem join_parts (l : List UInt16) (h1 : 1 ≤ l.length) (h2 : l.length ≤ 1000) : joinP (l.length : Int) (partsP l (pagesN l.length)) = (l, 0) := by
  rw [join_in _ _ h1 h2 (partsP_length _ _) (partsP_120 _ _), flat_full, List.drop_left, any_zeros16, List.take_left]; rfl
theorem join_tail (l : List UInt16) (h1 : 1 ≤ l.length) : joinP (l.length : Int) (partsP l (pagesN l.length)).tail = ([], 2) := by
  refine join_out _ _ (.inr (.inr (.inl ?_)))
  rw [List.length_tail, partsP_length, pages_N]
  unfold pagesN; omega
theorem join_one (n : Int) (A : List (List UInt16)) : joinP n ([1] :: A) = ([], 2) := join_out _ _ (.inr (.inr (.inr (by simp))))
/-- One count more. -/
theorem join_raised (l : List UInt16) (h1 : 1 ≤ l.length) (h2 : l.length ≤ 1000) (wi at' : Nat) (hw : wi < (partsP l (pagesN l.length)).length) (ha : at' < 120) (x : UInt16) (hx : (partsP l (pagesN l.length))[wi][at']? = some x) (hb : x ≤ 65000) :
    joinP (l.length : Int) ((partsP l (pagesN l.length)).set wi ((partsP l (pagesN l.length))[wi].set at' (x + 1))) = (if l.length ≤ wi * 120 + at' then ([], 4) else (l.set (wi * 120 + at') (x + 1), 0)) ∧ (wi * 120 + at' < l.length → l[wi * 120 + at']? = some x) := by
  have h120 := partsP_120 l (pagesN l.length)
  have hlen := partsP_length l (pagesN l.length)
  have hfl := flat_full l
  have hg := flat_get _ wi at' hw h120 ha
  have hs := flat_set _ wi at' (x + 1) hw h120 ha
  have h120' : ∀ p ∈ (partsP l (pagesN l.length)).set wi ((partsP l (pagesN l.length))[wi].set at' (x + 1)), p.length = 120 := by
    intro p hp
    rcases List.mem_or_eq_of_mem_set hp with h | h
    · exact h120 p h
    · rw [h, List.length_set]; exact h120 _ (List.getElem_mem hw)
  rw [join_in _ _ h1 h2 (by rw [List.length_set]; exact hlen) h120', hs, hfl]
  rw [hfl, hx] at hg
  have hfull : wi * 120 + at' < (l ++ zeros16 (pagesN l.length * 120 - l.length)).length := (List.getElem?_eq_some_iff.1 hg).1
  have hne : (x + 1 != 0) = true := by
    rw [bne_iff_ne]
    intro h
    have h3 := congrArg UInt16.toNat h
    rw [UInt16.toNat_add] at h3
    have h4 : x.toNat ≤ 65000 := hb
    have h5 : UInt16.toNat 0 = 0 := rfl
    have h6 : UInt16.toNat 1 = 1 := rfl
    rw [h5, h6] at h3
    omega
  constructor
  · by_cases hj : l.length ≤ wi * 120 + at'
    · rw [if_pos hj, List.set_append_right _ _ hj, List.drop_left, if_pos]
      rw [List.any_eq_true]
      rw [List.length_append] at hfull
      exact ⟨x + 1, List.mem_set (by omega) _, hne⟩
    · have hl : (l.set (wi * 120 + at') (x + 1)).length = l.length := List.length_set ..
      have e1 : List.drop l.length (l.set (wi * 120 + at') (x + 1) ++ zeros16 (pagesN l.length * 120 - l.length)) = zeros16 (pagesN l.length * 120 - l.length) := List.drop_left' hl
      have e2 : List.take l.length (l.set (wi * 120 + at') (x + 1) ++ zeros16 (pagesN l.length * 120 - l.length)) = l.set (wi * 120 + at') (x + 1) := List.take_left' hl
      rw [if_neg hj, List.set_append_left _ _ (by omega), e1, e2, any_zeros16]
      rfl
  · intro hj
    rw [List.getElem?_append_left hj] at hg
    exact hg
/-! ### The pages in memory -/
theorem info35 : (Try.prog.info? 35).map (fun i => (i.zero, i.size, i.bytes)) = some (some (.slice none 0 0), 1, 24) := by kernel_rfl
theorem elem35 : Elem 71 35 1 24 (.slice none 0 0) := by
  obtain ⟨i, hi, hz0, hz1, hz2⟩ := info_parts info35
  exact ⟨Try.underlying71, ⟨i, hi, hz0, hz1, hz2⟩, rfl, by decide, by decide⟩
def pgV (b : Nat) : Value := .slice (some ⟨b, 0, none⟩) 120 120
/-- Pages of the law's own, each in a block of its own. -/
structure Own7 (w0 w : World) (v : Value) (A : List (List UInt16)) (bs : List Nat) : Prop where
  row : w.ownsRow w0.heap.size 35 1 v A.length (bs.map pgV)
  len : bs.length = A.length
  blk : ∀ i (h : i < A.length) (h' : i < bs.length), Blk w bs[i] 73 (A[i].map b16)
  dis : bs.Nodup
  own : ∀ b ∈ bs, w0.heap.size ≤ b ∧ v.ownBlock ≠ some b
  big : ∀ p ∈ A, p.length = 120
  gb : GB w0 w
theorem Own7.on {w0 w u : World} {v : Value} {A : List (List UInt16)} {bs : List Nat} (h : Own7 w0 w v A bs) (g : GB w u) : Own7 w0 u v A bs :=
  ⟨Row.gb h.row g, h.len, fun i h1 h2 => (h.blk i h1 h2).gb g, h.dis, h.own, h.big, GB.trans _ _ _ h.gb g⟩
theorem pg_oneCell (bs : List Nat) : ∀ u ∈ bs.map pgV, u.oneCell' = true := by
  intro u hu
  obtain ⟨_, _, rfl⟩ := List.mem_map.1 hu
  rfl
theorem Own7.shape {w0 w : World} {v : Value} {A : List (List UInt16)} {bs : List Nat} (h : Own7 w0 w v A bs) : ∃ a c, v = .slice a A.length c ∧ Pgs w a A (bs.map pgV) ∧ A.length ≤ c ∧ c ≤ maxLen := by
  obtain ⟨a, c, hv, hr, h1, h2, -, -⟩ := Row.shape h.row
  refine ⟨a, c, hv, ⟨by rw [List.length_map]; exact h.len, hr, fun i hi hi' => ?_⟩, h1, h2⟩
  have hb : i < bs.length := by rw [h.len]; exact hi
  refine ⟨some ⟨bs[i], 0, none⟩, 120, ?_, by have := (h.blk i hi hb).rd 0; simpa using this⟩
  rw [List.getElem_map, h.big _ (List.getElem_mem hi)]
  rfl
theorem Own7.nil (w : World) : Own7 w w (.slice none 0 0) [] [] :=
  ⟨World.ownsRow_nil _ _ _ _, rfl, fun i h => absurd h (by simp), List.nodup_nil, fun b h => absurd h (by simp), fun b h => absurd h (by simp), GB.refl _⟩
theorem Own7.push {w0 w w3 w4 : World} {v v4 : Value} {A : List (List UInt16)} {bs : List Nat} {p : List UInt16} {nb : Nat} (h : Own7 w0 w v A bs) (g : GB w w3) (hB : Blk w3 nb 73 (p.map b16)) (hnb : w.heap.size ≤ nb) (hp : p.length = 120)
    (hown : w4.ownsRow w0.heap.size 35 1 v4 (A.length + 1) (bs.map pgV ++ [pgV nb])) (hG : w3.grownBy w4 v.ownBlock) (hf : ∀ k, v4.ownBlock = some k → v.ownBlock = some k ∨ w3.heap.size ≤ k) : Own7 w0 w4 v4 (A ++ [p]) (bs ++ [nb]) := by
  have h3 := h.on g
  have hs0 := h.gb.size
  have hlt := h.row.lt
  refine ⟨?_, by simp [h.len], fun i hi hi' => ?_, ?_, fun b hb => ?_, fun q hq => ?_, h3.gb.grown hG h3.gb.size (fun j hj => (hlt j hj).1)⟩
  · rw [List.length_append, List.map_append]; exact hown
  · by_cases hl : i < A.length
    · have hl' : i < bs.length := by rw [h.len]; exact hl
      simp only [List.getElem_append_left hl, List.getElem_append_left hl']
      exact (h3.blk i hl hl').grown hG (fun e => (h.own _ (List.getElem_mem hl')).2 e.symm)
    · have hi2 : i = A.length := by simp at hi; omega
      subst hi2
      have e1 : (A ++ [p])[A.length]'(by simp) = p := by simp
      have e2 : (bs ++ [nb])[A.length]'(by simp [h.len]) = nb := by rw [List.getElem_append_right (by rw [h.len]; exact Nat.le_refl _)]; simp [h.len]
      rw [e1, e2]
      exact hB.grown hG (fun e => by have := (hlt nb e.symm).2; omega)
  · rw [List.nodup_append]
    refine ⟨h.dis, by simp, fun a ha b hb => ?_⟩
    simp at hb
    subst hb
    obtain ⟨i, hi, rfl⟩ := List.getElem_of_mem ha
    have := (h.blk i (by rw [← h.len]; exact hi) hi).lt
    omega
  · rcases List.mem_append.1 hb with h' | h'
    · refine ⟨(h.own b h').1, fun e => ?_⟩
      rcases hf b e with h2 | h2
      · exact (h.own b h').2 h2
      · obtain ⟨i, hi, rfl⟩ := List.getElem_of_mem h'
        have := (h3.blk i (by rw [← h.len]; exact hi) hi).lt
        omega
    · simp at h'
      subst h'
      refine ⟨by omega, fun e => ?_⟩
      rcases hf b e with h2 | h2
      · have := (hlt b h2).2; omega
      · have := hB.lt; omega
  · rcases List.mem_append.1 hq with h' | h'
    · exact h.big q h'
    · simp at h'; rw [h']; exact hp
theorem Own7.put {w0 w : World} {v : Value} {A : List (List UInt16)} {bs : List Nat} (h : Own7 w0 w v A bs) (i j : Nat) (hi : i < A.length) (hi' : i < bs.length) (y : UInt16) :
    Own7 w0 (w.setCell ⟨bs[i], j, none⟩ (.int .u16 (n16 y))) v (A.set i (A[i].set j y)) bs := by
  have hob := h.own _ (List.getElem_mem hi')
  have f : Fr (· = bs[i]) w (w.setCell ⟨bs[i], j, none⟩ (.int .u16 (n16 y))) := (Fr.refl _ w).setCell _ _ _ (.inl rfl)
  refine ⟨?_, by rw [List.length_set]; exact h.len, fun k hk hk' => ?_, h.dis, h.own, fun p hp => ?_, h.gb.grown (grown_cell w bs[i] j _) h.gb.size (fun k hk => by cases hk; exact hob.1)⟩
  · rw [List.length_set]
    exact f.row h.row (fun k hk e => hob.2 (by rw [hk, e]))
  · simp only [List.length_set] at hk
    by_cases e : i = k
    · subst e
      simp only [List.getElem_set_self]
      exact (h.blk i hk hk').set16 j y
    · simp only [List.getElem_set_ne e]
      refine (h.blk k hk hk').other (fun e2 => e ?_) j _
      rcases Nat.lt_or_gt_of_ne e with h3 | h3
      · exact absurd e2 (List.pairwise_iff_getElem.1 h.dis _ _ hi' hk' h3)
      · exact absurd e2.symm (List.pairwise_iff_getElem.1 h.dis _ _ hk' hi' h3)
  · rcases List.mem_or_eq_of_mem_set hp with h' | h'
    · exact h.big p h'
    · rw [h', List.length_set]; exact h.big _ (List.getElem_mem hi)
theorem cut71_from (a : Option Addr) (len cap n : Nat) (k : IntKind) (x : Int) (hx : x = n) (hn : n ≤ len) (w : World) :
    (Instr.sliceAt 71 (.slice a len cap) (some (.int k x)) none none).run Try.prog w = .ok (.slice (cutAt a n cap 1) (len - n) (cap - n)) w ∧
    (Instr.slice 71 (.slice a len cap) (some (.int k x)) none none).run Try.prog w = .ok (.slice (cutAt a n cap 1) (len - n) (cap - n)) w := by
  subst hx
  obtain ⟨i, hi, hz0, hz1, hz2⟩ := info_parts info35
  have h := run_cut_from (P := Try.prog) Try.underlying71 hi w a len cap n k hn
  rw [hz1] at h
  exact ⟨h, by rw [← sliceAt_slice Try.underlying71]; exact h⟩
theorem Pgs.tail {w : World} {a : Option Addr} {A : List (List UInt16)} {cs : List Value} (h : Pgs w a A cs) (c : Nat) (hc : A.length ≤ c) : Pgs w (cutAt a 1 c 1) A.tail cs.tail := by
  refine ⟨by rw [List.length_tail, List.length_tail, h.len], ?_, fun i hi hi' => ?_⟩
  · have := h.rd.cut 1 c 1 (by rw [h.len]; omega)
    rw [Nat.mul_one, List.drop_one] at this
    exact this
  · rw [List.length_tail] at hi hi'
    simp only [List.getElem_tail]
    exact h.each (i + 1) (by omega) (by omega)
set_option maxHeartbeats 1000000 in
set_option maxRecDepth 100000 in
theorem parts_walk (ca : Option Addr) (l : List UInt16) (cc : Nat) (index which at_ : Int) (w : World) (hl : l.length ≤ maxLen) (hc : l.length ≤ cc) (hrd : Rd w ca (l.map b16)) :
    Calls Try.prog 8 #[.slice ca l.length cc, .int .i64 index, .int .i64 which, .int .i64 at_] w fun e w' => e = .returned (.bool true) ∧ GB w w' := by
  unfold maxLen at hl
  have hkn := Lib.hid (fun u => known7_any u)
  by_cases hbig : 1010 < l.length
  · go_enter Try.func8, Try.ntmps8
    go_wp2_with fail
    refine (hkn.out _).mono ?_
    rintro e w2 ⟨rfl, rfl⟩
    go_wp2_with fail
    go_ret
    exact ⟨rfl, GB.refl _⟩
  have hn : l.length ≤ 1010 := by omega
  have hpg := fun u => pages_any (l.length : Int) u (by omega)
  rw [pages_N] at hpg
  have hrp := fun u => rpages_any l.length u hn
  have hneg : pages (-(l.length : Int)) = 0 := by unfold pages; rw [if_pos (by omega)]
  have hpm := fun u => pages_any (-(l.length : Int)) u (by omega)
  rw [hneg] at hpm
  have hp1 := fun u (g : GB w u) => part_any ca l cc index u hn hc (g.rd hrd)
  have hp2 := fun u (g : GB w u) => rpart_any ca l cc index u hn (g.rd hrd)
  have hP0 := partI_length l index
  have hpk := fun u (g : GB w u) (k : Nat) (hk : k ≤ 100) => part_any ca l cc (k : Int) u hn hc (g.rd hrd)
  have hpk2 : ∀ k : Nat, k ≤ 100 → partI l (k : Int) = partP l k := fun k hk => by unfold partI; rw [if_pos (by omega)]; rfl
  generalize partI l index = P0 at *
  have hpgs : pagesN l.length ≤ 9 := by unfold pagesN; omega
  have HPG := Lib.hid hpg
  have HRP := Lib.hid hrp
  have HPM := Lib.hid hpm
  have HP1 := Lib.hid hp1
  have HP2 := Lib.hid hp2
  have HP0 := Lib.hid hP0
  have HPK := Lib.hid hpk
  have HPK2 := Lib.hid hpk2
  clear hpg hrp hpm hp1 hp2 hP0 hpk hpk2 hneg
  have hq0 : decide (1010 < (l.length : Int)) = false := by rw [decide_eq_false_iff_not]; omega
  obtain ⟨K, hK⟩ : ∃ K, pagesN l.length = K := ⟨_, rfl⟩
  rw [hK] at HPG HRP hpgs
  have HK := Lib.hid hK
  clear hK
  go_enter Try.func8, Try.ntmps8
  go_wp2_with fail
  refine (HPG.out _).mono ?_
  rintro e w2 ⟨rfl, rfl⟩
  go_wp2_with fail
  refine (HRP.out _).mono ?_
  rintro e w2 ⟨rfl, rfl⟩
  go_wp2_with fail
  refine (HPM.out _).mono ?_
  rintro e w2 ⟨rfl, rfl⟩
  go_wp2_with fail
  refine (HP1.out _ (GB.refl _)).mono ?_
  rintro e w2 ⟨rfl, hB2, hg2⟩
  go_wp2_with fail
  refine (HP2.out _ hg2).mono ?_
  rintro e w3 ⟨rfl, hB3, hg3⟩
  have hsm := same16_any (some ⟨w.heap.size, 0, none⟩) (some ⟨w2.heap.size, 0, none⟩) P0 P0 120 120 w3 (by rw [HP0.out]; decide) (by rw [HP0.out]; decide) (by simpa using (hB2.gb hg3).rd 0) (by simpa using hB3.rd 0)
  rw [HP0.out, show (P0 == P0) = true by simp] at hsm
  have hg4 := GB.trans _ _ _ hg2 hg3
  clear hB2 hB3 hg2 hg3
  go_wp2_with fail
  refine hsm.mono ?_
  rintro e w4 ⟨rfl, hb4⟩
  replace hg4 : GB w w4 := GB.trans _ _ _ hg4 hb4
  clear hsm hb4 HP1 HP2 HPM HPG
  go_upto_block 0 with fail
  go_cut [10] (fun v wx => ∃ bs, Own7 w4 wx v (partsP l K) bs)
  case first =>
    go_wp2_with fail
    go_loopw [10, 11] (fun v x wr => ∃ (k : Nat) (bs : List Nat), x = .int .i64 k ∧ k ≤ K ∧ Own7 w4 wr v (partsP l k) bs) (fun _ x _ => K - (intOf x).toNat)
    case atStart => exact ⟨0, [], rfl, by omega, Own7.nil w4⟩
    case round =>
      obtain ⟨k, bs, rfl, hk, hO⟩ := hrel
      obtain ⟨xa, xc, rfl, -, -, -⟩ := hO.shape
      go_wp2_with fail
      refine (HRP.out _).mono ?_
      rintro e w5 ⟨rfl, rfl⟩
      by_cases hlt : k < K
      · have hpt := HPK.out wr (GB.trans _ _ _ hg4 hO.gb) k (by omega)
        rw [HPK2.out k (by omega)] at hpt
        go_wp2_with fail
        refine hpt.mono ?_
        rintro e w5 ⟨rfl, hB5, hg5⟩
        clear hpt
        have gA : GB w5 (w5.alloc (.cells #[pgV wr.heap.size] 35)) := (Below.refl _ _).alloc (Nat.le_refl _) _
        have hBl := Blk.new w5 [pgV wr.heap.size] 35
        change Blk (w5.alloc (.cells #[pgV wr.heap.size] 35)) _ _ _ at hBl
        unfold pgV at gA hBl
        go_wp2_with (first | with_reducible refine halt_dst 63 ?_)
        have g6 := GB.trans _ _ _ hg5 gA
        have hB6 := hB5.gb gA
        generalize w5.alloc (.cells #[.slice (some ⟨wr.heap.size, 0, none⟩) 120 120] 35) = w6 at *
        have hO6 := hO.on g6
        have hPL := Lib.hid (partP_length l k)
        have hbd := Lib.hid hO6.row
        refine wpList_appendW elem35 rfl (.tmp 58) (.tmp 62) rfl (by rfl) hO6.row (by rfl) rfl (by simpa using hBl.rd 0) (by simp [Value.oneCell']) (by rw [partsP_length]; omega) hO6.gb.size ?_
        intro v7 w7 hown7 hG7 hf7
        simp only [Act.put, List.setIfInBounds_toArray, List.set_cons_zero, List.set_cons_succ]
        have hO7 : Own7 w4 w7 v7 (partsP l (k + 1)) (bs ++ [wr.heap.size]) := by
          rw [partsP_succ]
          exact Own7.push hO g6 hB6 (Nat.le_refl _) hPL.out hown7 hG7 hf7
        obtain ⟨ya, yc, rfl, -, -, -⟩ := hO7.shape
        clear hown7 hG7 hf7 hB5 hB6 hBl hO6
        go_wp2_with fail
        go_roundw
        case rel => exact ⟨k + 1, _, by go_num, by omega, hO7⟩
        case measure => simp [intOf]; omega
      · have hkk : k = K := by omega
        subst hkk
        go_wp2_with fail
        go_meet
        case rel => exact ⟨bs, hO⟩
  case rest =>
    obtain ⟨bs, hO⟩ := hcut
    obtain ⟨xa, xc, rfl, hpg, hxc, hxm⟩ := hO.shape
    have hjn := join_any (l.length : Int) xa (partsP l K) _ xc wc (by omega) (by rw [partsP_length]; omega) hpg
    have hlen := partsP_length l K
    by_cases hin : 1 ≤ l.length ∧ l.length ≤ 1000
    case neg =>
      have hq1 : (decide ((l.length : Int) < 1) || decide (1000 < (l.length : Int))) = true := by rw [Bool.or_eq_true, decide_eq_true_iff, decide_eq_true_iff]; omega
      rw [join_out (l.length : Int) (partsP l K) (by omega)] at hjn
      have hgo := GB.trans _ _ _ hg4 hO.gb
      clear hpg hlen hO
      generalize partsP l K = A at *
      by_cases h0 : l.length < 1
      all_goals
        go_wp2_with fail
        refine hjn.mono ?_
        rintro e w5 ⟨ya, yc, rfl, -, hg5⟩
        go_wp2_with fail
        refine (hkn.out _).mono ?_
        rintro e v ⟨rfl, rfl⟩
        go_wp2_with fail
        go_ret
        exact ⟨rfl, GB.trans _ _ _ hgo hg5⟩
    obtain ⟨hin1, hin2⟩ := hin
    have hJ1 := join_parts l hin1 hin2
    have hJ2 := join_tail l hin1
    have hJ4 := join_raised l hin1 hin2
    rw [HK.out] at hJ1 hJ2 hJ4
    have hK1 : 1 ≤ K := by rw [← HK.out]; unfold pagesN; omega
    have hKn : l.length ≤ K * 120 := by rw [← HK.out]; unfold pagesN; omega
    rw [hJ1] at hjn
    have HJ2 := Lib.hid hJ2
    have HJ4 := Lib.hid hJ4
    have H120 := Lib.hid (partsP_120 l K)
    clear hJ1 hJ2 hJ4 HPK HPK2 HRP
    generalize partsP l K = A at *
    have HLEN := Lib.hid hlen
    have hA1 : 1 ≤ A.length := by omega
    have hA9 : A.length ≤ 9 := by omega
    have hAn : l.length ≤ A.length * 120 := by omega
    have hsm := fun u (ya : Option Addr) (yc : Nat) (hy : Rd u ya (l.map b16)) (g : GB w u) => same16_any ya ca l l yc cc u (by unfold maxLen; omega) (by unfold maxLen; omega) hy (g.rd hrd)
    have hll : (l == l) = true := by simp
    rw [hll] at hsm
    have HSM := Lib.hid hsm
    have hcA := fun w => (cut71_from xa A.length xc 1 .i64 1 rfl hA1 w).1
    have hcB := fun w => (cut71_from xa A.length xc 1 .i64 1 rfl hA1 w).2
    clear hsm hll hlen hq0
    go_wp2_with fail
    refine hjn.mono ?_
    rintro e w5 ⟨ya, yc, rfl, hry, hg5⟩
    clear hjn
    have hO5 := hO.on hg5
    clear hO hpg
    have hgw5 := GB.trans _ _ _ hg4 hO5.gb
    go_wp2_with fail
    refine (HSM.out w5 ya yc hry hgw5).mono ?_
    rintro e w6 ⟨rfl, hb6⟩
    have hO6 := hO5.on hb6
    clear hO5 hry hgw5 hb6 hg5
    have hpg6 : Pgs w6 xa A (bs.map pgV) := by
      obtain ⟨a', c', hv, hp, -, -⟩ := hO6.shape
      simp only [Value.slice.injEq, true_and] at hv
      obtain ⟨rfl, rfl⟩ := hv
      exact hp
    have hpt := hpg6.tail xc hxc
    have hj2 := fun u (g : GB w6 u) => join_any (l.length : Int) (cutAt xa 1 xc 1) A.tail (bs.map pgV).tail (xc - 1) u (by omega) (by rw [List.length_tail]; omega) (hpt.gb g)
    rw [HJ2.out, List.length_tail] at hj2
    have HJJ2 := Lib.hid hj2
    have HPT := Lib.hid hpt
    clear hj2 hpt
    go_wp2_with fail
    refine (HJJ2.out _ (GB.refl _)).mono ?_
    rintro e w7 ⟨yb, yd, rfl, -, hg7⟩
    have hO7 := hO6.on hg7
    have HPG7 := Lib.hid (hpg6.gb hg7)
    have HPT7 := Lib.hid (HPT.out.gb hg7)
    clear hO6 hpg6 HJJ2 HPT
    have gA : GB w7 (w7.alloc (.cells #[.int .u16 1] 73)) := (Below.refl _ _).alloc (Nat.le_refl _) _
    have hB8 := Blk.new w7 [b16 1] 73
    have hz16 : b16 1 = Value.int .u16 1 := rfl
    rw [hz16] at hB8
    change Blk (w7.alloc (.cells #[.int .u16 1] 73)) _ _ _ at hB8
    have hs8 : (w7.alloc (.cells #[.int .u16 1] 73)).heap.size = w7.heap.size + 1 := by simp
    have gA2 : GB (w7.alloc (.cells #[.int .u16 1] 73)) ((w7.alloc (.cells #[.int .u16 1] 73)).alloc (.cells #[.slice (some ⟨w7.heap.size, 0, none⟩) 1 1] 35)) := (Below.refl _ _).alloc (Nat.le_refl _) _
    have hrow9 : ((w7.alloc (.cells #[.int .u16 1] 73)).alloc (.cells #[.slice (some ⟨w7.heap.size, 0, none⟩) 1 1] 35)).ownsRow (w7.heap.size + 1) 35 1 (.slice (some ⟨w7.heap.size + 1, 0, none⟩) 1 1) 1 [.slice (some ⟨w7.heap.size, 0, none⟩) 1 1] := by
      have := World.ownsRow_lit (base := w7.heap.size + 1) (e := 35) (size := 1) (w7.alloc (.cells #[.int .u16 1] 73)) #[.slice (some ⟨w7.heap.size, 0, none⟩) 1 1] 1 (by rw [hs8]; exact Nat.le_refl _) (by decide) rfl
      rw [hs8] at this
      exact this
    have hs9 : ((w7.alloc (.cells #[.int .u16 1] 73)).alloc (.cells #[.slice (some ⟨w7.heap.size, 0, none⟩) 1 1] 35)).heap.size = w7.heap.size + 2 := by simp
    go_wp2_with (first | with_reducible refine halt_dst 104 ?_)
    have hB9 := hB8.gb gA2
    have g9 := GB.trans _ _ _ gA gA2
    generalize (w7.alloc (.cells #[.int .u16 1] 73)).alloc (.cells #[.slice (some ⟨w7.heap.size, 0, none⟩) 1 1] 35) = w9 at *
    have hct : (bs.map pgV).tail.length = (A.length - 1) * 1 := by rw [HPT7.out.len, List.length_tail]; omega
    refine wpList_appendW elem35 rfl (.tmp 101) (.tmp 103) rfl (by rfl) hrow9 (by rfl) hct (HPT7.out.gb g9).rd (fun u hu => pg_oneCell bs u (List.mem_of_mem_tail hu)) (by omega) (by omega) ?_
    intro v10 w10 hown10 hG10 hf10
    simp only [Act.put, List.setIfInBounds_toArray, List.set_cons_zero, List.set_cons_succ]
    have hg10 : GB w7 w10 := g9.grown hG10 g9.size (fun j hj => by cases hj; show w7.heap.size ≤ w7.heap.size + 1; omega)
    have hB10 := hB9.grown hG10 (fun e => by simp [Value.ownBlock] at e)
    obtain ⟨ye, yf, rfl, hry10, -, -, -, -⟩ := Row.shape hown10
    have hpg10 : Pgs w10 ye ([1] :: A.tail) (.slice (some ⟨w7.heap.size, 0, none⟩) 1 1 :: (bs.map pgV).tail) := by
      have ht := HPT7.out.gb hg10
      refine ⟨by rw [List.length_cons, List.length_cons, ht.len], hry10, fun i hi hi' => ?_⟩
      cases i with
      | zero => exact ⟨_, _, rfl, by have := hB10.rd 0; rw [← hz16] at this; simpa using this⟩
      | succ i =>
        simp only [List.getElem_cons_succ]
        simp only [List.length_cons] at hi hi'
        exact ht.each i (by omega) (by omega)
    have hj3 := join_any (l.length : Int) ye ([1] :: A.tail) _ yf w10 (by omega) (by rw [List.length_cons, List.length_tail]; omega) hpg10
    rw [join_one, show ([1] :: A.tail).length = A.length by rw [List.length_cons, List.length_tail]; omega] at hj3
    have hO10 := hO7.on hg10
    have HPG10 := Lib.hid (HPG7.out.gb hg10)
    clear hown10 hG10 hf10 hpg10 hry10 hB10 hB9 hB8 hrow9 hO7 HPG7 HPT7 g9 hct hs9 hs8 gA gA2 hg10
    go_wp2_with fail
    refine hj3.mono ?_
    rintro e w11 ⟨yb2, yd2, rfl, -, hg11⟩
    have hO11 := hO10.on hg11
    have HPG11 := Lib.hid (HPG10.out.gb hg11)
    have hgo : GB w w11 := GB.trans _ _ _ hg4 hO11.gb
    clear hj3 hO10 HPG10
    by_cases c1 : which < 0
    · go_wp2_with fail
      refine (hkn.out _).mono ?_
      rintro e v ⟨rfl, rfl⟩
      go_wp2_with fail
      go_ret
      exact ⟨rfl, hgo⟩
    by_cases c2 : (A.length : Int) ≤ which
    · go_wp2_with fail
      refine (hkn.out _).mono ?_
      rintro e v ⟨rfl, rfl⟩
      go_wp2_with fail
      go_ret
      exact ⟨rfl, hgo⟩
    by_cases c3 : at_ < 0
    · go_wp2_with fail
      refine (hkn.out _).mono ?_
      rintro e v ⟨rfl, rfl⟩
      go_wp2_with fail
      go_ret
      exact ⟨rfl, hgo⟩
    by_cases c4 : 119 < at_
    · go_wp2_with fail
      refine (hkn.out _).mono ?_
      rintro e v ⟨rfl, rfl⟩
      go_wp2_with fail
      go_ret
      exact ⟨rfl, hgo⟩
    obtain ⟨i, rfl⟩ : ∃ i : Nat, which = (i : Int) := ⟨which.toNat, by omega⟩
    obtain ⟨j, rfl⟩ : ∃ j : Nat, at_ = (j : Int) := ⟨at_.toNat, by omega⟩
    have hi : i < A.length := by omega
    have hj : j < 120 := by omega
    have hib : i < bs.length := by rw [hO11.len]; exact hi
    obtain ⟨ad, hxa, hcx⟩ := HPG11.out.rd i (by rw [List.length_map]; exact hib)
    rw [List.getElem_map] at hcx
    have hp120 : A[i].length = 120 := H120.out _ (List.getElem_mem hi)
    have hbk := hO11.blk i hi hib
    obtain ⟨x, hx, hxg⟩ : ∃ x, A[i][j]? = some x ∧ w11.cell? ⟨bs[i], j, none⟩ = some (.int .u16 (n16 x)) := by
      have hj' : j < A[i].length := by omega
      exact ⟨A[i][j], List.getElem?_eq_getElem hj', by rw [hbk.cell]; simp [hj', b16]⟩
    have nf := hbk.frozen j
    have hput := hO11.put i j hi hib (x + 1)
    have hJ4 := HJ4.out i j hi hj x hx
    unfold pgV at hcx
    generalize A[i].set j (x + 1) = p' at *
    generalize bs[i] = b at *
    subst hxa
    by_cases c5 : (65000 : Int) < n16 x
    · clear hJ4 hput
      go_wp2_with fail
      refine (hkn.out _).mono ?_
      rintro e v ⟨rfl, rfl⟩
      go_wp2_with fail
      go_ret
      exact ⟨rfl, hgo⟩
    have hxb : x ≤ 65000 := by
      show x.toNat ≤ 65000
      unfold n16 at c5; omega
    obtain ⟨hJ4a, hJ4b⟩ := hJ4 hxb
    clear hJ4
    obtain ⟨a', c', hv, hpg12, -, -⟩ := hput.shape
    rw [List.length_set] at hv
    simp only [Value.slice.injEq, true_and] at hv
    obtain ⟨rfl, rfl⟩ := hv
    have hj4 := join_any (l.length : Int) (some ad) (A.set i p') _ xc _ (by omega) (by rw [List.length_set]; omega) hpg12
    rw [hJ4a, List.length_set] at hj4
    have hg12 := GB.trans _ _ _ hg4 hput.gb
    have hadd : (n16 x + 1) % (65536 : Int) = n16 (x + 1) := by
      have h4 : x.toNat ≤ 65000 := hxb
      have h6 : UInt16.toNat 1 = 1 := rfl
      unfold n16
      rw [UInt16.toNat_add, h6]
      omega
    have hadd2 : IntKind.u16.wrap (n16 x + 1) = n16 (x + 1) := hadd
    have HA := Lib.hid hadd
    obtain ⟨z1, hz1⟩ : ∃ z1, n16 (x + 1) = z1 := ⟨_, rfl⟩
    rw [hz1] at hj4 hg12 hadd hadd2
    have HZ1 := Lib.hid hz1
    obtain ⟨f, hf⟩ : ∃ f, f = i * 120 := ⟨_, rfl⟩
    obtain ⟨g, hg⟩ : ∃ g, g = f + j := ⟨_, rfl⟩
    have e1 : IntKind.i64.wrap ((i : Int) * 120) = (f : Int) := by rw [wrapi _ (by omega) (by omega)]; omega
    have e2 : IntKind.i64.wrap ((f : Int) + (j : Int)) = (g : Int) := by rw [wrapi _ (by omega) (by omega)]; omega
    rw [← hf, ← hg] at hj4 hJ4b
    have HJ4 := Lib.hid hj4
    have hZR : (n16 x + 1) % (65536 : Int) = z1 := hadd
    clear hj4 hput hpg12 hbk HPG11 hx hp120 hJ4a HJ2 HSM hcA hcB hadd hz1 hO11
    by_cases c6 : l.length ≤ g
    · rw [if_pos c6] at HJ4
      clear hf hg hJ4b
      go_wp2_with fail
      refine HJ4.out.mono ?_
      rintro e w13 ⟨yg, yh, rfl, -, hg13⟩
      clear HJ4
      go_wp2_with fail
      refine (hkn.out _).mono ?_
      rintro e v ⟨rfl, rfl⟩
      go_wp2_with fail
      go_ret
      exact ⟨rfl, GB.trans _ _ _ hg12 hg13⟩
    · have hlt : g < l.length := by omega
      have hlx := hJ4b hlt
      rw [if_neg c6] at HJ4
      have hj5 := HJ4.out
      unfold GivesPg at hj5
      simp only at hj5
      have HJ5 := Lib.hid hj5
      clear HJ4 hj5 hf hg hJ4b c6
      go_wp2_with fail
      refine HJ5.out.mono ?_
      rintro e w13 ⟨yg, yh, rfl, hry, hg13⟩
      have hgw := GB.trans _ _ _ hg12 hg13
      have hgd := GB.trans _ _ _ hgw (GB.drew w13)
      obtain ⟨ac, hca, hcc⟩ := (hgd.rd hrd) g (by rw [List.length_map]; exact hlt)
      obtain ⟨ay, hya, hcy⟩ := ((GB.drew w13).rd hry) g (by rw [List.length_map, List.length_set]; exact hlt)
      simp only [List.getElem_map, List.getElem_set_self, b16] at hcc hcy
      rw [show l[g] = x from (List.getElem?_eq_some_iff.1 hlx).2] at hcc
      rw [HZ1.out] at hcy
      have hls : (l.set g (x + 1)).length = l.length := List.length_set ..
      rw [hls]
      subst hca hya
      have C1 : ∀ u, GB w13.drew u → u.cell? (ac.add g) = some (.int .u16 (n16 x)) := fun u hu => hu.cell hcc
      have C2 : ∀ u, GB w13.drew u → u.cell? (ay.add g) = some (.int .u16 z1) := fun u hu => hu.cell hcy
      have hqz : (z1 == z1) = true := by simp
      clear HJ5 hry hls hcc hcy hlx hg12 hg13
      go_upto_region 26 with fail
      refine region_gb [(0,0),(1,0),(2,0),(3,0),(4,0),(5,0),(6,0),(7,0),(8,0),(9,0),(10,0),(11,0),(12,0),(13,0),(14,0),(15,0),(16,0),(17,0),(18,0),(19,0),(20,0),(21,1),(22,0),(23,2)] [23] (by kernel_rfl) ?_
      iterate 21 (refine S0w (v := ?_) (by rfl) (by rfl) (fun u hu N hN => ?_) ?_; rotate_left; (go_simp; exact hN); simp only [Act.put, List.setIfInBounds_toArray, List.set_cons_zero, List.set_cons_succ])
      refine S1 (by rfl) (by rfl) (fun K hK => ?_)
      go_wp2_with fail
      refine (hkn.out _).mono ?_
      rintro e v ⟨rfl, rfl⟩
      refine hK _ _ (GB.refl _) ?_
      clear hK K
      iterate 1 (refine S0w (v := ?_) (by rfl) (by rfl) (fun u hu N hN => ?_) ?_; rotate_left; (go_simp; exact hN); simp only [Act.put, List.setIfInBounds_toArray, List.set_cons_zero, List.set_cons_succ])
      refine S2 (by rfl) (by rfl) (fun K hK => ?_)
      go_wp2_with fail
      refine S.done ?_
      go_wp2_with fail
      go_ret
      exact ⟨rfl, hgd⟩
end Go.Proofs.Ytiihllfjlgbfcaa
