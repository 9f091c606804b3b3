/- The law SuperAgain: its plain law; the walk of its Torn; tools for its walk. -/
import Derived.Test.YtiihllfjlgbfcaaSSave
import Derived.Test.YtiihllfjlgbfcaaMem
import Derived.Test.YtiihllfjlgbfcaaDCrash
namespace Go.Proofs.Ytiihllfjlgbfcaa
open Go.RowKit
/-! ### The plain law: saved blocks, losses of power, and what counts -/
def pastS (d : DD) (j : Nat) : List (List UInt8) := pastL d.jr j ++ [d.img.getD j []]
theorem pastL_snoc (jr : List (Nat × List UInt8)) (e : Nat × List UInt8) (i : Nat) : pastL (jr ++ [e]) i = pastL jr i ++ (if e.1 == i then [e.2] else []) := by
  unfold pastL
  rw [List.filter_append, List.map_append]
  by_cases hc : (e.1 == i) = true
  · simp [hc]
  · simp [hc]
theorem pastS_step (d : DD) (j : Nat) : pastS d.step.2 j = pastS d j := by
  have h := DD.step_img d
  unfold pastS; rw [h.1, h.2]
theorem pastS_put (d : DD) (k : Nat) (s : List UInt8) (hk : k < d.img.length) (j : Nat) (v : List UInt8) (hv : v ∈ pastS (d.put k s) j) : v ∈ pastS d j ∨ (j = k ∧ v = s) := by
  unfold pastS DD.put at hv
  simp only at hv
  rw [pastL_snoc, sgetD_set] at hv
  by_cases e : k = j
  · subst e
    rw [if_pos (by simp), if_pos ⟨rfl, hk⟩] at hv
    rcases List.mem_append.1 hv with h | h
    · exact .inl h
    · exact .inr ⟨rfl, by simpa using h⟩
  · have e2 : (k == j) = false := by simpa using e
    rw [if_neg (by simpa using e), if_neg (fun x => e x.1), List.append_nil] at hv
    exact .inl hv
theorem pastS_write (d : DD) (k : Nat) (s : List UInt8) (hk : k < d.img.length) (j : Nat) (v : List UInt8) (hv : v ∈ pastS (d.write k s).2 j) : v ∈ pastS d j ∨ (j = k ∧ v = s) := by
  have hi := DD.step_img d
  rw [write_in' k hk] at hv
  split at hv
  · rcases pastS_put d.step.2 k s (by rw [hi.1]; exact hk) j v hv with h | h
    · rw [pastS_step] at h; exact .inl h
    · exact .inr h
  · rw [pastS_step] at hv; exact .inl hv
theorem pastS_flush (d : DD) (j : Nat) (v : List UInt8) (hv : v ∈ pastS d.flush.2 j) : v ∈ pastS d j := by
  have hi := DD.step_img d
  unfold DD.flush at hv
  split at hv
  · unfold pastS at hv ⊢
    simp only [pastL, List.filter_nil, List.map_nil, List.nil_append] at hv
    rw [hi.1] at hv
    exact List.mem_append_right _ hv
  · rw [pastS_step] at hv; exact hv
theorem pastS_writeUp {d : DD} (h : DGood d) (k : Nat) (hk : k < d.img.length / 4) (B : List UInt8) (hB : B.length = 256) (j : Nat) (v : List UInt8) : ∀ i, i ≤ 4 → v ∈ pastS (d.writeUp k B i).2 j → v ∈ pastS d j ∨ ∃ m, m < 4 ∧ j = 4 * k + m ∧ v = sect B m
  | 0, _, hv => .inl hv
  | i + 1, hi, hv => by
    obtain ⟨g1, g2, -⟩ := writeUp_good h k hk B hB i (by omega)
    rw [DD.writeUp] at hv
    split at hv
    · rcases pastS_write _ (4 * k + i) _ (by omega) j v hv with h' | ⟨h1, h2⟩
      · exact pastS_writeUp h k hk B hB j v i (by omega) h'
      · exact .inr ⟨i, by omega, h1, h2⟩
    · exact pastS_writeUp h k hk B hB j v i (by omega) hv
/-- A block's writing and the flush behind it. -/
def DD.putB (d : DD) (k : Nat) (B : List UInt8) : DD := if (d.writeB k B).1 = 0 then (d.writeB k B).2.flush.2 else (d.writeB k B).2
theorem pastS_putB {d : DD} (h : DGood d) (k : Nat) (hk : k < d.img.length / 4) (B : List UInt8) (hB : B.length = 256) (j : Nat) (v : List UInt8) (hv : v ∈ pastS (d.putB k B) j) : v ∈ pastS d j ∨ ∃ m, m < 4 ∧ j = 4 * k + m ∧ v = sect B m := by
  have hw : d.writeB (k : Int) B = d.writeUp k B 4 := by unfold DD.writeB; rw [hasB_in d k hk, if_pos rfl, Int.toNat_natCast]
  unfold DD.putB at hv
  rw [hw] at hv
  split at hv
  · exact pastS_writeUp h k hk B hB j v 4 (by omega) (pastS_flush _ j v hv)
  · exact pastS_writeUp h k hk B hB j v 4 (by omega) hv
theorem pastS_nil {d : DD} (h : d.jr = []) (j : Nat) (v : List UInt8) (hv : v ∈ pastS d j) : v = d.img.getD j [] := by
  unfold pastS at hv
  rw [h] at hv
  simpa [pastL] using hv
theorem crash_past {d : DD} (h : DGood d) (P : List Int) (j : Nat) : (d.crash P).img.getD j [] ∈ pastS d j := by
  have key : ∀ m, m ≤ (openL d.jr).length → (crashK d P m).getD j [] ∈ pastS d j := by
    intro m
    induction m with
    | zero => intro _; unfold pastS; simp [crashK]
    | succ m ih =>
      intro hm
      obtain ⟨i, hi, hil, hip⟩ := open_at d h m (by omega)
      have e0 : (openL d.jr).getD m 0 = (i : Int) := by rw [← hi]; simp [List.getD, show m < (openL d.jr).length by omega]
      rw [crashK, e0, Int.toNat_natCast, sgetD_set, crashK_length]
      by_cases e : i = j
      · subst e
        rw [if_pos ⟨rfl, hil⟩]
        have hv : d.vers i = pastS d i := by unfold DD.vers pastS; rw [if_pos hip]
        rw [hv]
        have hlt := pickN_lt P m (pastS d i).length (by unfold pastS; simp)
        have : (pastS d i).getD (pickN P m (pastS d i).length) [] = (pastS d i)[pickN P m (pastS d i).length] := by simp [List.getD, hlt]
        rw [this]
        exact List.getElem_mem hlt
      · rw [if_neg (fun x => e x.1)]
        exact ih (by omega)
  exact key _ (Nat.le_refl _)
theorem crash_goodS {d : DD} (h : DGood d) (picks : List Int) : DGood (d.crash picks) :=
  ⟨by simp only [DD.crash]; rw [crashK_length]; exact h.some, by simp only [DD.crash]; rw [crashK_length]; exact h.few, crashK_all64 d h picks _ (Nat.le_refl _), (fun x hx => by cases hx), (fun x hx => by cases hx), by simp [DD.crash], by simp [DD.crash]⟩
theorem crash_lenS (d : DD) (P : List Int) : (d.crash P).img.length = d.img.length := by show (crashK d P _).length = _; rw [crashK_length]
/-! ### What a block's first sector says -/
theorem sect0_get (B C : List UInt8) (h : sect B 0 = sect C 0) (a k : Nat) (hk : a + k ≤ 64) : getN B a k = getN C a k := by
  unfold getN
  congr 1
  have e : ∀ D : List UInt8, (D.drop a).take k = ((sect D 0).drop a).take k := fun D => by
    unfold sect
    rw [Nat.mul_zero, List.drop_zero, List.drop_take, List.take_take, Nat.min_eq_left (by omega)]
  rw [e B, e C, h]
theorem sect0_tx (s t : Su) (hs : s.pg.length = 6) (ht : t.pg.length = 6) (ms : mayS s = true) (mt : mayS t = true) (h : sect (blockS s) 0 = sect (blockS t) 0) : s.tx = t.tx ∧ s.top = t.top := by
  have g1 := sect0_get _ _ h 8 8 (by omega)
  have g2 := sect0_get _ _ h 48 4 (by omega)
  have p1 := parse_block s hs ms
  have p2 := parse_block t ht mt
  have a1 : (parseS (blockS s)).tx = getN (blockS s) 8 8 := rfl
  have a2 : (parseS (blockS t)).tx = getN (blockS t) 8 8 := rfl
  have b1 : (parseS (blockS s)).top = (getN (blockS s) 48 4).toUInt32 := rfl
  have b2 : (parseS (blockS t)).top = (getN (blockS t) 48 4).toUInt32 := rfl
  rw [p1] at a1 b1
  rw [p2] at a2 b2
  exact ⟨by rw [a1, a2, g1], by rw [b1, b2, g2]⟩
theorem of_zero (B : List UInt8) (h : sect B 0 = zeros 64) : (ofS B).2 = 4 := by
  have g := sect0_get B (zeros 256) (by rw [h, sect_zeros]) 8 8 (by omega)
  have hz : getN (zeros 256) 8 8 = 0 := by decide
  have hm : mayS (parseS B) = false := by
    have ht : (parseS B).tx = 0 := by show getN B 8 8 = 0; rw [g, hz]
    have hn : n64 (parseS B).tx < 1 := by rw [ht]; decide
    unfold mayS mayHead
    simp [hn]
  unfold ofS okS
  rw [hm]; rfl
theorem of_ok (B : List UInt8) (h : (ofS B).2 = 0) : (ofS B).1 = parseS B ∧ mayS (parseS B) = true ∧ blockS (parseS B) = B := by
  unfold ofS at h ⊢
  by_cases hk : okS B = true
  · rw [if_pos hk] at h ⊢
    unfold okS at hk
    rw [Bool.and_eq_true, beq_iff_eq] at hk
    exact ⟨rfl, hk.1, hk.2⟩
  · rw [if_neg hk] at h
    exact absurd h (by decide)
theorem sect0_voil (s : Su) : sect (blockS s) 0 ≠ zeros 64 := by
  intro h
  have e : (sect (blockS s) 0)[4]? = some 86 := by
    unfold sect blockS summed
    rw [Nat.mul_zero, List.drop_zero, List.getElem?_take, if_pos (by omega), List.getElem?_append_right (by rw [tail_length]; omega), tail_length]
    unfold pad bodyS
    rw [List.getElem?_take, if_pos (by omega)]
    rfl
  rw [h] at e
  exact absurd e (by decide)
theorem imgS_eq {d : DD} (h : DGood d) (k : Nat) (hk : k < d.img.length / 4) (e : DD) (he : DGood e) (hl : e.img.length = d.img.length) (hj : ∀ i, i < 4 → e.img.getD (4 * k + i) [] = d.img.getD (4 * k + i) []) : e.blk k = d.blk k :=
  sect_ext _ _ (blk_length he k (by omega)) (blk_length h k hk) (fun i hi => by rw [sect_blk he k (by omega) i hi, sect_blk h k hk i hi, hj i hi])
theorem putB_good {d : DD} (h : DGood d) (k : Nat) (B : List UInt8) (hB : B.length = 256) : DGood (d.putB k B) ∧ (d.putB k B).img.length = d.img.length := by
  obtain ⟨g1, g2, -⟩ := writeB_good h (k : Int) B hB
  unfold DD.putB
  split
  · obtain ⟨f1, f2, -⟩ := flush_good' g1
    exact ⟨f1, by rw [f2, g2]⟩
  · exact ⟨g1, g2⟩
/-- A block that is written, and flushed, on a disk with nothing open; and a loss of power. -/
theorem putB_crash {d : DD} (h : DGood d) (hj : d.jr = []) (k : Nat) (hk : k < d.img.length / 4) (B : List UInt8) (hB : B.length = 256) (P : List Int) :
    (∀ i, i < 4 → sect (((d.putB k B).crash P).blk k) i = sect (d.blk k) i ∨ sect (((d.putB k B).crash P).blk k) i = sect B i) ∧ ∀ j, j ≠ k → j < d.img.length / 4 → ((d.putB k B).crash P).blk j = d.blk j := by
  obtain ⟨g1, g2⟩ := putB_good h k B hB
  have gc := crash_goodS g1 P
  have lc := crash_lenS (d.putB k B) P
  have key : ∀ j, ((d.putB k B).crash P).img.getD j [] = d.img.getD j [] ∨ ∃ m, m < 4 ∧ j = 4 * k + m ∧ ((d.putB k B).crash P).img.getD j [] = sect B m := fun j => by
    rcases pastS_putB h k hk B hB j _ (crash_past g1 P j) with h' | h'
    · exact .inl (pastS_nil hj j _ h')
    · exact .inr h'
  refine ⟨fun i hi => ?_, fun j hjk hjl => ?_⟩
  · rw [sect_blk gc k (by omega) i hi, sect_blk h k hk i hi]
    rcases key (4 * k + i) with h' | ⟨m, hm, e, h'⟩
    · exact .inl h'
    · rw [show i = m by omega]; rw [show i = m by omega] at h'; exact .inr h'
  · refine imgS_eq h j hjl _ gc (by omega) (fun i hi => ?_)
    rcases key (4 * j + i) with h' | ⟨m, hm, e, -⟩
    · exact h'
    · exact absurd e (by omega)
theorem saveAt_putB (d : DD) (k : Nat) (B : List UInt8) : (d.saveAt k B).2 = if (d.wipe k).1 = 0 then (d.wipe k).2.putB k B else (d.wipe k).2 := by
  unfold DD.saveAt DD.putB
  split
  · split <;> rfl
  · rfl
/-- A block of no superblock is wiped: its first sector; or the power goes in it. -/
theorem wipe_crash {d : DD} (h : DGood d) (hj : d.jr = []) (k : Nat) (hk : k < d.img.length / 4) (hv : (ofS (d.blk k)).2 ≠ 0) (hz : sect (d.blk k) 0 ≠ zeros 64) :
    ((d.wipe k).1 = 0 ∧ (d.wipe k).2.jr = [] ∧ sect ((d.wipe k).2.blk k) 0 = zeros 64 ∧ (∀ i, 0 < i → i < 4 → sect ((d.wipe k).2.blk k) i = sect (d.blk k) i) ∧ ∀ j, j ≠ k → j < d.img.length / 4 → (d.wipe k).2.blk j = d.blk j) ∨
    ((d.wipe k).1 ≠ 0 ∧ ∀ P : List Int, (((d.wipe k).2.crash P).blk k = d.blk k ∨ sect (((d.wipe k).2.crash P).blk k) 0 = zeros 64) ∧ ∀ j, j ≠ k → j < d.img.length / 4 → ((d.wipe k).2.crash P).blk j = d.blk j) := by
  obtain ⟨G, L, -⟩ := wipe_good h k
  have key : ∀ j v, v ∈ pastS (d.wipe k).2 j → v = d.img.getD j [] ∨ (j = 4 * k ∧ v = zeros 64) := by
    intro j v hv2
    unfold DD.wipe at hv2
    rw [hasB_in d k hk, if_pos rfl, if_neg (fun x => x.elim hv hz)] at hv2
    have w : ∀ v, v ∈ pastS (d.write ((4 * k : Nat) : Int) (zeros 64)).2 j → v = d.img.getD j [] ∨ (j = 4 * k ∧ v = zeros 64) := fun v hv3 => by
      rcases pastS_write d (4 * k) (zeros 64) (by omega) j v hv3 with h' | h'
      · exact .inl (pastS_nil hj j v h')
      · exact .inr h'
    split at hv2
    · exact w v (pastS_flush _ j v hv2)
    · exact w v hv2
  by_cases hc : (d.wipe k).1 = 0
  · left
    have hi := DD.step_img d
    have e : (d.wipe k).2.jr = [] ∧ (d.wipe k).2.img = d.img.set (4 * k) (zeros 64) := by
      unfold DD.wipe at hc ⊢
      rw [hasB_in d k hk, if_pos rfl, if_neg (fun x => x.elim hv hz), write_in' (4 * k) (by omega)] at hc ⊢
      by_cases h0 : d.step.1 = 0
      · rw [if_pos h0, if_pos rfl] at hc ⊢
        simp only at hc ⊢
        have hi2 := DD.step_img (d.step.2.put (4 * k) (zeros 64))
        unfold DD.flush at hc ⊢
        by_cases h1 : (d.step.2.put (4 * k) (zeros 64)).step.1 = 0
        · rw [if_pos h1]
          refine ⟨rfl, ?_⟩
          show (d.step.2.put (4 * k) (zeros 64)).step.2.img = _
          rw [hi2.1]; show d.step.2.img.set _ _ = _; rw [hi.1]
        · rw [if_neg h1] at hc; exact absurd hc h1
      · rw [if_neg h0, if_neg h0] at hc; exact absurd hc h0
    have hg : ∀ j, (d.wipe k).2.img.getD j [] = if 4 * k = j ∧ 4 * k < d.img.length then zeros 64 else d.img.getD j [] := fun j => by
      rw [e.2, sgetD_set]
      by_cases hj : 4 * k = j
      · subst hj; rfl
      · rw [if_neg (fun x => hj x.1), if_neg (fun x => hj x.1)]
    refine ⟨hc, e.1, ?_, fun i h0 hi4 => ?_, fun j hjk hjl => ?_⟩
    · rw [sect_blk G k (by omega) 0 (by omega), hg, if_pos ⟨rfl, by omega⟩]
    · rw [sect_blk G k (by omega) i hi4, sect_blk h k hk i hi4, hg, if_neg (by omega)]
    · exact imgS_eq h j hjl _ G L (fun i hi4 => by rw [hg, if_neg (by omega)])
  · right
    refine ⟨hc, fun P => ?_⟩
    have gc := crash_goodS G P
    have lc := crash_lenS (d.wipe k).2 P
    have kc : ∀ j, ((d.wipe k).2.crash P).img.getD j [] = d.img.getD j [] ∨ (j = 4 * k ∧ ((d.wipe k).2.crash P).img.getD j [] = zeros 64) := fun j => key j _ (crash_past G P j)
    refine ⟨?_, fun j hjk hjl => imgS_eq h j hjl _ gc (by omega) (fun i hi4 => ?_)⟩
    · rcases kc (4 * k) with h' | ⟨-, h'⟩
      · refine .inl (imgS_eq h k hk _ gc (by omega) (fun i hi4 => ?_))
        rcases kc (4 * k + i) with h2 | ⟨e, -⟩
        · exact h2
        · rw [show i = 0 by omega]; exact h'
      · exact .inr (by rw [sect_blk gc k (by omega) 0 (by omega)]; exact h')
    · rcases kc (4 * j + i) with h2 | ⟨e, -⟩
      · exact h2
      · exact absurd e (by omega)
/-- What counts, where one slot's block is a superblock's. -/
theorem load_one {d : DD} {s : Su} {a b : Nat} (hab : (a = 0 ∧ b = 1) ∨ (a = 1 ∧ b = 0)) (hl : 8 ≤ d.img.length) (hb : ofS (d.blk b) = (s, 0)) (hs : s.tx.toNat % 2 = b) (hp : 0 < s.tx) :
    d.load = (if (ofS (d.blk a)).2 = 0 ∧ (ofS (d.blk a)).1.tx.toNat % 2 = a ∧ s.tx < (ofS (d.blk a)).1.tx then (ofS (d.blk a)).1 else s, 0) := by
  have hbest : d.best = if (ofS (d.blk a)).2 = 0 ∧ (ofS (d.blk a)).1.tx.toNat % 2 = a ∧ s.tx < (ofS (d.blk a)).1.tx then (ofS (d.blk a)).1 else s := by
    rcases hab with ⟨rfl, rfl⟩ | ⟨rfl, rfl⟩
    · have hp' : 0 < s.tx.toNat := by rw [UInt64.lt_iff_toNat_lt] at hp; simpa using hp
      have e1 : ∀ t, d.cand 1 t = if t.tx < s.tx then s else t := fun t => by
        unfold DD.cand
        rw [hb]
        by_cases h : t.tx < s.tx
        · rw [if_pos h, if_pos ⟨rfl, hs, h⟩]
        · rw [if_neg h, if_neg (fun x => h x.2.2)]
      unfold DD.best
      rw [e1]
      by_cases h1 : (ofS (d.blk 0)).2 = 0 ∧ (ofS (d.blk 0)).1.tx.toNat % 2 = 0 ∧ 0 < (ofS (d.blk 0)).1.tx
      · have e0 : d.cand 0 zeroS = (ofS (d.blk 0)).1 := by unfold DD.cand; exact if_pos h1
        rw [e0]
        by_cases h2 : s.tx < (ofS (d.blk 0)).1.tx
        · rw [if_neg (by rw [UInt64.lt_iff_toNat_lt] at *; omega), if_pos ⟨h1.1, h1.2.1, h2⟩]
        · rw [if_pos (by have := h1.2.1; rw [UInt64.lt_iff_toNat_lt] at *; omega), if_neg (fun x => h2 x.2.2)]
      · have e0 : d.cand 0 zeroS = zeroS := by unfold DD.cand; exact if_neg h1
        rw [e0, if_pos (show zeroS.tx < s.tx from hp)]
        rw [if_neg (fun x => h1 ⟨x.1, x.2.1, by have := x.2.2; rw [UInt64.lt_iff_toNat_lt] at *; simp; omega⟩)]
    · have e0 : d.cand 0 zeroS = s := by unfold DD.cand; rw [hb]; exact if_pos ⟨rfl, hs, hp⟩
      unfold DD.best
      rw [e0]
      rfl
  unfold DD.load
  rw [if_neg (by omega), hbest]
  split
  · rename_i hc
    rw [if_neg (fun x => by have := hc.2.2; rw [x] at this; rw [UInt64.lt_iff_toNat_lt] at this; exact absurd this (by simp))]
  · rw [if_neg (fun x => by rw [x] at hp; exact absurd hp (by decide))]
/-- The law's superblocks. -/
def agS (first : UInt64) (l : List Su) (i : Nat) : Su := { someS (first + u64i (min (i : Int) 2)) with top := UInt32.ofNat i, ep := (l.getD i zeroS).ep, la := (l.getD i zeroS).la, sq := (l.getD i zeroS).sq, bl := (l.getD i zeroS).bl, bq := (l.getD i zeroS).bq, mr := (l.getD i zeroS).mr }
theorem agS_pg (first : UInt64) (l : List Su) (i : Nat) : (agS first l i).pg.length = 6 := rfl
theorem agS_tx (first : UInt64) (l : List Su) (i : Nat) (h2 : first.toNat ≤ 1099511627776) : (agS first l i).tx.toNat = first.toNat + min i 2 := by
  show (first + u64i (min (i : Int) 2)).toNat = _
  rw [UInt64.toNat_add, u64i_toNat _ (by omega) (by omega)]
  omega
theorem agS_may (first : UInt64) (l : List Su) (i : Nat) (hi : i < 4) (h1 : 1 ≤ first.toNat) (h2 : first.toNat ≤ 1099511627776) : mayS (agS first l i) = true := by
  have ht := agS_tx first l i h2
  have hn : n64 (agS first l i).tx = ((first.toNat + min i 2 : Nat) : Int) := by unfold n64; rw [ht]
  have a1 : (agS first l i).me = 16 := rfl
  have a2 : (agS first l i).da = 8 := rfl
  have a3 : (agS first l i).cur = 0 := rfl
  have a4 : (agS first l i).nums = [0, 0, 0, 0, 0, 0, UInt32.ofNat i, 0, 0] := rfl
  have hm : mayHead (agS first l i) = true := by
    unfold mayHead
    rw [a1, a2, a3, hn]
    simp only [Bool.not_eq_true', Bool.or_eq_false_iff, decide_eq_false_iff_not]
    omega
  unfold mayS
  rw [hm, a1, a4]
  rcases (show i = 0 ∨ i = 1 ∨ i = 2 ∨ i = 3 by omega) with rfl | rfl | rfl | rfl <;> decide
theorem DGood.left' {d : DD} (h : DGood d) (f : Int) (h0 : 0 ≤ f) (h1 : f ≤ 20) : DGood { d with left := f } := ⟨h.some, h.few, h.sec, h.ent, h.inn, by show -1 ≤ f; omega, by show f ≤ _; omega⟩
theorem save_as (d : DD) (s : Su) (hm : mayS s = true) : (d.save s).2 = if (d.wipe (s.tx.toNat % 2)).1 = 0 then (d.wipe (s.tx.toNat % 2)).2.putB (s.tx.toNat % 2) (blockS s) else (d.wipe (s.tx.toNat % 2)).2 := by
  unfold DD.save; rw [if_pos hm, saveAt_putB]
theorem save_crash_ok {d : DD} (h : DGood d) (hj : d.jr = []) (s : Su) (hm : mayS s = true) (hl : 8 ≤ d.img.length) (P : List Int) (hv : (ofS (d.blk (s.tx.toNat % 2))).2 = 0) :
    (∀ i, i < 4 → sect (((d.save s).2.crash P).blk (s.tx.toNat % 2)) i = sect (d.blk (s.tx.toNat % 2)) i ∨ sect (((d.save s).2.crash P).blk (s.tx.toNat % 2)) i = sect (blockS s) i) ∧ ∀ j, j ≠ s.tx.toNat % 2 → j < d.img.length / 4 → ((d.save s).2.crash P).blk j = d.blk j := by
  rw [save_as d s hm]
  have hk : s.tx.toNat % 2 < d.img.length / 4 := by omega
  generalize s.tx.toNat % 2 = k at *
  have hw : d.wipe k = (0, d) := by unfold DD.wipe; rw [hasB_in d k hk, if_pos rfl, if_pos (.inl hv)]
  rw [hw, if_pos rfl]
  exact putB_crash h hj k hk (blockS s) (blockS_length s) P
/-- What the law's saving of one superblock, with a fuse, and a loss of power leave in its slot. -/
theorem save_crash {d : DD} (h : DGood d) (hj : d.jr = []) (s : Su) (hm : mayS s = true) (hl : 8 ≤ d.img.length) (P : List Int) (hz : sect (d.blk (s.tx.toNat % 2)) 0 ≠ zeros 64) :
    (∀ j, j ≠ s.tx.toNat % 2 → j < d.img.length / 4 → ((d.save s).2.crash P).blk j = d.blk j) ∧
    (((d.save s).2.crash P).blk (s.tx.toNat % 2) = d.blk (s.tx.toNat % 2) ∨ sect (((d.save s).2.crash P).blk (s.tx.toNat % 2)) 0 = zeros 64 ∨
      ((ofS (d.blk (s.tx.toNat % 2))).2 = 0 ∨ sect (((d.save s).2.crash P).blk (s.tx.toNat % 2)) 0 = sect (blockS s) 0) ∧ ∀ i, i < 4 → sect (((d.save s).2.crash P).blk (s.tx.toNat % 2)) i = sect (d.blk (s.tx.toNat % 2)) i ∨ sect (((d.save s).2.crash P).blk (s.tx.toNat % 2)) i = sect (blockS s) i) := by
  by_cases hv : (ofS (d.blk (s.tx.toNat % 2))).2 = 0
  · obtain ⟨c1, c2⟩ := save_crash_ok h hj s hm hl P hv
    exact ⟨c2, .inr (.inr ⟨.inl hv, c1⟩)⟩
  rw [save_as d s hm]
  have hk : s.tx.toNat % 2 < d.img.length / 4 := by omega
  generalize s.tx.toNat % 2 = k at *
  · obtain ⟨G, L, -⟩ := wipe_good h k
    rcases wipe_crash h hj k hk hv hz with ⟨h0, hj2, hs0, hsi, ho⟩ | ⟨h0, hP⟩
    · rw [if_pos h0]
      obtain ⟨c1, c2⟩ := putB_crash G hj2 k (by omega) (blockS s) (blockS_length s) P
      refine ⟨fun j hjk hjl => by rw [c2 j hjk (by omega), ho j hjk hjl], ?_⟩
      rcases c1 0 (by omega) with h' | h'
      · exact .inr (.inl (by rw [h', hs0]))
      · refine .inr (.inr ⟨.inr h', fun i hi => ?_⟩)
        by_cases hi0 : i = 0
        · subst hi0; exact .inr h'
        · rw [← hsi i (by omega) hi]; exact c1 i hi
    · rw [if_neg h0]
      exact ⟨(hP P).2, (hP P).1.elim .inl (fun x => .inr (.inl x))⟩
structure AgEnd (S1 S2 S3 : Su) (B : List UInt8) (d6 : DD) (Q : List Int) : Prop where
  good : DGood d6
  good7 : DGood (d6.save S3).2
  j7 : (d6.save S3).2.jr.length ≤ 10
  good8 : DGood ((d6.save S3).2.crash Q)
  val : ∃ y : Su, y.Ok ∧ ((d6.save S3).2.crash Q).load = (y, 0) ∧ (y = S1 ∨ y = S3 ∨ (mayS y = true ∧ y ≠ S2 ∧ ∀ i, i < 4 → sect (blockS y) i = sect B i ∨ sect (blockS y) i = sect (blockS S3) i))
structure AgMid (S1 S2 S3 : Su) (d3 : DD) (P : List Int) : Prop where
  good : DGood d3
  j3 : d3.jr = []
  good4 : DGood (d3.save S2).2
  j4 : (d3.save S2).2.jr.length ≤ 10
  good5 : DGood ((d3.save S2).2.crash P)
  j5 : ((d3.save S2).2.crash P).jr = []
  len5 : ((d3.save S2).2.crash P).img.length = 40
  val : ∃ x : Su, x.Ok ∧ ((d3.save S2).2.crash P).load = (x, 0) ∧ (x ≠ S1 → x.tx = S2.tx) ∧ (x = S1 → ∀ (f1 : Int) (Q : List Int), 0 ≤ f1 → f1 ≤ 20 → AgEnd S1 S2 S3 (((d3.save S2).2.crash P).blk (S2.tx.toNat % 2)) { ((d3.save S2).2.crash P) with left := f1 } Q)
theorem may_ok {s : Su} (h : s.pg.length = 6) (hm : mayS s = true) : s.Ok := by
  obtain ⟨a, b, c, d, -, -, e, f, -⟩ := mayS_bounds hm
  exact ⟨h, by omega, by omega, by omega⟩
theorem save_good' {d : DD} (h : DGood d) (hj : d.jr = []) (s : Su) (P : List Int) : DGood (d.save s).2 ∧ (d.save s).2.jr.length ≤ 10 ∧ DGood ((d.save s).2.crash P) ∧ ((d.save s).2.crash P).jr = [] ∧ ((d.save s).2.crash P).img.length = d.img.length := by
  obtain ⟨g1, g2, g3⟩ := save_good h s
  rw [hj] at g3
  exact ⟨g1, by simpa using (show (d.save s).2.jr.length ≤ 10 by simp at g3; omega), crash_goodS g1 P, rfl, by rw [crash_lenS, g2]⟩
theorem of_pg (B : List UInt8) (h : (ofS B).2 = 0) : (ofS B).1.pg.length = 6 := by
  rw [(of_ok B h).1]; simp [parseS]
theorem again_abs (S0 S1 S2 S3 : Su) (p0 : S0.pg.length = 6) (p1 : S1.pg.length = 6) (p2 : S2.pg.length = 6) (p3 : S3.pg.length = 6) (m0 : mayS S0 = true) (m1 : mayS S1 = true) (m2 : mayS S2 = true) (m3 : mayS S3 = true)
    (t : Nat) (t0 : S0.tx.toNat = t) (t1 : S1.tx.toNat = t + 1) (t2 : S2.tx.toNat = t + 2) (t3 : S3.tx.toNat = t + 2) (h23 : S2.top ≠ S3.top) :
    ∃ d1 d2, (DD.new 40).save S0 = (0, d1) ∧ DGood d1 ∧ d1.jr = [] ∧ d1.save S1 = (0, d2) ∧ DGood d2 ∧ ∀ (f0 : Int) (P : List Int), 0 ≤ f0 → f0 ≤ 20 → AgMid S1 S2 S3 { d2 with left := f0 } P := by
  obtain ⟨a, ha⟩ : ∃ a, a = t % 2 := ⟨_, rfl⟩
  obtain ⟨b, hb⟩ : ∃ b, b = (t + 1) % 2 := ⟨_, rfl⟩
  have hab : (a = 0 ∧ b = 1) ∨ (a = 1 ∧ b = 0) := by omega
  have s0 : S0.tx.toNat % 2 = a := by rw [t0, ha]
  have s1 : S1.tx.toNat % 2 = b := by rw [t1, hb]
  have s2 : S2.tx.toNat % 2 = a := by omega
  have s3 : S3.tx.toNat % 2 = a := by omega
  have g0 := DD.new_good 40 (by decide) (by decide)
  have l0 : (DD.new 40).img.length = 40 := by simp [DD.new, noughts]
  obtain ⟨d1, e1, L1, G1, n1, j1, b1, r1⟩ := (Live.new 40).save g0 S0 m0 (by omega) (by rw [s0, new_blk 40 a (by omega)]; exact .inr sect_zeros)
  rw [s0] at b1 r1
  obtain ⟨d2, e2, L2, G2, n2, j2, b2, r2⟩ := L1.save G1 S1 m1 (by omega) (by rw [s1, r1 b (by omega), new_blk 40 b (by omega)]; exact .inr sect_zeros)
  rw [s1] at b2 r2
  refine ⟨d1, d2, e1, G1, j1, e2, G2, fun f0 P hf0 hf20 => ?_⟩
  have G3 := DGood.left' G2 f0 hf0 hf20
  have ba : DD.blk { d2 with left := f0 } a = blockS S0 := by show d2.blk a = _; rw [r2 a (by omega), b1]
  have bb : DD.blk { d2 with left := f0 } b = blockS S1 := b2
  have j3 : ({ d2 with left := f0 } : DD).jr = [] := j2
  have l3 : ({ d2 with left := f0 } : DD).img.length = 40 := by show d2.img.length = 40; omega
  generalize ({ d2 with left := f0 } : DD) = d3 at *
  obtain ⟨G4, j4, G5, j5, l5⟩ := save_good' G3 j3 S2 P
  have hp1 : 0 < S1.tx := by rw [UInt64.lt_iff_toNat_lt, t1]; simp
  have hof0 : (ofS (blockS S0)).2 = 0 := by rw [of_block S0 p0 m0]
  have hof1 : ofS (blockS S1) = (S1, 0) := of_block S1 p1 m1
  -- the slot behind the first loss
  obtain ⟨key, c1⟩ := save_crash_ok G3 j3 S2 m2 (by omega) P (by rw [s2, ba]; exact hof0)
  rw [s2] at c1 key
  have c1b := c1 b (by omega) (by omega)
  rw [bb] at c1b
  rw [ba] at key
  rw [l3] at l5
  generalize hd5 : (d3.save S2).2.crash P = d5 at *
  have hz5 : sect (d5.blk a) 0 ≠ zeros 64 := by
    rcases key 0 (by omega) with h | h <;> rw [h] <;> exact sect0_voil _
  have hof5 : ofS (d5.blk b) = (S1, 0) := by rw [c1b, hof1]
  refine ⟨G3, j3, G4, j4, hd5 ▸ G5, hd5 ▸ j5, hd5 ▸ l5, ?_⟩
  rw [hd5, s2]
  have hld := load_one hab (by omega) hof5 s1 hp1
  by_cases hc : (ofS (d5.blk a)).2 = 0 ∧ (ofS (d5.blk a)).1.tx.toNat % 2 = a ∧ S1.tx < (ofS (d5.blk a)).1.tx
  · rw [if_pos hc] at hld
    obtain ⟨q1, q2, q3⟩ := of_ok _ hc.1
    have qp := of_pg _ hc.1
    rw [← q1] at q2 q3
    refine ⟨_, may_ok qp q2, hld, fun _ => ?_, fun hx => ?_⟩
    · rcases key 0 (by omega) with h | h
      · rw [← q3] at h
        have := (sect0_tx _ _ qp p0 q2 m0 h).1
        have h3 := hc.2.2
        rw [this, UInt64.lt_iff_toNat_lt] at h3
        omega
      · rw [← q3] at h
        exact (sect0_tx _ _ qp p2 q2 m2 h).1
    · have h3 := hc.2.2
      rw [hx, UInt64.lt_iff_toNat_lt] at h3
      omega
  · rw [if_neg hc] at hld
    refine ⟨S1, may_ok p1 m1, hld, fun h => absurd rfl h, fun _ f1 Q hf1 hf2 => ?_⟩
    have G6 := DGood.left' G5 f1 hf1 hf2
    have j6 : ({ d5 with left := f1 } : DD).jr = [] := j5
    have l6 : ({ d5 with left := f1 } : DD).img.length = 40 := l5
    have ba6 : DD.blk { d5 with left := f1 } a = d5.blk a := rfl
    have bb6 : DD.blk { d5 with left := f1 } b = blockS S1 := c1b
    generalize ({ d5 with left := f1 } : DD) = d6 at *
    obtain ⟨G7, j7, G8, -, l8⟩ := save_good' G6 j6 S3 Q
    obtain ⟨e1, e2⟩ := save_crash G6 j6 S3 m3 (by omega) Q (by rw [s3, ba6]; exact hz5)
    rw [s3, ba6] at e2
    rw [s3] at e1
    have e1b := e1 b (by omega) (by omega)
    rw [bb6] at e1b
    refine ⟨G6, G7, j7, G8, ?_⟩
    generalize (d6.save S3).2.crash Q = d8 at *
    have hld8 := load_one (d := d8) hab (by omega) (by rw [e1b, hof1]) s1 hp1
    by_cases hc8 : (ofS (d8.blk a)).2 = 0 ∧ (ofS (d8.blk a)).1.tx.toNat % 2 = a ∧ S1.tx < (ofS (d8.blk a)).1.tx
    · rw [if_pos hc8] at hld8
      obtain ⟨q1, q2, q3⟩ := of_ok _ hc8.1
      have qp := of_pg _ hc8.1
      rw [← q1] at q2 q3
      refine ⟨_, may_ok qp q2, hld8, .inr (.inr ⟨q2, fun hx => ?_, ?_⟩)⟩
      · rcases e2 with e2 | e2 | ⟨e2, e3⟩
        · rw [e2] at hc8; exact hc hc8
        · have := of_zero _ e2; rw [this] at hc8; exact absurd hc8.1 (by decide)
        · rw [hx] at q3
          have n3 : sect (blockS S2) 0 ≠ sect (blockS S3) 0 := fun h => h23 (sect0_tx _ _ p2 p3 m2 m3 h).2
          rcases e2 with e2 | e2
          · rcases e3 0 (by omega) with h | h
            · rw [← q3] at h
              obtain ⟨z1, z2, z3⟩ := of_ok _ e2
              have zp := of_pg _ e2
              rw [← z1] at z2 z3
              rw [← z3] at h
              have htx := (sect0_tx _ _ p2 zp m2 z2 h).1
              exact hc ⟨e2, by rw [← htx]; exact s2, by rw [← htx, UInt64.lt_iff_toNat_lt]; omega⟩
            · rw [← q3] at h; exact n3 h
          · rw [← q3] at e2; exact n3 e2
      · rw [q3]
        rcases e2 with e2 | e2 | ⟨e2, e3⟩
        · rw [e2] at hc8; exact absurd hc8 hc
        · have := of_zero _ e2; rw [this] at hc8; exact absurd hc8.1 (by decide)
        · exact e3
    · rw [if_neg hc8] at hld8
      exact ⟨S1, may_ok p1 m1, hld8, .inl rfl⟩
theorem again_plain (first : UInt64) (l : List Su) (h1 : 1 ≤ first.toNat) (h2 : first.toNat ≤ 1099511627776) :
    ∃ d1 d2, (DD.new 40).save (agS first l 0) = (0, d1) ∧ DGood d1 ∧ d1.jr = [] ∧ d1.save (agS first l 1) = (0, d2) ∧ DGood d2 ∧ ∀ (f0 : Int) (P : List Int), 0 ≤ f0 → f0 ≤ 20 → AgMid (agS first l 1) (agS first l 2) (agS first l 3) { d2 with left := f0 } P :=
  again_abs _ _ _ _ (agS_pg _ _ _) (agS_pg _ _ _) (agS_pg _ _ _) (agS_pg _ _ _) (agS_may first l 0 (by omega) h1 h2) (agS_may first l 1 (by omega) h1 h2) (agS_may first l 2 (by omega) h1 h2) (agS_may first l 3 (by omega) h1 h2) first.toNat
    (agS_tx first l 0 h2) (agS_tx first l 1 h2) (agS_tx first l 2 h2) (agS_tx first l 3 h2) (by show (UInt32.ofNat 2) ≠ UInt32.ofNat 3; decide)
/-! ### Torn, where each sector stands in one of the two blocks -/
theorem cut_sect {w : World} {g : Nat} {B : List UInt8} (hB : Blk w g 37 (B.map b8)) (hl : B.length = 256) (i : Nat) (hi : i < 4) :
    (Instr.sliceAt 37 (.pointer (some ⟨g, 0, none⟩)) (some (.int .i64 (64 * (i : Int)))) (some (.int .i64 (64 * (i : Int) + 64))) none).run Try.prog w = .ok (.slice (some ⟨g, 64 * i, none⟩) (sect B i).length (256 - 64 * i)) w ∧
    (convert 22 9 (.slice (some ⟨g, 64 * i, none⟩) (sect B i).length (256 - 64 * i))).run Try.prog w = .ok (.string (bs (sect B i))) w := by
  refine ⟨?_, bytes_string _ _ _ ?_⟩
  · have := cut_arr Try.underlying37 w g 0 (64 * i) (64 * i + 64) (64 * (i : Int)) (64 * (i : Int) + 64) .i64 .i64 (by push_cast; rfl) (by push_cast; rfl) (by omega) (by omega) (by omega)
    rw [show 64 * i + 64 - 64 * i = (sect B i).length by rw [sect_length B i hl hi]; omega, Nat.zero_add] at this
    exact this
  · have e : (sect B i).map b8 = ((B.map b8).drop (64 * i)).take 64 := by unfold sect; rw [List.map_take, List.map_drop]
    have h := hB.rd (64 * i)
    rw [e]
    exact h.take 64
set_option maxHeartbeats 1000000 in
set_option maxRecDepth 100000 in
theorem torn_any (O N B : List UInt8) (hO : O.length = 256) (hN : N.length = 256) (hB : B.length = 256) (hs : ∀ i, i < 4 → sect B i = sect O i ∨ sect B i = sect N i) (w : World) :
    Calls Try.prog 62 #[arr O, arr N, arr B] w fun e w' => e = .returned (.int .i64 1) ∧ GB w w' := by
  have HS := Lib.hid hs
  have HO := Lib.hid hO
  have HN := Lib.hid hN
  have HB := Lib.hid hB
  clear hs hO hN hB
  go_enter Try.func62, Try.ntmps62
  go_wp2_with (first | with_reducible refine halt_box 37 ?_)
  refine L.box (l := O) rfl (by rfl) (by rfl) ?_
  intro w1 h1 g1
  simp only [Act.put, List.setIfInBounds_toArray, List.set_cons_zero, List.set_cons_succ]
  go_wp2_with (first | with_reducible refine halt_box 37 ?_)
  refine L.box (l := N) rfl (by rfl) (by rfl) ?_
  intro w2 h2 g2
  simp only [Act.put, List.setIfInBounds_toArray, List.set_cons_zero, List.set_cons_succ]
  go_wp2_with (first | with_reducible refine halt_box 37 ?_)
  refine L.box (l := B) rfl (by rfl) (by rfl) ?_
  intro w3 h3 g3
  simp only [Act.put, List.setIfInBounds_toArray, List.set_cons_zero, List.set_cons_succ]
  have h1' := (h1.gb g2).gb g3
  have h2' := h2.gb g3
  have g := GB.trans _ _ _ (GB.trans _ _ _ g1 g2) g3
  clear h1 h2 g1 g2 g3
  generalize w.heap.size = gO at *
  generalize w1.heap.size = gN at *
  generalize w2.heap.size = gB at *
  go_wp2_with fail
  go_loopw [7] (fun x wr => ∃ i : Nat, x = .int .i64 i ∧ i ≤ 4 ∧ wr = w3) (fun x _ => 4 - (intOf x).toNat)
  case atStart => exact ⟨0, rfl, by omega, rfl⟩
  case round =>
    obtain ⟨i, rfl, hi, rfl⟩ := hrel
    by_cases hlt : i < 4
    · obtain ⟨cO, sO⟩ := cut_sect h1' HO.out i hlt
      obtain ⟨cN, sN⟩ := cut_sect h2' HN.out i hlt
      obtain ⟨cB, sB⟩ := cut_sect h3 HB.out i hlt
      have hw1 : IntKind.i64.wrap (64 * (i : Int)) = 64 * (i : Int) := wrapi _ (by omega) (by omega)
      have hw2 : IntKind.i64.wrap (64 * (i : Int) + 64) = 64 * (i : Int) + 64 := wrapi _ (by omega) (by omega)
      have hor := HS.out i hlt
      generalize sect B i = sb at *
      generalize sect O i = so at *
      generalize sect N i = sn at *
      by_cases he : sb = so
      · subst he
        clear hor
        go_wp2_with fail
        go_roundw
        case rel => exact ⟨i + 1, by go_num, by omega, trivial⟩
        case measure => simp [intOf]; omega
      · obtain rfl := hor.resolve_left he
        have hne : ¬ (bs sb).toList = (bs so).toList := by rw [bs_toList, bs_toList]; exact he
        clear hor
        go_wp2_with fail
        go_roundw
        case rel => exact ⟨i + 1, by go_num, by omega, trivial⟩
        case measure => simp [intOf]; omega
    · go_wp2_with fail
      go_ret
      exact ⟨rfl, g⟩
/-! ### The law's superblocks in memory, and its own blocks beside the disk -/
theorem put_in {α : Type} (A c D vs : List α) (k o : Nat) (hk : k = A.length + o) (h : o + vs.length ≤ c.length) : put (A ++ (c ++ D)) k vs = A ++ (put c o vs ++ D) := by
  subst hk
  unfold put
  rw [List.take_append, List.take_of_length_le (l := A) (by omega), show A.length + o - A.length = o by omega, List.take_append_of_le_length (by omega)]
  rw [List.drop_append, List.drop_of_length_le (l := A) (by omega), show A.length + o + vs.length - A.length = o + vs.length by omega, List.drop_append_of_le_length h]
  simp
theorem set_put {α : Type} (l : List α) (i : Nat) (x : α) (h : i < l.length) : l.set i x = put l i [x] := by
  unfold put
  rw [List.set_eq_take_append_cons_drop, if_pos h]; simp
/-- The law's four superblocks, where k of them are made. -/
def agV (first : UInt64) (l : List Su) (k : Nat) : List Value := ((List.range k).map (agS first l) ++ List.replicate (4 - k) zeroS).flatMap suC
theorem agV_all (first : UInt64) (l : List Su) (k : Nat) : ∀ x ∈ (List.range k).map (agS first l) ++ List.replicate (4 - k) zeroS, (suC x).length = 19 := by
  intro x hx
  rcases List.mem_append.1 hx with h | h
  · obtain ⟨i, -, rfl⟩ := List.mem_map.1 h; rfl
  · rw [List.eq_of_mem_replicate h]; rfl
theorem agV_len (first : UInt64) (l : List Su) (k : Nat) (hk : k ≤ 4) : (agV first l k).length = 76 := by
  have h := fm_length (f := suC) (n := 19) (agV_all first l k)
  unfold agV
  rw [h, List.length_append, List.length_map, List.length_range, List.length_replicate]; omega
theorem agV_at (first : UInt64) (l : List Su) (i : Nat) (hi : i < 4) : ((agV first l 4).drop (i * 19)).take 19 = suC (agS first l i) := by
  have h := fm_at (f := suC) (n := 19) (agV_all first l 4) i (by simp; omega)
  unfold agV
  rw [h]
  congr 1
  rw [List.getElem_append_left (by simp; omega)]
  simp
theorem su_tx {cs : List Value} {n : Nat} {s : Su} (h : (cs.drop n).take 19 = suC s) : cs[n]? = some (b64 s.tx) := by
  have e : ((cs.drop n).take 19)[0]? = some (b64 s.tx) := by rw [h]; rfl
  rw [List.getElem?_take, if_pos (by omega), List.getElem?_drop] at e
  exact e
theorem agV_0 (first : UInt64) (l : List Su) : agV first l 0 = suC zeroS ++ (suC zeroS ++ (suC zeroS ++ suC zeroS)) := rfl
theorem ag_chunk (t : UInt64) (s : Su) (top : UInt32) : (put (put (put (suC zeroS) 0 (suC (someS t))) 13 (stC s)) 9 [b32 top]) = suC { someS t with top := top, ep := s.ep, la := s.la, sq := s.sq, bl := s.bl, bq := s.bq, mr := s.mr } := rfl
theorem agV_step (first : UInt64) (l : List Su) (k : Nat) (hk : k < 4) :
    put (put (put (agV first l k) (k * 19) (suC (someS (first + u64i (min (k : Int) 2))))) (k * 19 + 13) (stC (l.getD k zeroS))) (k * 19 + 9) [b32 (UInt32.ofNat k)] = agV first l (k + 1) := by
  have hA : (((List.range k).map (agS first l)).flatMap suC).length = k * 19 := by
    have h := fm_length (f := suC) (n := 19) (l := (List.range k).map (agS first l)) (fun x hx => agV_all first l k x (List.mem_append_left _ hx))
    rw [h, List.length_map, List.length_range]
  have e0 : agV first l k = ((List.range k).map (agS first l)).flatMap suC ++ (suC zeroS ++ (List.replicate (4 - (k + 1)) zeroS).flatMap suC) := by
    unfold agV
    rw [List.flatMap_append, show 4 - k = (4 - (k + 1)) + 1 by omega, List.replicate_succ, List.flatMap_cons]
  have e1 : agV first l (k + 1) = ((List.range k).map (agS first l)).flatMap suC ++ (suC (agS first l k) ++ (List.replicate (4 - (k + 1)) zeroS).flatMap suC) := by
    unfold agV
    rw [List.flatMap_append, List.range_succ, List.map_append, List.flatMap_append, List.append_assoc]
    simp
  rw [e0, e1]
  generalize ((List.range k).map (agS first l)).flatMap suC = A at *
  generalize (List.replicate (4 - (k + 1)) zeroS).flatMap suC = D
  rw [put_in A (suC zeroS) D _ (k * 19) 0 (by omega) (Nat.le_of_ble_eq_true rfl)]
  rw [put_in A _ D _ (k * 19 + 13) 13 (by omega) (Nat.le_of_ble_eq_true rfl)]
  rw [put_in A _ D _ (k * 19 + 9) 9 (by omega) (Nat.le_of_ble_eq_true rfl)]
  rw [ag_chunk]
  rfl
def stL (l : List Su) : List Value := l.flatMap stC
theorem stL_len (l : List Su) : (stL l).length = l.length * 6 := fm_length (f := stC) (n := 6) (fun _ _ => rfl)
theorem stL_at (l : List Su) (i : Nat) (hi : i < l.length) : ((stL l).drop (i * 6)).take 6 = stC (l.getD i zeroS) := by
  have h := fm_at (f := stC) (n := 6) (l := l) (fun _ _ => rfl) i hi
  unfold stL
  rw [h]; congr 1; simp [List.getD, hi]
theorem zero83 : (Try.prog.info? 83).map (·.zero) = some (some (.agg (suC zeroS ++ (suC zeroS ++ (suC zeroS ++ suC zeroS))).toArray)) := by kernel_rfl
section
variable {ρ : Operand → Value} {o : Oper} {w : World} {ops : Array Oper} {rest : List Oper} {a : Act} {Q : Exit → Act → World → Prop}
theorem L5.box {T : TypeId} {x : Operand} {cs : List Value} (ho : o.op = .box T x) (hx : a.eval x = .agg cs.toArray) (hw : Region.wanted o (yielded ops a.tmps) = true)
    (h : ∀ w', Blk w' w.heap.size T cs → GB w w' → wpList Try.prog ops Q rest (a.put o.dst (.pointer (some ⟨w.heap.size, 0, none⟩))) w') : wpList Try.prog ops Q (o :: rest) a w := by
  refine L.val (w' := w.alloc (.cells cs.toArray T)) (v := .pointer (some ⟨w.heap.size, 0, none⟩)) hw ?_ (h _ (Blk.new w cs T) ((Below.refl _ _).alloc (Nat.le_refl _) _))
  unfold execOp; rw [ho]
  simp only [hx]
  rfl
theorem L5.alloc83 (first : UInt64) (l : List Su) (ho : o.op = .alloc 83) (hw : Region.wanted o (yielded ops a.tmps) = true)
    (h : ∀ w', Blk w' w.heap.size 83 (agV first l 0) → GB w w' → wpList Try.prog ops Q rest (a.put o.dst (.pointer (some ⟨w.heap.size, 0, none⟩))) w') : wpList Try.prog ops Q (o :: rest) a w := by
  rw [agV_0] at h
  refine L.val (w' := w.alloc (.cells (suC zeroS ++ (suC zeroS ++ (suC zeroS ++ suC zeroS))).toArray 83)) (v := .pointer (some ⟨w.heap.size, 0, none⟩)) hw ?_ (h _ (Blk.new w _ 83) ((Below.refl _ _).alloc (Nat.le_refl _) _))
  unfold execOp; rw [ho]
  simp only [Instr.alloc, Sem.run_bind, run_zero zero83, Result.andThen_ok]
  rfl
theorem X5.load82 {T : TypeId} {g off : Nat} {x : Operand} {cs : List Value} {s : Su} (ho : o.op = .load 82 x) (hx : ρ x = .pointer (some ⟨g, off, none⟩)) (hB : Blk w g T cs) (hl : (cs.drop off).take 19 = suC s) (hn : off + 19 ≤ cs.length) :
    (execOp ρ o).run Try.prog w = .ok (.value (suV s)) w := by
  have := run_load_part (P := Try.prog) (o := off) hB Try.underlying82 rfl info82 hn
  rw [hl] at this
  unfold execOp; rw [ho]
  simp only [hx, Sem.run_bind, this, Result.andThen_ok, Sem.run_pure]
  rfl
end
/-- The blocks of the law's own. -/
def Bx (w : World) (bx : List (Nat × TypeId × List Value)) : Nat → Prop := fun k => w.heap.size ≤ k ∧ ∀ b ∈ bx, b.1 ≠ k
structure AgM (w u : World) (p : Nat) (d : DD) (F : Nat → Prop) (bx : List (Nat × TypeId × List Value)) : Prop where
  disk : DiskAt u p d F
  sub : ∀ k, F k → Bx w bx k
  gb : GB w u
  blk : ∀ b ∈ bx, Blk u b.1 b.2.1 b.2.2 ∧ w.heap.size ≤ b.1
section
variable {w u v : World} {p : Nat} {d d' : DD} {F : Nat → Prop} {bx : List (Nat × TypeId × List Value)}
theorem AgM.mk0 (hd : DiskAt u p d F) (hF : ∀ k, F k → w.heap.size ≤ k) (g : GB w u) : AgM w u p d F [] := ⟨hd, fun k hk => ⟨hF k hk, fun b hb => by cases hb⟩, g, fun b hb => by cases hb⟩
theorem AgM.later (h : AgM w u p d F bx) (g : GB u v) : AgM w v p d F bx := ⟨h.disk.gb g, h.sub, GB.trans _ _ _ h.gb g, fun b hb => ⟨(h.blk b hb).1.gb g, (h.blk b hb).2⟩⟩
theorem AgM.frs (h : AgM w u p d F bx) (f : Fr F u v) : Fr (Bx w bx) u v := f.mono (fun k _ hk => h.sub k hk)
theorem AgM.step (h : AgM w u p d F bx) (m : Moved p d' F u v) : ∃ F', AgM w v p d' F' bx ∧ Fr (Bx w bx) u v := by
  obtain ⟨F', h1, h2, h3⟩ := m
  refine ⟨F', ⟨h1, fun k hk => ?_, Below.trans h.gb (h2.below (B := w.heap.size) (fun k _ hk => (h.sub k hk).1) (Below.size h.gb)), fun b hb => ⟨h2.blk (h.blk b hb).1 (fun hf => (h.sub _ hf).2 b hb rfl), (h.blk b hb).2⟩⟩, h.frs h2⟩
  rcases h3 k hk with h' | h'
  · exact h.sub k h'
  · have hs := Below.size h.gb
    exact ⟨by omega, fun b hb e => by have := (h.blk b hb).1.lt; omega⟩
/-- A block that is new beside the disk. -/
theorem AgM.add (h : AgM w u p d F bx) (g : Nat) (T : TypeId) (cs : List Value) (hs : u.heap.size ≤ g) (e : GB u v) (hB : Blk v g T cs) : AgM w v p d F ((g, T, cs) :: bx) := by
  have hsz := Below.size h.gb
  have hl := h.later e
  refine ⟨hl.disk, fun k hk => ⟨(h.sub k hk).1, fun b hb => ?_⟩, hl.gb, fun b hb => ?_⟩
  · rcases List.mem_cons.1 hb with rfl | hb
    · have := h.disk.lt k hk
      show g ≠ k; omega
    · exact (h.sub k hk).2 b hb
  · rcases List.mem_cons.1 hb with rfl | hb
    · exact ⟨hB, by show _ ≤ g; omega⟩
    · exact hl.blk b hb
/-- The foremost block is written. -/
theorem AgM.store {g : Nat} {T : TypeId} {cs ds : List Value} (h : AgM w u p d F ((g, T, cs) :: bx)) (hB : Blk v g T ds) (hG : u.grownBy v (some g)) (hne : ∀ b ∈ bx, b.1 ≠ g) : AgM w v p d F ((g, T, ds) :: bx) := by
  have f : Fr (· = g) u v := Fr.of_grown hG (fun j hj => by cases hj; rfl)
  have hg : w.heap.size ≤ g := (h.blk _ (List.mem_cons_self ..)).2
  have sub : ∀ k, F k → Bx w ((g, T, ds) :: bx) k := fun k hk => ⟨(h.sub k hk).1, fun b hb => by
    rcases List.mem_cons.1 hb with rfl | hb
    · exact (h.sub k hk).2 (g, T, cs) (List.mem_cons_self ..)
    · exact (h.sub k hk).2 b (List.mem_cons_of_mem _ hb)⟩
  refine ⟨h.disk.fr f (fun k hk e => (h.sub k hk).2 (g, T, cs) (List.mem_cons_self ..) e.symm), sub, Below.trans h.gb (f.below (B := w.heap.size) (fun k _ hk => by omega) (Below.size h.gb)), fun b hb => ?_⟩
  rcases List.mem_cons.1 hb with rfl | hb
  · exact ⟨hB, hg⟩
  · have := h.blk b (List.mem_cons_of_mem _ hb)
    exact ⟨f.blk this.1 (hne b hb), this.2⟩
theorem AgM.b0 {b : Nat × TypeId × List Value} (h : AgM w u p d F (b :: bx)) : Blk u b.1 b.2.1 b.2.2 := (h.blk b (List.mem_cons_self ..)).1
theorem AgM.b1 {b c : Nat × TypeId × List Value} (h : AgM w u p d F (b :: c :: bx)) : Blk u c.1 c.2.1 c.2.2 := (h.blk c (List.mem_cons_of_mem _ (List.mem_cons_self ..))).1
theorem AgM.b2 {b c e : Nat × TypeId × List Value} (h : AgM w u p d F (b :: c :: e :: bx)) : Blk u e.1 e.2.1 e.2.2 := (h.blk e (List.mem_cons_of_mem _ (List.mem_cons_of_mem _ (List.mem_cons_self ..)))).1
theorem AgM.b3 {b c e f : Nat × TypeId × List Value} (h : AgM w u p d F (b :: c :: e :: f :: bx)) : Blk u f.1 f.2.1 f.2.2 := (h.blk f (List.mem_cons_of_mem _ (List.mem_cons_of_mem _ (List.mem_cons_of_mem _ (List.mem_cons_self ..))))).1
theorem AgM.b4 {b c e f g : Nat × TypeId × List Value} (h : AgM w u p d F (b :: c :: e :: f :: g :: bx)) : Blk u g.1 g.2.1 g.2.2 := (h.blk g (List.mem_cons_of_mem _ (List.mem_cons_of_mem _ (List.mem_cons_of_mem _ (List.mem_cons_of_mem _ (List.mem_cons_self ..)))))).1
theorem Bx.b0 {b : Nat × TypeId × List Value} (f : Fr (Bx w (b :: bx)) u v) (h : Blk u b.1 b.2.1 b.2.2) : Blk v b.1 b.2.1 b.2.2 := f.blk h (fun x => x.2 b (List.mem_cons_self ..) rfl)
theorem Bx.b1 {b c : Nat × TypeId × List Value} (f : Fr (Bx w (b :: c :: bx)) u v) (h : Blk u c.1 c.2.1 c.2.2) : Blk v c.1 c.2.1 c.2.2 := f.blk h (fun x => x.2 c (List.mem_cons_of_mem _ (List.mem_cons_self ..)) rfl)
end
end Go.Proofs.Ytiihllfjlgbfcaa
