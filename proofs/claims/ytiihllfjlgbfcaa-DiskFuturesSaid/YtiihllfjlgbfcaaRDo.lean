/- The walks of the reference's Do. -/
import Derived.Test.YtiihllfjlgbfcaaRNew
import Derived.Test.YtiihllfjlgbfcaaReg2
namespace Go.Proofs.Ytiihllfjlgbfcaa
open Go.RowKit
structure Step where
  kind : Int
  n : Int
  fill : UInt8
  picks : List Int
def RD.there (r : RD) (n : Int) : Bool := decide (0 ≤ n) && decide (n < (r.s.length : Int))
/-- A sector is written. -/
def RD.wr (r : RD) (k : Nat) (c : UInt8) : RD := { r with s := r.s.set k (r.s.getD k [] ++ [c]) }
theorem RD.moves_s (r : RD) : r.moves.2.s = r.s := by unfold RD.moves; split <;> rfl
theorem RD.moves_fuse (r : RD) (h1 : -1 ≤ r.fuse) (h2 : r.fuse ≤ 9223372036854775807) : -1 ≤ r.moves.2.fuse ∧ r.moves.2.fuse ≤ 9223372036854775807 := by
  unfold RD.moves; split
  · exact ⟨h1, h2⟩
  · simp only; split <;> omega
theorem RGood.moves {r : RD} (h : RGood r) : RGood r.moves.2 :=
  ⟨by rw [RD.moves_s]; exact h.some, by rw [RD.moves_s]; exact h.few, by rw [RD.moves_s]; exact h.ne, (RD.moves_fuse r h.lo h.hi).1, (RD.moves_fuse r h.lo h.hi).2⟩
theorem RMoved.gb {q : Nat} {r : RD} {G : Nat → Prop} {w u v : World} (h : RMoved q r G w u) (g : GB u v) : RMoved q r G w v := by
  obtain ⟨G', h1, h2, h3⟩ := h
  exact ⟨G', h1.gb g, h2.gb g, h3⟩
theorem RMoved.of_gb {q : Nat} {r : RD} {G : Nat → Prop} {w u : World} (h : RefAt w q r G) (g : GB w u) : RMoved q r G w u := (RMoved.refl h).gb g
theorem RGood.settle {r : RD} (h : RGood r) (i : Nat) (c : UInt8) : RGood (r.settle i c) :=
  ⟨by unfold RD.settle; rw [List.length_set]; exact h.some, by unfold RD.settle; rw [List.length_set]; exact h.few, fun x hx => by
    rcases List.mem_or_eq_of_mem_set hx with h' | rfl
    · exact h.ne x h'
    · exact ⟨by simp, by simp⟩, h.lo, h.hi⟩
def settleUp (r : RD) : Nat → RD
  | 0 => r
  | k + 1 => (settleUp r k).settle k ((settleUp r k).now k)
theorem settleUp_len (r : RD) (k : Nat) : (settleUp r k).s.length = r.s.length := by
  induction k with
  | zero => rfl
  | succ k ih => rw [settleUp]; unfold RD.settle; rw [List.length_set]; exact ih
theorem RGood.settleUp {r : RD} (h : RGood r) : ∀ k, RGood (settleUp r k)
  | 0 => h
  | k + 1 => (RGood.settleUp h k).settle _ _
def rpick (picks : List Int) (k n : Nat) : Nat := (if k < picks.length then ((picks.getD k 0).tmod n + n).tmod n else 0).toNat
def rcrashUp (r : RD) (picks : List Int) : Nat → RD
  | 0 => r
  | k + 1 => (rcrashUp r picks k).settle ((r.openR).getD k 0).toNat ((((rcrashUp r picks k).s.getD ((r.openR).getD k 0).toNat [])).getD (rpick picks k ((rcrashUp r picks k).s.getD ((r.openR).getD k 0).toNat []).length) 0)
theorem rcrashUp_len (r : RD) (picks : List Int) (k : Nat) : (rcrashUp r picks k).s.length = r.s.length := by
  induction k with
  | zero => rfl
  | succ k ih => rw [rcrashUp]; unfold RD.settle; rw [List.length_set]; exact ih
theorem RGood.rcrashUp {r : RD} (h : RGood r) (picks : List Int) : ∀ k, RGood (rcrashUp r picks k)
  | 0 => h
  | k + 1 => (RGood.rcrashUp h picks k).settle _ _
theorem openUp_mem (r : RD) (k : Nat) : ∀ x ∈ openUp r k, ∃ i : Nat, x = (i : Int) ∧ i < k := by
  induction k with
  | zero => intro x hx; cases hx
  | succ k ih =>
    intro x hx
    unfold openUp at hx
    split at hx
    · rcases List.mem_append.1 hx with h | h
      · obtain ⟨i, h1, h2⟩ := ih x h; exact ⟨i, h1, by omega⟩
      · simp at h; exact ⟨k, h, by omega⟩
    · obtain ⟨i, h1, h2⟩ := ih x hx; exact ⟨i, h1, by omega⟩
theorem rpick_lt (picks : List Int) (k n : Nat) (h : 0 < n) : rpick picks k n < n := by
  unfold rpick
  split
  · have h1 := Int.tmod_lt_of_pos ((picks.getD k 0).tmod n + n) (show (0 : Int) < n by omega)
    omega
  · simpa using h
/-- The step's answer, and the disk behind it. -/
def RD.do (r : RD) (x : Step) : Int × RD :=
  if x.kind = 1 then (if r.there x.n then (if r.moves.1 then (0, r.moves.2.wr x.n.toNat x.fill) else (10, r.moves.2)) else (2, r))
  else if x.kind = 6 then (if r.there x.n then (0, r) else (2, r))
  else if x.kind = 2 then (if r.moves.1 then (0, settleUp r.moves.2 r.moves.2.s.length) else (10, r.moves.2))
  else if x.kind = 3 then (if x.n < 0 then (2, r) else (0, { r with fuse := x.n }))
  else if x.kind = 4 then (0, { rcrashUp r x.picks r.openR.length with fuse := -1, dead := false })
  else if x.kind = 5 then (if x.n < (r.s.length : Int) ∨ 8192 < x.n then (2, r) else if r.dead then (10, r) else (0, r.grown (x.n.toNat - r.s.length)))
  else (0, r)
theorem RD.do5 (r : RD) (n : Int) (c : UInt8) (ps : List Int) : r.do ⟨5, n, c, ps⟩ = if n < (r.s.length : Int) ∨ 8192 < n then (2, r) else if r.dead then (10, r) else (0, r.grown (n.toNat - r.s.length)) := by simp [RD.do]
theorem RD.do1 (r : RD) (n : Int) (c : UInt8) (ps : List Int) : r.do ⟨1, n, c, ps⟩ = if r.there n then (if r.moves.1 then (0, r.moves.2.wr n.toNat c) else (10, r.moves.2)) else (2, r) := by simp [RD.do]
theorem RD.do4 (r : RD) (n : Int) (c : UInt8) (ps : List Int) : r.do ⟨4, n, c, ps⟩ = (0, { rcrashUp r ps r.openR.length with fuse := -1, dead := false }) := by simp [RD.do]
def DoPost (q : Nat) (r : RD) (x : Step) (G : Nat → Prop) (w : World) (e : Ending) (w' : World) : Prop := e = .returned (.int .i64 (r.do x).1) ∧ RMoved q (r.do x).2 G w w'
theorem DoPost.mk {q : Nat} {r : RD} {x : Step} {G : Nat → Prop} {w w' : World} {e : Ending} {code : Int} {r' : RD} (h : Hid (r.do x = (code, r'))) (he : e = .returned (.int .i64 code)) (hm : RMoved q r' G w w') : DoPost q r x G w e w' := by
  unfold DoPost; rw [h.out]; exact ⟨he, hm⟩
set_option maxHeartbeats 4000000 in
set_option maxRecDepth 100000 in
theorem do6_any (q : Nat) (r : RD) (G : Nat → Prop) (n : Int) (c : UInt8) (pa : Option Addr) (np pc : Nat) (ps : List Int) (w : World) (h : RefAt w q r G) (hg : RGood r) :
    Calls Try.prog 87 #[.pointer (some ⟨q, 0, none⟩), .agg #[.int .i64 6, .int .i64 n, .int .u8 (n8 c), .slice pa np pc]] w (DoPost q r ⟨6, n, c, ps⟩ G w) := by
  have h0 := h
  obtain ⟨y, hr⟩ := h
  have gA : GB w (w.alloc (.cells #[.int .i64 6, .int .i64 n, .int .u8 (n8 c), .slice pa np pc] 122)) := (Below.refl _ _).alloc (Nat.le_refl _) _
  have hX := Blk.new w [.int .i64 6, .int .i64 n, .int .u8 (n8 c), .slice pa np pc] 122
  change Blk (w.alloc (.cells #[.int .i64 6, .int .i64 n, .int .u8 (n8 c), .slice pa np pc] 122)) _ _ _ at hX
  have hr1 := hr.gb gA
  have hfew := hg.few
  have hG := Lib.hid hg
  clear hg
  obtain ⟨va, vc, hva, -, -, -, -, -⟩ := Row.shape hr.row
  go_enter Try.func87, Try.ntmps87
  go_upto_region 1 with fail
  generalize w.alloc (.cells #[.int .i64 6, .int .i64 n, .int .u8 (n8 c), .slice pa np pc] 122) = w1 at *
  have hXd := hX.gb (GB.drew w1)
  have hrd := hr1.blk.gb (GB.drew w1)
  rw [hva] at hrd
  have C0 : ∀ u, GB w1.drew u → u.cell? ⟨q, 0, none⟩ = some (.slice va r.s.length vc) := fun u hu => (hrd.gb hu).cell 0
  have C1 : ∀ u, GB w1.drew u → u.cell? ⟨w.heap.size, 1, none⟩ = some (.int .i64 n) := fun u hu => (hXd.gb hu).cell 1
  have HVA := Lib.hid hva
  clear hva hrd
  go_cut [5] (fun s wx => s = .bool (r.there n) ∧ GB w1 wx)
  case first =>
    by_cases h1 : 0 ≤ n
    · have q1 : decide (0 ≤ n) = true := by simpa using h1
      obtain ⟨q2, hq2⟩ : ∃ q2, decide (n < (r.s.length : Int)) = q2 := ⟨_, rfl⟩
      have HT : Hid (r.there n = q2) := Lib.hid (by unfold RD.there; rw [q1, hq2, Bool.true_and])
      refine region_gb [(0,0),(1,0),(2,0),(3,0),(4,0),(5,0),(6,0),(7,0),(8,0),(9,0),(10,0),(11,0),(12,0),(13,0)] [] (by kernel_rfl) ?_
      repeat (refine S0w (v := ?_) (by rfl) (by rfl) (fun u hu N hN => ?_) ?_; rotate_left; (go_simp; exact hN); simp only [Act.put, List.setIfInBounds_toArray, List.set_cons_zero, List.set_cons_succ])
      refine S.done ?_
      go_wp2_with fail
      go_meet
      case rel => exact ⟨by rw [HT.out], GB.drew w1⟩
    · have q1 : decide (0 ≤ n) = false := by simpa using h1
      have HT : Hid (r.there n = false) := Lib.hid (by unfold RD.there; rw [q1, Bool.false_and])
      refine region_gb [(0,0),(1,0),(2,0),(3,0),(4,0),(5,0),(6,0),(7,0),(8,0),(9,0),(10,0),(11,0),(12,0),(13,0)] [] (by kernel_rfl) ?_
      repeat (first
        | (refine S0w (v := ?_) (by rfl) (by rfl) (fun u hu N hN => ?_) ?_; rotate_left; (go_simp; exact hN); simp only [Act.put, List.setIfInBounds_toArray, List.set_cons_zero, List.set_cons_succ])
        | (refine S0n (by rfl) (by rfl) ?_; simp only [Act.put, List.setIfInBounds_toArray, List.set_cons_zero, List.set_cons_succ]))
      refine S.done ?_
      go_wp2_with fail
      go_meet
      case rel => exact ⟨by rw [HT.out], GB.drew w1⟩
  case rest =>
    obtain ⟨rfl, hgc⟩ := hcut
    have hX2 := hX.gb hgc
    have hr2 := hr1.gb hgc
    have hgw : GB w wc := GB.trans _ _ _ gA hgc
    have hr2b := hr2.blk
    have hm0 : RMoved q r G w wc := RMoved.of_gb h0 hgw
    have x0 := hX2.cell 0
    have x1 := hX2.cell 1
    have x2 := hX2.cell 2
    have x3 := hX2.cell 3
    obtain ⟨th, hth⟩ : ∃ th, r.there n = th := ⟨_, rfl⟩
    rw [hth]
    have HTH := Lib.hid hth
    clear hX hr1 hgc C0 C1 hth
    cases th
    · have HD : Hid (r.do ⟨6, n, c, ps⟩ = (2, r)) := Lib.hid (by simp [RD.do, HTH.out])
      go_wp2_with fail
      go_ret
      exact DoPost.mk HD rfl hm0
    · have HD : Hid (r.do ⟨6, n, c, ps⟩ = (0, r)) := Lib.hid (by simp [RD.do, HTH.out])
      go_wp2_with fail
      go_ret
      exact DoPost.mk HD rfl hm0
set_option maxHeartbeats 4000000 in
set_option maxRecDepth 100000 in
theorem do3_any (q : Nat) (r : RD) (G : Nat → Prop) (n : Int) (c : UInt8) (pa : Option Addr) (np pc : Nat) (ps : List Int) (w : World) (h : RefAt w q r G) (hg : RGood r) :
    Calls Try.prog 87 #[.pointer (some ⟨q, 0, none⟩), .agg #[.int .i64 3, .int .i64 n, .int .u8 (n8 c), .slice pa np pc]] w (DoPost q r ⟨3, n, c, ps⟩ G w) := by
  have h0 := h
  obtain ⟨y, hr⟩ := h
  have gA : GB w (w.alloc (.cells #[.int .i64 3, .int .i64 n, .int .u8 (n8 c), .slice pa np pc] 122)) := (Below.refl _ _).alloc (Nat.le_refl _) _
  have hX := Blk.new w [.int .i64 3, .int .i64 n, .int .u8 (n8 c), .slice pa np pc] 122
  change Blk (w.alloc (.cells #[.int .i64 3, .int .i64 n, .int .u8 (n8 c), .slice pa np pc] 122)) _ _ _ at hX
  have hr1 := hr.gb gA
  have hfew := hg.few
  have hG := Lib.hid hg
  clear hg
  obtain ⟨va, vc, hva, -, -, -, -, -⟩ := Row.shape hr.row
  go_enter Try.func87, Try.ntmps87
  go_upto_region 1 with fail
  generalize w.alloc (.cells #[.int .i64 3, .int .i64 n, .int .u8 (n8 c), .slice pa np pc] 122) = w1 at *
  have hXd := hX.gb (GB.drew w1)
  have hrd := hr1.blk.gb (GB.drew w1)
  rw [hva] at hrd
  have C0 : ∀ u, GB w1.drew u → u.cell? ⟨q, 0, none⟩ = some (.slice va r.s.length vc) := fun u hu => (hrd.gb hu).cell 0
  have C1 : ∀ u, GB w1.drew u → u.cell? ⟨w.heap.size, 1, none⟩ = some (.int .i64 n) := fun u hu => (hXd.gb hu).cell 1
  have HVA := Lib.hid hva
  clear hva hrd
  go_cut [5] (fun s wx => s = .bool (r.there n) ∧ GB w1 wx)
  case first =>
    by_cases h1 : 0 ≤ n
    · have q1 : decide (0 ≤ n) = true := by simpa using h1
      obtain ⟨q2, hq2⟩ : ∃ q2, decide (n < (r.s.length : Int)) = q2 := ⟨_, rfl⟩
      have HT : Hid (r.there n = q2) := Lib.hid (by unfold RD.there; rw [q1, hq2, Bool.true_and])
      refine region_gb [(0,0),(1,0),(2,0),(3,0),(4,0),(5,0),(6,0),(7,0),(8,0),(9,0),(10,0),(11,0),(12,0),(13,0)] [] (by kernel_rfl) ?_
      repeat (refine S0w (v := ?_) (by rfl) (by rfl) (fun u hu N hN => ?_) ?_; rotate_left; (go_simp; exact hN); simp only [Act.put, List.setIfInBounds_toArray, List.set_cons_zero, List.set_cons_succ])
      refine S.done ?_
      go_wp2_with fail
      go_meet
      case rel => exact ⟨by rw [HT.out], GB.drew w1⟩
    · have q1 : decide (0 ≤ n) = false := by simpa using h1
      have HT : Hid (r.there n = false) := Lib.hid (by unfold RD.there; rw [q1, Bool.false_and])
      refine region_gb [(0,0),(1,0),(2,0),(3,0),(4,0),(5,0),(6,0),(7,0),(8,0),(9,0),(10,0),(11,0),(12,0),(13,0)] [] (by kernel_rfl) ?_
      repeat (first
        | (refine S0w (v := ?_) (by rfl) (by rfl) (fun u hu N hN => ?_) ?_; rotate_left; (go_simp; exact hN); simp only [Act.put, List.setIfInBounds_toArray, List.set_cons_zero, List.set_cons_succ])
        | (refine S0n (by rfl) (by rfl) ?_; simp only [Act.put, List.setIfInBounds_toArray, List.set_cons_zero, List.set_cons_succ]))
      refine S.done ?_
      go_wp2_with fail
      go_meet
      case rel => exact ⟨by rw [HT.out], GB.drew w1⟩
  case rest =>
    obtain ⟨rfl, hgc⟩ := hcut
    have hX2 := hX.gb hgc
    have hr2 := hr1.gb hgc
    have hgw : GB w wc := GB.trans _ _ _ gA hgc
    have hr2b := hr2.blk
    have hm0 : RMoved q r G w wc := RMoved.of_gb h0 hgw
    have x0 := hX2.cell 0
    have x1 := hX2.cell 1
    have x2 := hX2.cell 2
    have x3 := hX2.cell 3
    obtain ⟨th, hth⟩ : ∃ th, r.there n = th := ⟨_, rfl⟩
    rw [hth]
    have HTH := Lib.hid hth
    clear hX hr1 hgc C0 C1 hth
    clear HTH
    obtain ⟨c0, c1, c2⟩ := hr2.cells
    by_cases hn : n < 0
    · have HD : Hid (r.do ⟨3, n, c, ps⟩ = (2, r)) := Lib.hid (by simp [RD.do, hn])
      go_wp2_with fail
      go_ret
      exact DoPost.mk HD rfl hm0
    · have HD : Hid (r.do ⟨3, n, c, ps⟩ = (0, { r with fuse := n })) := Lib.hid (by simp [RD.do, hn])
      have nf := fun j => hr2.blk.frozen j
      have hff := (Fr.refl (· = q) wc).setCell q 1 (.int .i64 n) (.inl rfl)
      have hk := hr2.keep hff (hr2.blk.set 1 (.int .i64 n))
      have hm := RMoved.chain (G' := G) (Fr.of_gb hgw) (fun j hj => .inl hj) (hk.moved (hr2.frq hff))
      go_wp2_with fail
      go_ret
      exact DoPost.mk HD rfl hm
set_option maxHeartbeats 4000000 in
set_option maxRecDepth 100000 in
theorem doX_any (q : Nat) (r : RD) (G : Nat → Prop) (kind : Int) (n : Int) (c : UInt8) (pa : Option Addr) (np pc : Nat) (ps : List Int) (w : World) (h : RefAt w q r G) (hg : RGood r) (k1 : (kind == 1) = false) (k2 : (kind == 2) = false) (k3 : (kind == 3) = false) (k4 : (kind == 4) = false) (k5 : (kind == 5) = false) (k6 : (kind == 6) = false) :
    Calls Try.prog 87 #[.pointer (some ⟨q, 0, none⟩), .agg #[.int .i64 kind, .int .i64 n, .int .u8 (n8 c), .slice pa np pc]] w (DoPost q r ⟨kind, n, c, ps⟩ G w) := by
  have h0 := h
  obtain ⟨y, hr⟩ := h
  have gA : GB w (w.alloc (.cells #[.int .i64 kind, .int .i64 n, .int .u8 (n8 c), .slice pa np pc] 122)) := (Below.refl _ _).alloc (Nat.le_refl _) _
  have hX := Blk.new w [.int .i64 kind, .int .i64 n, .int .u8 (n8 c), .slice pa np pc] 122
  change Blk (w.alloc (.cells #[.int .i64 kind, .int .i64 n, .int .u8 (n8 c), .slice pa np pc] 122)) _ _ _ at hX
  have hr1 := hr.gb gA
  have hfew := hg.few
  have hG := Lib.hid hg
  clear hg
  obtain ⟨va, vc, hva, -, -, -, -, -⟩ := Row.shape hr.row
  go_enter Try.func87, Try.ntmps87
  go_upto_region 1 with fail
  generalize w.alloc (.cells #[.int .i64 kind, .int .i64 n, .int .u8 (n8 c), .slice pa np pc] 122) = w1 at *
  have hXd := hX.gb (GB.drew w1)
  have hrd := hr1.blk.gb (GB.drew w1)
  rw [hva] at hrd
  have C0 : ∀ u, GB w1.drew u → u.cell? ⟨q, 0, none⟩ = some (.slice va r.s.length vc) := fun u hu => (hrd.gb hu).cell 0
  have C1 : ∀ u, GB w1.drew u → u.cell? ⟨w.heap.size, 1, none⟩ = some (.int .i64 n) := fun u hu => (hXd.gb hu).cell 1
  have HVA := Lib.hid hva
  clear hva hrd
  go_cut [5] (fun s wx => s = .bool (r.there n) ∧ GB w1 wx)
  case first =>
    by_cases h1 : 0 ≤ n
    · have q1 : decide (0 ≤ n) = true := by simpa using h1
      obtain ⟨q2, hq2⟩ : ∃ q2, decide (n < (r.s.length : Int)) = q2 := ⟨_, rfl⟩
      have HT : Hid (r.there n = q2) := Lib.hid (by unfold RD.there; rw [q1, hq2, Bool.true_and])
      refine region_gb [(0,0),(1,0),(2,0),(3,0),(4,0),(5,0),(6,0),(7,0),(8,0),(9,0),(10,0),(11,0),(12,0),(13,0)] [] (by kernel_rfl) ?_
      repeat (refine S0w (v := ?_) (by rfl) (by rfl) (fun u hu N hN => ?_) ?_; rotate_left; (go_simp; exact hN); simp only [Act.put, List.setIfInBounds_toArray, List.set_cons_zero, List.set_cons_succ])
      refine S.done ?_
      go_wp2_with fail
      go_meet
      case rel => exact ⟨by rw [HT.out], GB.drew w1⟩
    · have q1 : decide (0 ≤ n) = false := by simpa using h1
      have HT : Hid (r.there n = false) := Lib.hid (by unfold RD.there; rw [q1, Bool.false_and])
      refine region_gb [(0,0),(1,0),(2,0),(3,0),(4,0),(5,0),(6,0),(7,0),(8,0),(9,0),(10,0),(11,0),(12,0),(13,0)] [] (by kernel_rfl) ?_
      repeat (first
        | (refine S0w (v := ?_) (by rfl) (by rfl) (fun u hu N hN => ?_) ?_; rotate_left; (go_simp; exact hN); simp only [Act.put, List.setIfInBounds_toArray, List.set_cons_zero, List.set_cons_succ])
        | (refine S0n (by rfl) (by rfl) ?_; simp only [Act.put, List.setIfInBounds_toArray, List.set_cons_zero, List.set_cons_succ]))
      refine S.done ?_
      go_wp2_with fail
      go_meet
      case rel => exact ⟨by rw [HT.out], GB.drew w1⟩
  case rest =>
    obtain ⟨rfl, hgc⟩ := hcut
    have hX2 := hX.gb hgc
    have hr2 := hr1.gb hgc
    have hgw : GB w wc := GB.trans _ _ _ gA hgc
    have hr2b := hr2.blk
    have hm0 : RMoved q r G w wc := RMoved.of_gb h0 hgw
    have x0 := hX2.cell 0
    have x1 := hX2.cell 1
    have x2 := hX2.cell 2
    have x3 := hX2.cell 3
    obtain ⟨th, hth⟩ : ∃ th, r.there n = th := ⟨_, rfl⟩
    rw [hth]
    have HTH := Lib.hid hth
    clear hX hr1 hgc C0 C1 hth
    clear HTH
    have HD : Hid (r.do ⟨kind, n, c, ps⟩ = (0, r)) := Lib.hid (by
      simp only [beq_eq_false_iff_ne] at k1 k2 k3 k4 k5 k6
      simp [RD.do, k1, k2, k3, k4, k5, k6])
    go_wp2_with fail
    go_ret
    exact DoPost.mk HD rfl hm0
set_option maxHeartbeats 4000000 in
set_option maxRecDepth 100000 in
theorem do5_any (q : Nat) (r : RD) (G : Nat → Prop) (n : Int) (c : UInt8) (pa : Option Addr) (np pc : Nat) (ps : List Int) (w : World) (h : RefAt w q r G) (hg : RGood r) :
    Calls Try.prog 87 #[.pointer (some ⟨q, 0, none⟩), .agg #[.int .i64 5, .int .i64 n, .int .u8 (n8 c), .slice pa np pc]] w (DoPost q r ⟨5, n, c, ps⟩ G w) := by
  have h0 := h
  obtain ⟨y, hr⟩ := h
  have gA : GB w (w.alloc (.cells #[.int .i64 5, .int .i64 n, .int .u8 (n8 c), .slice pa np pc] 122)) := (Below.refl _ _).alloc (Nat.le_refl _) _
  have hX := Blk.new w [.int .i64 5, .int .i64 n, .int .u8 (n8 c), .slice pa np pc] 122
  change Blk (w.alloc (.cells #[.int .i64 5, .int .i64 n, .int .u8 (n8 c), .slice pa np pc] 122)) _ _ _ at hX
  have hr1 := hr.gb gA
  have hfew := hg.few
  have hG := Lib.hid hg
  clear hg
  obtain ⟨va, vc, hva, -, -, -, -, -⟩ := Row.shape hr.row
  go_enter Try.func87, Try.ntmps87
  go_upto_region 1 with fail
  generalize w.alloc (.cells #[.int .i64 5, .int .i64 n, .int .u8 (n8 c), .slice pa np pc] 122) = w1 at *
  have hXd := hX.gb (GB.drew w1)
  have hrd := hr1.blk.gb (GB.drew w1)
  rw [hva] at hrd
  have C0 : ∀ u, GB w1.drew u → u.cell? ⟨q, 0, none⟩ = some (.slice va r.s.length vc) := fun u hu => (hrd.gb hu).cell 0
  have C1 : ∀ u, GB w1.drew u → u.cell? ⟨w.heap.size, 1, none⟩ = some (.int .i64 n) := fun u hu => (hXd.gb hu).cell 1
  have HVA := Lib.hid hva
  clear hva hrd
  go_cut [5] (fun s wx => s = .bool (r.there n) ∧ GB w1 wx)
  case first =>
    by_cases h1 : 0 ≤ n
    · have q1 : decide (0 ≤ n) = true := by simpa using h1
      obtain ⟨q2, hq2⟩ : ∃ q2, decide (n < (r.s.length : Int)) = q2 := ⟨_, rfl⟩
      have HT : Hid (r.there n = q2) := Lib.hid (by unfold RD.there; rw [q1, hq2, Bool.true_and])
      refine region_gb [(0,0),(1,0),(2,0),(3,0),(4,0),(5,0),(6,0),(7,0),(8,0),(9,0),(10,0),(11,0),(12,0),(13,0)] [] (by kernel_rfl) ?_
      repeat (refine S0w (v := ?_) (by rfl) (by rfl) (fun u hu N hN => ?_) ?_; rotate_left; (go_simp; exact hN); simp only [Act.put, List.setIfInBounds_toArray, List.set_cons_zero, List.set_cons_succ])
      refine S.done ?_
      go_wp2_with fail
      go_meet
      case rel => exact ⟨by rw [HT.out], GB.drew w1⟩
    · have q1 : decide (0 ≤ n) = false := by simpa using h1
      have HT : Hid (r.there n = false) := Lib.hid (by unfold RD.there; rw [q1, Bool.false_and])
      refine region_gb [(0,0),(1,0),(2,0),(3,0),(4,0),(5,0),(6,0),(7,0),(8,0),(9,0),(10,0),(11,0),(12,0),(13,0)] [] (by kernel_rfl) ?_
      repeat (first
        | (refine S0w (v := ?_) (by rfl) (by rfl) (fun u hu N hN => ?_) ?_; rotate_left; (go_simp; exact hN); simp only [Act.put, List.setIfInBounds_toArray, List.set_cons_zero, List.set_cons_succ])
        | (refine S0n (by rfl) (by rfl) ?_; simp only [Act.put, List.setIfInBounds_toArray, List.set_cons_zero, List.set_cons_succ]))
      refine S.done ?_
      go_wp2_with fail
      go_meet
      case rel => exact ⟨by rw [HT.out], GB.drew w1⟩
  case rest =>
    obtain ⟨rfl, hgc⟩ := hcut
    have hX2 := hX.gb hgc
    have hr2 := hr1.gb hgc
    have hgw : GB w wc := GB.trans _ _ _ gA hgc
    have hr2b := hr2.blk
    have hm0 : RMoved q r G w wc := RMoved.of_gb h0 hgw
    have x0 := hX2.cell 0
    have x1 := hX2.cell 1
    have x2 := hX2.cell 2
    have x3 := hX2.cell 3
    obtain ⟨th, hth⟩ : ∃ th, r.there n = th := ⟨_, rfl⟩
    rw [hth]
    have HTH := Lib.hid hth
    clear hX hr1 hgc C0 C1 hth
    clear HTH
    obtain ⟨c0, c1, c2⟩ := hr2.cells
    rw [HVA.out] at c0
    obtain ⟨qA, hA⟩ : ∃ qA, decide (n < (r.s.length : Int)) = qA := ⟨_, rfl⟩
    obtain ⟨qB, hB⟩ : ∃ qB, decide (8192 < n) = qB := ⟨_, rfl⟩
    go_upto_region 35 with fail
    have hX2d := hX2.gb (GB.drew wc)
    have hr2d := hr2b.gb (GB.drew wc)
    rw [HVA.out] at hr2d
    have C0 : ∀ u, GB wc.drew u → u.cell? ⟨q, 0, none⟩ = some (.slice va r.s.length vc) := fun u hu => (hr2d.gb hu).cell 0
    have C1 : ∀ u, GB wc.drew u → u.cell? ⟨w.heap.size, 1, none⟩ = some (.int .i64 n) := fun u hu => (hX2d.gb hu).cell 1
    obtain ⟨w2, hw2⟩ : ∃ x, x = wc := ⟨_, rfl⟩
    go_cut [159] (fun s wx => s = .bool (qA || qB) ∧ GB wc wx)
    case first =>
      cases qA
      all_goals
        refine region_gb [(0,0),(1,0),(2,0),(3,0),(4,0),(5,0),(6,0),(7,0),(8,0),(9,0),(10,0),(11,0),(12,0)] [] (by kernel_rfl) ?_
        repeat (first
          | (refine S0w (v := ?_) (by rfl) (by rfl) (fun u hu N hN => ?_) ?_; rotate_left; (go_simp; exact hN); simp only [Act.put, List.setIfInBounds_toArray, List.set_cons_zero, List.set_cons_succ])
          | (refine S0n (by rfl) (by rfl) ?_; simp only [Act.put, List.setIfInBounds_toArray, List.set_cons_zero, List.set_cons_succ]))
        refine S.done ?_
        go_wp2_with fail
        go_meet
        case rel => exact ⟨rfl, GB.drew _⟩
    case rest =>
      obtain ⟨rfl, hg3⟩ := hcut
      clear C0 C1
      have hr3 := hr2.gb hg3
      have hX3 := hX2.gb hg3
      have hgw3 := GB.trans _ _ _ hgw hg3
      have hm3 : RMoved q r G w wc := RMoved.of_gb h0 hgw3
      clear c0 c1 c2 x0 x1 x2 x3
      obtain ⟨c0, c1, c2⟩ := hr3.cells
      rw [HVA.out] at c0
      have x1 := hX3.cell 1
      obtain ⟨qq, hqq⟩ : ∃ x, (qA || qB) = x := ⟨_, rfl⟩
      have hbad : (qq = true) ↔ (n < (r.s.length : Int) ∨ 8192 < n) := by rw [← hqq, Bool.or_eq_true, ← hA, ← hB, decide_eq_true_eq, decide_eq_true_eq]
      rw [hqq]
      have HB := Lib.hid hbad
      clear hqq hA hB hbad
      cases qq
      · have hnb : ¬ (n < (r.s.length : Int) ∨ 8192 < n) := fun e => by have := HB.out.2 e; cases this
        by_cases hd : r.dead = true
        · have HD : Hid (r.do ⟨5, n, c, ps⟩ = (10, r)) := Lib.hid (by rw [RD.do5, if_neg hnb, if_pos hd])
          rw [hd] at c2
          clear hd
          go_wp2_with fail
          go_ret
          exact DoPost.mk HD rfl hm3
        · obtain ⟨m, rfl⟩ : ∃ m : Nat, n = (m : Int) := ⟨n.toNat, by omega⟩
          have HD : Hid (r.do ⟨5, m, c, ps⟩ = (0, r.grown (m - r.s.length))) := Lib.hid (by rw [RD.do5, if_neg hnb, if_neg hd]; rfl)
          have hd' : r.dead = false := by simpa using hd
          rw [hd'] at c2
          have hmore := more_any q r G m wc ⟨y, hr3⟩ (by omega)
          clear hd hd' hnb
          go_wp2_with fail
          refine hmore.mono ?_
          rintro e w4 ⟨rfl, hm4⟩
          go_wp2_with fail
          go_ret
          exact DoPost.mk HD rfl (RMoved.chain (G' := G) (Fr.of_gb hgw3) (fun j hj => .inl hj) hm4)
      · have hb := HB.out.1 rfl
        have HD : Hid (r.do ⟨5, n, c, ps⟩ = (2, r)) := Lib.hid (by rw [RD.do5, if_pos hb])
        clear hb
        go_wp2_with fail
        go_ret
        exact DoPost.mk HD rfl hm3
end Go.Proofs.Ytiihllfjlgbfcaa
