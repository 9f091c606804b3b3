/- The walks of the reference's more, New and Open. -/
import Derived.Test.YtiihllfjlgbfcaaRDisk
namespace Go.Proofs.Ytiihllfjlgbfcaa
open Go.RowKit
theorem info141 : (Try.prog.info? 141).map (fun i => (i.zero, i.size, i.bytes)) = some (some (.agg #[.slice none 0 0]), 1, 24) := by kernel_rfl
theorem elem141 : Elem 135 141 1 24 (.agg #[.slice none 0 0]) := by
  obtain ⟨i, hi, hz0, hz1, hz2⟩ := info_parts info141
  exact ⟨Try.underlying135, ⟨i, hi, hz0, hz1, hz2⟩, rfl, by decide, by decide⟩
def sLen (w : World) (q : Nat) : Nat := match w.cell? ⟨q, 0, none⟩ with
  | some (.slice _ n _) => n
  | _ => 0
def RD.grown (r : RD) (k : Nat) : RD := { r with s := r.s ++ List.replicate k [0] }
theorem RD.grown_len (r : RD) (k : Nat) : (r.grown k).s.length = r.s.length + k := by simp [RD.grown]
theorem RD.grown_succ (r : RD) (k : Nat) : (r.grown (k + 1)).s = (r.grown k).s ++ [[0]] := by simp [RD.grown, List.replicate_succ']
theorem RD.grown_zero (r : RD) : r.grown 0 = r := by simp [RD.grown]
theorem RefL.slen {w : World} {q : Nat} {r : RD} {G : Nat → Prop} {y : RLay} (h : RefL w q r G y) : sLen w q = r.s.length := by
  have h0 := h.cells.1
  obtain ⟨a, c, hv, -⟩ := Row.shape h.row
  unfold sLen
  rw [h0, hv]
theorem RefL.push {w1 w2 w : World} {q : Nat} {r : RD} {G G1 : Nat → Prop} {y : RLay} {v : Value} {n c : Nat} (h : RefL w1 q r G y) (hB : Blk w1 n 5 [b8 0]) (hnG : ¬ G n)
    (hown : w2.ownsRow 0 141 1 v (r.s.length + 1) (y.cs ++ [.slice (some ⟨n, 0, none⟩) 1 c])) (hG : w1.grownBy w2 y.vs.ownBlock) (hf : ∀ k, v.ownBlock = some k → y.vs.ownBlock = some k ∨ w1.heap.size ≤ k)
    (hw : w = w2.setCell ⟨q, 0, none⟩ v) (hG1 : ∀ k, G1 k ↔ G k ∨ k = n ∨ v.ownBlock = some k) :
    RefL w q { r with s := r.s ++ [[0]] } G1 ⟨v, y.cs ++ [.slice (some ⟨n, 0, none⟩) 1 c]⟩ ∧ Fr G w1 w := by
  have hvq : ∀ k, v.ownBlock = some k → k ≠ q := fun k hk => by
    rcases hf k hk with h' | h'
    · exact fun e => h.dis (by rw [← e]; exact h')
    · have := h.bnd q h.cov.1; omega
  have hvn : ∀ k, v.ownBlock = some k → k ≠ n := fun k hk => by
    rcases hf k hk with h' | h'
    · exact fun e => hnG (by rw [← e]; exact h.cov.2 k h')
    · have := hB.lt; omega
  have hnq : n ≠ q := fun e => hnG (by rw [e]; exact h.cov.1)
  have f1 : Fr (fun k => y.vs.ownBlock = some k) w1 w2 := Fr.of_grown hG (fun k hk => hk)
  have f2 := (Fr.refl (· = q) w2).setCell q 0 v (.inl rfl)
  rw [← hw] at f2
  have hb2 := f1.blk h.blk h.dis
  have hB2 := f1.blk hB (fun e => hnG (h.cov.2 n e))
  have hlen := h.len
  refine ⟨⟨?_, ?_, ?_, fun e => hvq q e rfl, ⟨(hG1 q).2 (.inl h.cov.1), fun k hk => (hG1 k).2 (.inr (.inr hk))⟩, ?_⟩, ?_⟩
  · rw [hw]; exact hb2.set 0 v
  · show World.ownsRow _ 0 141 1 v (r.s ++ [[0]]).length _
    rw [List.length_append]
    exact f2.row hown (fun k hk => hvq k hk)
  · intro i hi hi'
    simp only [List.length_append, List.length_cons, List.length_nil] at hi hi'
    by_cases hlt : i < r.s.length
    · simp only [List.getElem_append_left hlt, List.getElem_append_left (show i < y.cs.length by omega)]
      obtain ⟨a, c', hv, hr, hb⟩ := h.each i hlt (by omega)
      refine ⟨a, c', hv, ?_, fun ad ha => ⟨(hb ad ha).1, fun e => ?_, (hG1 _).2 (.inl (hb ad ha).2.2)⟩⟩
      · have r1 := f1.rd hr (fun ad ha => (hb ad ha).2.1)
        exact f2.rd r1 (fun ad ha => (hb ad ha).1)
      · rcases hf _ e with h' | h'
        · exact (hb ad ha).2.1 h'
        · have := h.bnd _ (hb ad ha).2.2; omega
    · obtain rfl : i = r.s.length := by omega
      have e1 : (r.s ++ [[0]])[r.s.length]'(by simp) = [0] := by simp
      have e2 : (y.cs ++ [Value.slice (some ⟨n, 0, none⟩) 1 c])[r.s.length]'(by simp; omega) = .slice (some ⟨n, 0, none⟩) 1 c := by
        rw [List.getElem_append_right (by omega)]; simp [hlen]
      simp only [e1, e2]
      refine ⟨some ⟨n, 0, none⟩, c, rfl, ?_, fun ad ha => ?_⟩
      · have := (f2.blk hB2 hnq).rd 0; simpa using this
      · cases ha
        exact ⟨hnq, fun e => hvn n e rfl, (hG1 n).2 (.inr (.inl rfl))⟩
  · intro k hk
    have s1 := f1.size
    have s2 := f2.size
    rcases (hG1 k).1 hk with h' | rfl | h'
    · have := h.bnd k h'; omega
    · have := hB.lt; omega
    · have := (hown.lt k h').2; omega
  · exact (f1.mono (fun k _ hk => h.cov.2 k hk)).trans (f2.mono (fun k _ hk => by rw [hk]; exact h.cov.1))
set_option maxHeartbeats 4000000 in
set_option maxRecDepth 100000 in
theorem more_any (q : Nat) (r : RD) (G : Nat → Prop) (n : Nat) (w : World) (h : RefAt w q r G) (hn : n ≤ 8192) :
    Calls Try.prog 127 #[.pointer (some ⟨q, 0, none⟩), .int .i64 n] w fun e w' => e = .returned (.tuple #[]) ∧ RMoved q (r.grown (n - r.s.length)) G w w' := by
  go_enter Try.func127, Try.ntmps127
  go_wp2_with fail
  go_loopw [4] (fun _ wr => ∃ k : Nat, k ≤ n - r.s.length ∧ RMoved q (r.grown k) G w wr) (fun _ wr => n - sLen wr q)
  case atStart => exact ⟨0, by omega, by rw [RD.grown_zero]; exact RMoved.refl h⟩
  case round =>
    obtain ⟨k, hk, G', ⟨y, hr⟩, hf, hsub⟩ := hrel
    obtain ⟨va, vc, hva, -, -, -, -, -⟩ := Row.shape hr.row
    have c0 := hr.cells.1
    rw [hva] at c0
    have hsl := hr.slen
    rw [RD.grown_len] at hsl c0
    have HVA := Lib.hid hva
    by_cases hlt : r.s.length + k < n
    · have gA : GB wr (wr.alloc (.cells #[.int .u8 0] 5)) := (Below.refl _ _).alloc (Nat.le_refl _) _
      have hB := Blk.new wr [b8 0] 5
      have hz8 : b8 0 = Value.int .u8 0 := rfl
      rw [hz8] at hB
      change Blk (wr.alloc (.cells #[.int .u8 0] 5)) _ _ _ at hB
      have gA2 : GB (wr.alloc (.cells #[.int .u8 0] 5)) ((wr.alloc (.cells #[.int .u8 0] 5)).alloc (.cells #[.slice (some ⟨wr.heap.size, 0, none⟩) 1 1] 141)) := (Below.refl _ _).alloc (Nat.le_refl _) _
      have hB2 := Blk.new (wr.alloc (.cells #[.int .u8 0] 5)) [.slice (some ⟨wr.heap.size, 0, none⟩) 1 1] 141
      change Blk ((wr.alloc (.cells #[.int .u8 0] 5)).alloc (.cells #[.slice (some ⟨wr.heap.size, 0, none⟩) 1 1] 141)) _ _ _ at hB2
      have hHS := Lib.hid hsl
      clear hsl hva
      go_wp2_with (first | with_reducible refine halt_dst 19 ?_)
      have hB3 := hB.gb gA2
      have hr3 := (hr.gb gA).gb gA2
      have g3 : GB wr ((wr.alloc (.cells #[.int .u8 0] 5)).alloc (.cells #[.slice (some ⟨wr.heap.size, 0, none⟩) 1 1] 141)) := GB.trans _ _ _ gA gA2
      have hs1 : (wr.alloc (.cells #[.int .u8 0] 5)).heap.size = wr.heap.size + 1 := by simp
      rw [hs1] at hB2
      generalize (wr.alloc (.cells #[.int .u8 0] 5)).alloc (.cells #[.slice (some ⟨wr.heap.size, 0, none⟩) 1 1] 141) = w3 at *
      have hrow := hr3.row
      rw [HVA.out, RD.grown_len] at hrow
      refine wpList_appendW elem141 rfl (.tmp 15) (.tmp 18) rfl (by rfl) hrow (by rfl) rfl (by simpa using hB2.rd 0) (by simp [Value.oneCell']) (by omega) (Nat.zero_le _) ?_
      intro v4 w4 hown4 hG4 hf4
      simp only [Act.put, List.setIfInBounds_toArray, List.set_cons_zero, List.set_cons_succ]
      have hnG : ¬ G' wr.heap.size := fun h' => by have := hr.bnd _ h'; omega
      have hown4' : w4.ownsRow 0 141 1 v4 ((r.grown k).s.length + 1) (y.cs ++ [.slice (some ⟨wr.heap.size, 0, none⟩) 1 1]) := by rw [RD.grown_len]; exact hown4
      have hG4' : w3.grownBy w4 y.vs.ownBlock := by rw [HVA.out, RD.grown_len]; exact hG4
      have hf4' : ∀ j, v4.ownBlock = some j → y.vs.ownBlock = some j ∨ w3.heap.size ≤ j := by rw [HVA.out, RD.grown_len]; exact hf4
      have hpush := RefL.push (G1 := fun j => G' j ∨ j = wr.heap.size ∨ v4.ownBlock = some j) hr3 hB3 hnG hown4' hG4' hf4' rfl (fun j => Iff.rfl)
      obtain ⟨v4a, v4c, rfl, -, -, -, -, -⟩ := Row.shape hown4
      obtain ⟨hp1, hp2⟩ := hpush
      have hmv : RMoved q (r.grown (k + 1)) G w (w4.setCell ⟨q, 0, none⟩ (.slice v4a (r.s.length + k + 1) v4c)) := by
        refine RMoved.chain (G' := G') hf hsub ?_
        have e : r.grown (k + 1) = { r.grown k with s := (r.grown k).s ++ [[0]] } := by
          have := RD.grown_succ r k
          unfold RD.grown at this ⊢
          simp only at this ⊢
          rw [this]
        rw [e]
        refine ⟨_, ⟨_, hp1⟩, (Fr.of_gb g3).trans hp2, fun j hj => ?_⟩
        have := g3.size
        rcases hj with h' | h' | h'
        · exact .inl h'
        · exact .inr (by omega)
        · rcases hf4' j h' with h2 | h2
          · exact .inl (hr.cov.2 j h2)
          · exact .inr (by omega)
      have hb4 : Blk w4 q 137 [y.vs, .int .i64 (r.grown k).fuse, .bool (r.grown k).dead] := hr3.blk.grown hG4' (fun e => hr.dis e.symm)
      have c1 := hb4.cell 0
      rw [HVA.out, RD.grown_len] at c1
      have nf := fun j => hb4.frozen j
      have hsl2 : sLen (w4.setCell ⟨q, 0, none⟩ (.slice v4a (r.s.length + k + 1) v4c)) q = r.s.length + k + 1 := by
        have := hp1.slen
        rw [this]
        show ((r.grown k).s ++ [[0]]).length = _
        rw [List.length_append, RD.grown_len]; rfl
      have HS2 := Lib.hid hsl2
      clear hsl2 hp1 hp2 hown4 hown4' hG4 hG4' hf4 hf4' hB2 hB3 hrow c0
      go_wp2_with fail
      go_roundw
      case rel => exact ⟨k + 1, by omega, hmv⟩
      case measure => rw [HS2.out, hHS.out]; omega
    · have hk2 : k = n - r.s.length := by omega
      have HK := Lib.hid hk2
      clear hk2 hsl hva
      go_wp2_with fail
      refine bodyPost_end (results_none rfl _ _ _) rfl ?_
      exact ⟨rfl, by rw [← HK.out]; exact ⟨G', ⟨y, hr⟩, hf, hsub⟩⟩
def RD.new (n : Nat) : RD := ⟨List.replicate n [0], -1, false⟩
def GivesRD (r : RD) (w : World) (e : Ending) (w' : World) : Prop := ∃ q G, e = .returned (.tuple #[.pointer (some ⟨q, 0, none⟩), .int .i64 0]) ∧ RefAt w' q r G ∧ Below w.heap.size w w' ∧ ∀ k, G k → w.heap.size ≤ k
theorem rnew_any (n : Nat) (w : World) (h0 : 0 < n) (h1 : n ≤ 8192) : Calls Try.prog 85 #[.int .i64 n] w (GivesRD (RD.new n) w) := by
  have gA : GB w (w.alloc (.cells #[.slice none 0 0, .int .i64 (-1), .bool false] 137)) := (Below.refl _ _).alloc (Nat.le_refl _) _
  have hB := Blk.new w [.slice none 0 0, .int .i64 (-1), .bool false] 137
  change Blk (w.alloc (.cells #[.slice none 0 0, .int .i64 (-1), .bool false] 137)) _ _ _ at hB
  have hr : RefAt (w.alloc (.cells #[.slice none 0 0, .int .i64 (-1), .bool false] 137)) w.heap.size ⟨[], -1, false⟩ (· = w.heap.size) :=
    ⟨⟨.slice none 0 0, []⟩, hB, World.ownsRow_nil _ _ _ _, fun i hi => absurd hi (by simp), by simp [Value.ownBlock], ⟨rfl, by simp [Value.ownBlock]⟩, fun k hk => by rw [hk]; exact hB.lt⟩
  have hm := more_any w.heap.size ⟨[], -1, false⟩ (· = w.heap.size) n _ hr h1
  have hN : Hid ((⟨[], -1, false⟩ : RD).grown (n - ([] : List (List UInt8)).length) = RD.new n) := Lib.hid (by simp [RD.grown, RD.new])
  go_enter Try.func85, Try.ntmps85
  go_wp2_with fail
  refine hm.mono ?_
  rintro e w2 ⟨rfl, G, hr2, hf, hsub⟩
  go_wp2_with fail
  go_ret2
  refine ⟨w.heap.size, G, rfl, by rw [← hN.out]; exact hr2, Below.trans gA (hf.below (B := w.heap.size) (fun k _ hk => by omega) gA.size), fun k hk => ?_⟩
  rcases hsub k hk with h' | h'
  · omega
  · have := gA.size; omega
theorem rnew_bad (n : Int) (w : World) (h : n < 1 ∨ 8192 < n) : Calls Try.prog 85 #[.int .i64 n] w fun e w' => e = .returned (.tuple #[.pointer none, .int .i64 2]) ∧ w = w' := by
  rcases (show n < 1 ∨ (¬ n < 1 ∧ 8192 < n) by omega) with h | ⟨h, h'⟩
  all_goals
    go_enter Try.func85, Try.ntmps85
    go_wp2_with fail
    go_ret2
    exact ⟨rfl, rfl⟩
/-! ### Open -/
def openUp (r : RD) : Nat → List Int
  | 0 => []
  | k + 1 => if 1 < (r.s.getD k []).length then openUp r k ++ [(k : Int)] else openUp r k
def RD.openR (r : RD) : List Int := openUp r r.s.length
theorem openUp_length (r : RD) (k : Nat) : (openUp r k).length ≤ k := by
  induction k with
  | zero => simp [openUp]
  | succ k ih =>
    unfold openUp; split
    · rw [List.length_append, List.length_singleton]; omega
    · omega
set_option maxHeartbeats 4000000 in
set_option maxRecDepth 100000 in
theorem ropen3_any (q : Nat) (r : RD) (G : Nat → Prop) (w : World) (h : RefAt w q r G) (hg : RGood r) : Calls Try.prog 89 #[.pointer (some ⟨q, 0, none⟩)] w (GivesInts r.openR w) := by
  obtain ⟨y, hr⟩ := h
  have hfew := hg.few
  have hsome := hg.some
  obtain ⟨gs, vc, a0, ac0, hvs, -, -, -⟩ := hr.at 0 hsome
  go_enter Try.func89, Try.ntmps89
  go_wp2_with fail
  go_loopw [3, 4] (fun l x wr => ∃ k : Nat, x = .int .i64 k ∧ k ≤ r.s.length ∧ wr.ownsRow w.heap.size 3 1 l (openUp r k).length ((openUp r k).map bI) ∧ GB w wr) (fun _ x _ => r.s.length - (intOf x).toNat)
  case atStart => exact ⟨0, rfl, by omega, World.ownsRow_nil _ _ _ _, GB.refl _⟩
  case round =>
    obtain ⟨k, rfl, hk, hown, hb⟩ := hrel
    have hrr := hr.gb hb
    have c0 := hrr.cells.1
    rw [hvs] at c0
    by_cases hlt : k < r.s.length
    · obtain ⟨gs', vc', a, ac, hvs', hc, -, -⟩ := hrr.at k hlt
      rw [hvs] at hvs'
      cases hvs'
      have hget : r.s.getD k [] = r.s[k] := by simp [List.getD, hlt]
      have hU : openUp r (k + 1) = if 1 < (r.s[k]).length then openUp r k ++ [(k : Int)] else openUp r k := by rw [openUp, hget]
      have hol := openUp_length r k
      have hxl := (hg.ne _ (List.getElem_mem hlt)).2
      generalize hX : openUp r k = X at *
      generalize r.s[k] = p at *
      have HU := Lib.hid hU
      have HX := Lib.hid hX
      clear hU hX hget
      obtain ⟨la, lc, rfl, hlr, -, -, -, -⟩ := Row.shape hown
      by_cases h1 : 1 < p.length
      · have HU2 : Hid (openUp r (k + 1) = X ++ [(k : Int)]) := Lib.hid (by rw [HU.out, if_pos h1])
        have gA : GB wr (wr.alloc (.cells #[.int .i64 (k : Int)] 3)) := (Below.refl _ _).alloc (Nat.le_refl _) _
        have hB := Blk.new wr [bI k] 3
        change Blk (wr.alloc (.cells #[.int .i64 (k : Int)] 3)) _ _ _ at hB
        go_wp2_with (first | with_reducible refine halt_dst 27 ?_)
        have hown2 := Row.gb hown gA
        have hvl := hown.lt
        have hs1 := gA.size
        generalize wr.alloc (.cells #[.int .i64 (k : Int)] 3) = w3 at *
        have hb3 := GB.trans _ _ _ hb gA
        refine wpList_appendV elemI rfl (.tmp 24) (.tmp 26) rfl (by rfl) hown2 (by rfl) rfl (by simpa using hB.rd 0) (by simp [bI, Value.oneCell']) (by omega) (by have := Below.size hb; omega) ?_
        intro v4 w4 hown4 hG4
        simp only [Act.put, List.setIfInBounds_toArray, List.set_cons_zero, List.set_cons_succ]
        have hb4 : GB w w4 := Below.grown hb3 hG4 (by have := Below.size hb; omega) (fun j hj => (hvl j hj).1)
        obtain ⟨v4a, v4c, rfl, -, -, -, -, -⟩ := Row.shape hown4
        go_wp2_with fail
        go_roundw
        case rel => exact ⟨k + 1, by go_num, by omega, by rw [HU2.out, List.length_append, List.map_append]; exact hown4, hb4⟩
        case measure => simp [intOf]; omega
      · have HU2 : Hid (openUp r (k + 1) = X) := Lib.hid (by rw [HU.out, if_neg h1])
        go_wp2_with fail
        go_roundw
        case rel => exact ⟨k + 1, by go_num, by omega, by rw [HU2.out]; exact hown, hb⟩
        case measure => simp [intOf]; omega
    · obtain rfl : k = r.s.length := by omega
      go_wp2_with fail
      go_ret
      exact ⟨_, rfl, hown, hb⟩
end Go.Proofs.Ytiihllfjlgbfcaa
