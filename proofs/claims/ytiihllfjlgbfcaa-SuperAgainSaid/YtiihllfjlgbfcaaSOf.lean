/- The walk of super.Of. -/
import Derived.Test.YtiihllfjlgbfcaaSBlock
import Derived.Test.YtiihllfjlgbfcaaNPut
namespace Go.Proofs.Ytiihllfjlgbfcaa
open Go.RowKit
theorem getN_lt (B : List UInt8) (at_ k : Nat) (hk : k ≤ 8) : (getN B at_ k).toNat < 256 ^ k := by
  unfold getN
  have hl : ((B.drop at_).take k).length ≤ k := List.length_take_le _ _
  rw [Num.num_toNat _ (by omega)]
  exact Nat.lt_of_lt_of_le (Num.nat_lt _) (Nat.pow_le_pow_right (by omega) hl)
theorem w64_32s (x : UInt64) : IntKind.u32.wrap (n64 x) = n32 x.toUInt32 := by
  show n64 x % 4294967296 = _
  unfold n64 n32
  simp
theorem w64_is (x : UInt64) (h : x.toNat < 256 ^ 4) : IntKind.i64.wrap (n64 x) = n64 x := wrapi _ (by have := n64_range x; omega) (by unfold n64; omega)
section
variable {o : Oper} {w : World} {ops : Array Oper} {rest : List Oper} {a : Act} {Q : Exit → Act → World → Prop}
theorem L5.store1 {T U : TypeId} {g off : Nat} {x y : Operand} {cs : List Value} {v : Value} (ho : o.op = .store U x y) (hs : (Try.prog.info? U).map (·.size) = some 1)
    (hx : a.eval x = .pointer (some ⟨g, off, none⟩)) (hy : a.eval y = v) (hB : Blk w g T cs) (hc : off < cs.length) (h1 : v.cells = #[v] ∧ v.oneCell' = true) (hw : Region.wanted o (yielded ops a.tmps) = true)
    (h : ∀ w', Blk w' g T (cs.set off v) → w.grownBy w' (some g) → wpList Try.prog ops Q rest (a.put o.dst undef) w') : wpList Try.prog ops Q (o :: rest) a w := by
  have hr := run_store_part (P := Try.prog) (o := off) hB v [v] h1.1 (by intro u hu; simp only [List.mem_singleton] at hu; subst hu; exact h1.2) hs rfl (by omega)
  have hput : put cs off [v] = cs.set off v := by
    unfold put
    rw [List.set_eq_take_append_cons_drop, if_pos hc]; simp
  rw [hput] at hr
  refine L.skip hw ?_ (h _ (hB.row _) (grown_row _ _ _))
  unfold execOp; rw [ho]
  simp only [hx, hy, Sem.run_bind, hr, Result.andThen_ok, Sem.run_pure]
theorem X.build77 {x0 x1 x2 x3 x4 x5 : Operand} {ρ : Operand → Value} {e l q b c : UInt64} {m : Bool} (ho : o.op = .build 77 #[(0, x0), (1, x1), (2, x2), (3, x3), (4, x4), (5, x5)]) (h0 : ρ x0 = b64 e) (h1 : ρ x1 = b64 l) (h2 : ρ x2 = b64 q) (h3 : ρ x3 = b64 b) (h4 : ρ x4 = b64 c) (h5 : ρ x5 = .bool m) :
    (execOp ρ o).run Try.prog w = .ok (.value (.agg #[b64 e, b64 l, b64 q, b64 b, b64 c, .bool m])) w := by
  have := run_build77 e l q b c m w
  unfold execOp; rw [ho]
  simp [h0, h1, h2, h3, h4, h5, this]
end
/-- Where the closure's block, the superblock that is made, and the place lie. -/
structure OfW (w u : World) (gB gS gA : Nat) (B : List UInt8) (s : Su) (at_ : Nat) : Prop where
  hB : Blk u gB 37 (B.map b8)
  hS : Blk u gS 82 (suC s)
  hA : Blk u gA 3 [.int .i64 at_]
  hb : Below w.heap.size w u
  n1 : gB ≠ gS
  n2 : gS ≠ gA
  n3 : gB ≠ gA
  l1 : w.heap.size ≤ gS
  l2 : w.heap.size ≤ gA
  hL : B.length = 256
theorem OfW.store {w u u' : World} {gB gS gA : Nat} {B : List UInt8} {s s' : Su} {at_ : Nat} (h : OfW w u gB gS gA B s at_) (hS : Blk u' gS 82 (suC s')) (hG : u.grownBy u' (some gS)) : OfW w u' gB gS gA B s' at_ :=
  ⟨h.hB.grown hG (fun e => by injection e with e; exact h.n1 e), hS, h.hA.grown hG (fun e => by injection e with e; exact h.n2 e.symm), h.hb.grown hG h.hb.size (fun k hk => by cases hk; exact h.l1), h.n1, h.n2, h.n3, h.l1, h.l2, h.hL⟩
set_option maxRecDepth 100000 in
theorem sget_of {w u : World} {gB gS gA : Nat} {B : List UInt8} {s : Su} {at_ : Nat} (h : OfW w u gB gS gA B s at_) (z : Int) (m : Nat) (hz : z = m) (hm : m ≤ 8) (hat : at_ + m ≤ 256) :
    Calls Try.prog 125 #[.int .i64 z, .pointer (some ⟨gB, 0, none⟩), .pointer (some ⟨gA, 0, none⟩)] u fun e u' => e = .returned (.int .u64 (n64 (getN B at_ m))) ∧ OfW w u' gB gS gA B s (at_ + m) := by
  subst hz
  have HC := Lib.hid h.hL
  go_enter Try.func125, Try.ntmps125
  go_wp2_with fail
  go_loopw [4, 7] (fun x y wr => ∃ k : Nat, k ≤ m ∧ y = .int .i64 k ∧ x = .int .u64 (n64 (getN B at_ k)) ∧ u = wr) (fun _ y _ => m - (intOf y).toNat)
  case atStart => exact ⟨0, by omega, rfl, rfl, rfl⟩
  case round =>
    obtain ⟨k, hk, rfl, rfl, rfl⟩ := hrel
    have hA0 := h.hA.cell 0
    have hAf := h.hA.frozen 0
    by_cases hlt : k < m
    · have hi : at_ + k < B.length := by rw [HC.out]; omega
      have hc := h.hB.get8 (at_ + k) hi
      have e2 : getN B at_ (k + 1) = Num.num ((B.drop at_).take k ++ [B[at_ + k]'hi]) := by
        unfold getN
        rw [List.take_succ_eq_append_getElem (by rw [List.length_drop]; omega), List.getElem_drop]
      have e1 := or64_snoc ((B.drop at_).take k) (B[at_ + k]'hi) k (by rw [List.length_take, List.length_drop]; omega) (by omega)
      rw [← e2] at e1
      change bits .or .u64 (n64 (getN B at_ k)) _ = _ at e1
      generalize B[at_ + k]'hi = c at *
      clear hi e2
      have l1 := w8_64
      go_wp2_with fail
      go_roundw
      case rel => exact ⟨k + 1, by omega, by go_num, rfl, trivial⟩
      case measure => simp [intOf]; omega
    · obtain rfl : k = m := by omega
      have hA1 := h.hA.set 0 (.int .i64 ((at_ + k : Nat) : Int))
      have hS1 := h.hS.other (Ne.symm h.n2) 0 (.int .i64 ((at_ + k : Nat) : Int))
      have hB1 := h.hB.other (Ne.symm h.n3) 0 (.int .i64 ((at_ + k : Nat) : Int))
      have hb1 := h.hb.setCell (show w.heap.size ≤ (⟨gA, 0, none⟩ : Addr).block from h.l2) (.int .i64 ((at_ + k : Nat) : Int))
      have HO : Hid (OfW w (u.setCell ⟨gA, 0, none⟩ (.int .i64 ((at_ + k : Nat) : Int))) gB gS gA B s (at_ + k)) := Lib.hid ⟨hB1, hS1, hA1, hb1, h.n1, h.n2, h.n3, h.l1, h.l2, h.hL⟩
      clear hA1 hS1 hB1 hb1
      go_wp2_with fail
      go_ret
      exact ⟨rfl, HO.out⟩
theorem suC_s0 (s : Su) (x : UInt64) : (suC s).set 0 (b64 x) = suC { s with tx := x } := rfl
theorem suC_s1 (s : Su) (x : Int) : (suC s).set 1 (.int .i64 x) = suC { s with me := x } := rfl
theorem suC_s2 (s : Su) (x : Int) : (suC s).set 2 (.int .i64 x) = suC { s with da := x } := rfl
theorem suC_sp (s : Su) (i : Nat) (hi : i < s.pg.length) (x : UInt32) : (suC s).set (3 + i) (b32 x) = suC { s with pg := s.pg.set i x } := by
  unfold suC
  rw [List.set_append_right _ _ (by simp)]
  simp only [List.length_cons, List.length_nil, Nat.add_sub_cancel_left]
  rw [List.set_append_left _ _ (by simpa using hi), List.map_set]
theorem suC_st (s : Su) (hp : s.pg.length = 6) (j : Nat) (v : Value) (hj : 9 ≤ j) : (suC s).set j v = [b64 s.tx, .int .i64 s.me, .int .i64 s.da] ++ (s.pg.map b32 ++ [b32 s.top, b32 s.base, b32 s.stage, .int .i64 s.cur, b64 s.ep, b64 s.la, b64 s.sq, b64 s.bl, b64 s.bq, .bool s.mr].set (j - 9) v) := by
  unfold suC
  rw [List.set_append_right _ _ (by simp; omega), List.set_append_right _ _ (by simp [hp]; omega)]
  congr 3
  simp [hp]; omega
theorem suC_s9 (s : Su) (hp : s.pg.length = 6) (x : UInt32) : (suC s).set 9 (b32 x) = suC { s with top := x } := suC_st s hp 9 _ (by omega)
theorem suC_s10 (s : Su) (hp : s.pg.length = 6) (x : UInt32) : (suC s).set 10 (b32 x) = suC { s with base := x } := suC_st s hp 10 _ (by omega)
theorem suC_s11 (s : Su) (hp : s.pg.length = 6) (x : UInt32) : (suC s).set 11 (b32 x) = suC { s with stage := x } := suC_st s hp 11 _ (by omega)
theorem suC_s12 (s : Su) (hp : s.pg.length = 6) (x : Int) : (suC s).set 12 (.int .i64 x) = suC { s with cur := x } := suC_st s hp 12 _ (by omega)
theorem suC_s13 (s t : Su) (hp : s.pg.length = 6) : put (suC s) 13 (stC t) = suC { s with ep := t.ep, la := t.la, sq := t.sq, bl := t.bl, bq := t.bq, mr := t.mr } := by
  obtain ⟨p0, p1, p2, p3, p4, p5, hq⟩ := s.cells hp
  unfold suC stC put
  rw [hq]; rfl
def pgUp (B : List UInt8) (i : Nat) : List UInt32 := (List.range i).map (fun i => (getN B (24 + 4 * i) 4).toUInt32) ++ List.replicate (6 - i) 0
theorem pgUp_length (B : List UInt8) (i : Nat) (hi : i ≤ 6) : (pgUp B i).length = 6 := by simp [pgUp]; omega
theorem pgUp_set (B : List UInt8) (i : Nat) (hi : i < 6) : (pgUp B i).set i (getN B (24 + 4 * i) 4).toUInt32 = pgUp B (i + 1) := by
  unfold pgUp
  obtain ⟨k, hk⟩ : ∃ k, 6 - i = k + 1 := ⟨5 - i, by omega⟩
  rw [List.set_append_right _ _ (by simp), hk, List.range_succ, List.map_append, List.append_assoc, show 6 - (i + 1) = k by omega, List.replicate_succ]
  simp
def GivesSu (r : Su × Int) (w : World) (e : Ending) (w' : World) : Prop := e = .returned (.tuple #[suV r.1, .int .i64 r.2]) ∧ GB w w'
theorem parse_ok (B : List UInt8) : (parseS B).Ok := by
  have hb := fun at_ => getN_lt B at_ 4 (by omega)
  refine ⟨by simp [parseS], ?_, ?_, ?_⟩
  · have := hb 16; show _ ≤ n64 (getN B 16 4) ∧ n64 (getN B 16 4) ≤ _; unfold n64; omega
  · have := hb 20; show _ ≤ n64 (getN B 20 4) ∧ n64 (getN B 20 4) ≤ _; unfold n64; omega
  · have := hb 60; show _ ≤ n64 (getN B 60 4) ∧ n64 (getN B 60 4) ≤ _; unfold n64; omega
theorem zeroS_ok : zeroS.Ok := ⟨rfl, by decide, by decide, by decide⟩
set_option maxHeartbeats 8000000 in
set_option maxRecDepth 100000 in
theorem of5_any (B : List UInt8) (w : World) (hB : B.length = 256) : Calls Try.prog 79 #[arr B] w (GivesSu (ofS B) w) := by
  have hmf : ∀ (fn : Fn) (first cap : Array Value) (w : World), (Instr.makeFunc fn first cap).run Try.prog w = .ok (.func fn first cap) w := fun _ _ _ _ => rfl
  have HL := Lib.hid hB
  have HZ := Lib.hid (zeros_length 256)
  have HOF : Hid (ofS B = if mayS (parseS B) && (blockS (parseS B) == B) then (parseS B, 0) else (zeroS, 4)) := Lib.hid rfl
  clear hB
  go_enter Try.func79, Try.ntmps79
  go_wp2_with (first | with_reducible refine halt_box 37 ?_)
  refine L.box rfl (by rfl) (by rfl) ?_
  intro w1 hB1 hG1
  simp only [Act.put, List.setIfInBounds_toArray, List.set_cons_zero, List.set_cons_succ]
  have hlt1 := hB1.lt
  go_wp2_with (first | with_reducible refine halt_alloc 82 ?_)
  refine L.alloc82 rfl (by rfl) ?_
  intro w2 hS2 hG2
  simp only [Act.put, List.setIfInBounds_toArray, List.set_cons_zero, List.set_cons_succ]
  have hlt2 := hS2.lt
  have hA3 : Blk (w2.alloc (.cells #[.int .i64 8] 3)) w2.heap.size 3 [.int .i64 ((8 : Nat) : Int)] := Blk.new w2 [.int .i64 8] 3
  have hG3 : GB w2 (w2.alloc (.cells #[.int .i64 8] 3)) := (Below.refl _ _).alloc (Nat.le_refl _) _
  go_wp2_with fail
  generalize w2.alloc (.cells #[.int .i64 8] 3) = w3 at *
  have h : OfW w w3 w.heap.size w1.heap.size w2.heap.size B zeroS 8 := ⟨(hB1.gb hG2).gb hG3, hS2.gb hG3, hA3, GB.trans _ _ _ (GB.trans _ _ _ hG1 hG2) hG3, by omega, by omega, by omega, by omega, by have := hG1.size; omega, HL.out⟩
  generalize hgS : w1.heap.size = gS at *
  generalize hgA : w2.heap.size = gA at *
  clear hB1 hG1 hS2 hG2 hA3 hG3 hlt1 hlt2 hgS hgA
  have lw1 := w64_is _ (getN_lt B 16 4 (by omega))
  have lw2 := w64_is _ (getN_lt B 20 4 (by omega))
  have lw3 := w64_is _ (getN_lt B 60 4 (by omega))
  have lw4 := w64_32s
  refine (sget_of h 8 8 rfl (by omega) (by omega)).mono ?_
  clear h
  rintro e u ⟨rfl, h⟩
  go_wp2_with (first | with_reducible refine halt_store 75 ?_ | with_reducible refine halt_store 3 ?_ | with_reducible refine halt_store 23 ?_ | with_reducible refine halt_store 77 ?_ | with_reducible refine halt_build 77 ?_ | with_reducible refine halt_load 82 ?_)
  refine (sget_of h 4 4 rfl (by omega) (by omega)).mono ?_
  clear h
  rintro e u ⟨rfl, h⟩
  go_wp2_with (first | with_reducible refine halt_store 75 ?_ | with_reducible refine halt_store 3 ?_ | with_reducible refine halt_store 23 ?_ | with_reducible refine halt_store 77 ?_ | with_reducible refine halt_build 77 ?_ | with_reducible refine halt_load 82 ?_)
  refine (sget_of h 4 4 rfl (by omega) (by omega)).mono ?_
  clear h
  rintro e u ⟨rfl, h⟩
  go_wp2_with (first | with_reducible refine halt_store 75 ?_ | with_reducible refine halt_store 3 ?_ | with_reducible refine halt_store 23 ?_ | with_reducible refine halt_store 77 ?_ | with_reducible refine halt_build 77 ?_ | with_reducible refine halt_load 82 ?_)
  refine L5.store1 (off := 0) (v := b64 (getN B 8 8)) rfl info75'' (by rfl) (by rfl) h.hS (by rw [suC_len _ (by rfl)]; omega) ⟨rfl, rfl⟩ (by rfl) ?_
  intro u' hS' hG'
  simp only [Act.put]
  rw [suC_s0] at hS'
  replace h := h.store hS' hG'
  clear hS' hG'
  go_wp2_with (first | with_reducible refine halt_store 75 ?_ | with_reducible refine halt_store 3 ?_ | with_reducible refine halt_store 23 ?_ | with_reducible refine halt_store 77 ?_ | with_reducible refine halt_build 77 ?_ | with_reducible refine halt_load 82 ?_)
  refine L5.store1 (off := 1) (v := .int .i64 (n64 (getN B 16 4))) rfl info3'' (by rfl) (by rfl) h.hS (by rw [suC_len _ (by rfl)]; omega) ⟨rfl, rfl⟩ (by rfl) ?_
  intro u' hS' hG'
  simp only [Act.put]
  rw [suC_s1] at hS'
  replace h := h.store hS' hG'
  clear hS' hG'
  go_wp2_with (first | with_reducible refine halt_store 75 ?_ | with_reducible refine halt_store 3 ?_ | with_reducible refine halt_store 23 ?_ | with_reducible refine halt_store 77 ?_ | with_reducible refine halt_build 77 ?_ | with_reducible refine halt_load 82 ?_)
  refine L5.store1 (off := 2) (v := .int .i64 (n64 (getN B 20 4))) rfl info3'' (by rfl) (by rfl) h.hS (by rw [suC_len _ (by rfl)]; omega) ⟨rfl, rfl⟩ (by rfl) ?_
  intro u' hS' hG'
  simp only [Act.put]
  rw [suC_s2] at hS'
  replace h := h.store hS' hG'
  clear hS' hG'
  obtain ⟨S0, hS0⟩ : ∃ S0 : Su, S0 = { zeroS with tx := getN B 8 8, me := n64 (getN B 16 4), da := n64 (getN B 20 4) } := ⟨_, rfl⟩
  have h0 : OfW w u' w.heap.size gS gA B { S0 with pg := pgUp B 0 } (24 + 4 * 0) := by rw [hS0]; exact h
  clear h
  go_wp2_with fail
  go_loopw [21] (fun x wr => ∃ i : Nat, i ≤ 6 ∧ x = .int .i64 i ∧ OfW w wr w.heap.size gS gA B { S0 with pg := pgUp B i } (24 + 4 * i)) (fun x _ => 6 - (intOf x).toNat)
  case atStart => exact ⟨0, by omega, rfl, h0⟩
  case round =>
    obtain ⟨i, hi, rfl, h⟩ := hrel
    by_cases hlt : i < 6
    · have hpl : ({ S0 with pg := pgUp B i } : Su).pg.length = 6 := pgUp_length B i hi
      have hpl2 : i < ({ S0 with pg := pgUp B i } : Su).pg.length := by rw [hpl]; exact hlt
      have hcell := (su_num h.hS hpl i (by rw [nums_length _ hpl]; omega))
      go_wp2_with (first | with_reducible refine halt_store 75 ?_ | with_reducible refine halt_store 3 ?_ | with_reducible refine halt_store 23 ?_ | with_reducible refine halt_store 77 ?_ | with_reducible refine halt_build 77 ?_ | with_reducible refine halt_load 82 ?_)
      refine (sget_of h 4 4 rfl (by omega) (by omega)).mono ?_
      clear h
      rintro e u ⟨rfl, h⟩
      go_wp2_with (first | with_reducible refine halt_store 75 ?_ | with_reducible refine halt_store 3 ?_ | with_reducible refine halt_store 23 ?_ | with_reducible refine halt_store 77 ?_ | with_reducible refine halt_build 77 ?_ | with_reducible refine halt_load 82 ?_)
      refine L5.store1 (off := 3 + i) (v := b32 (getN B (24 + 4 * i) 4).toUInt32) rfl info23'' (by rfl) (by rfl) h.hS (by rw [suC_len _ hpl]; omega) ⟨rfl, rfl⟩ (by rfl) ?_
      intro u' hS' hG'
      simp only [Act.put]
      rw [suC_sp _ i hpl2] at hS'
      replace h := h.store hS' hG'
      clear hS' hG'
      go_wp2_with fail
      go_roundw
      case rel => exact ⟨i + 1, by omega, by go_num, by have h2 := h; rw [show ({ S0 with pg := pgUp B i } : Su).pg = pgUp B i from rfl, pgUp_set B i hlt] at h2; exact h2⟩
      case measure => simp [intOf]; omega
    · obtain rfl : i = 6 := by omega
      have hpl : ({ S0 with pg := pgUp B 6 } : Su).pg.length = 6 := pgUp_length B 6 (by omega)
      obtain ⟨S1, hS1⟩ : ∃ S1 : Su, S1 = { S0 with pg := pgUp B 6 } := ⟨_, rfl⟩
      rw [← hS1] at h hpl
      have hpl1 := hpl
      go_wp2_with (first | with_reducible refine halt_store 75 ?_ | with_reducible refine halt_store 3 ?_ | with_reducible refine halt_store 23 ?_ | with_reducible refine halt_store 77 ?_ | with_reducible refine halt_build 77 ?_ | with_reducible refine halt_load 82 ?_)
      refine (sget_of h 4 4 rfl (by omega) (by omega)).mono ?_
      clear h
      rintro e u ⟨rfl, h⟩
      go_wp2_with (first | with_reducible refine halt_store 75 ?_ | with_reducible refine halt_store 3 ?_ | with_reducible refine halt_store 23 ?_ | with_reducible refine halt_store 77 ?_ | with_reducible refine halt_build 77 ?_ | with_reducible refine halt_load 82 ?_)
      refine (sget_of h 4 4 rfl (by omega) (by omega)).mono ?_
      clear h
      rintro e u ⟨rfl, h⟩
      go_wp2_with (first | with_reducible refine halt_store 75 ?_ | with_reducible refine halt_store 3 ?_ | with_reducible refine halt_store 23 ?_ | with_reducible refine halt_store 77 ?_ | with_reducible refine halt_build 77 ?_ | with_reducible refine halt_load 82 ?_)
      refine (sget_of h 4 4 rfl (by omega) (by omega)).mono ?_
      clear h
      rintro e u ⟨rfl, h⟩
      go_wp2_with (first | with_reducible refine halt_store 75 ?_ | with_reducible refine halt_store 3 ?_ | with_reducible refine halt_store 23 ?_ | with_reducible refine halt_store 77 ?_ | with_reducible refine halt_build 77 ?_ | with_reducible refine halt_load 82 ?_)
      refine (sget_of h 4 4 rfl (by omega) (by omega)).mono ?_
      clear h
      rintro e u ⟨rfl, h⟩
      go_wp2_with (first | with_reducible refine halt_store 75 ?_ | with_reducible refine halt_store 3 ?_ | with_reducible refine halt_store 23 ?_ | with_reducible refine halt_store 77 ?_ | with_reducible refine halt_build 77 ?_ | with_reducible refine halt_load 82 ?_)
      refine L5.store1 (off := 9) (v := b32 (getN B 48 4).toUInt32) rfl info23'' (by rfl) (by rfl) h.hS (by rw [suC_len _ (by exact hpl)]; omega) ⟨rfl, rfl⟩ (by rfl) ?_
      intro u' hS' hG'
      simp only [Act.put]
      rw [suC_s9 _ (by exact hpl)] at hS'
      replace h := h.store hS' hG'
      clear hS' hG'
      go_wp2_with (first | with_reducible refine halt_store 75 ?_ | with_reducible refine halt_store 3 ?_ | with_reducible refine halt_store 23 ?_ | with_reducible refine halt_store 77 ?_ | with_reducible refine halt_build 77 ?_ | with_reducible refine halt_load 82 ?_)
      refine L5.store1 (off := 10) (v := b32 (getN B 52 4).toUInt32) rfl info23'' (by rfl) (by rfl) h.hS (by rw [suC_len _ (by exact hpl)]; omega) ⟨rfl, rfl⟩ (by rfl) ?_
      intro u' hS' hG'
      simp only [Act.put]
      rw [suC_s10 _ (by exact hpl)] at hS'
      replace h := h.store hS' hG'
      clear hS' hG'
      go_wp2_with (first | with_reducible refine halt_store 75 ?_ | with_reducible refine halt_store 3 ?_ | with_reducible refine halt_store 23 ?_ | with_reducible refine halt_store 77 ?_ | with_reducible refine halt_build 77 ?_ | with_reducible refine halt_load 82 ?_)
      refine L5.store1 (off := 11) (v := b32 (getN B 56 4).toUInt32) rfl info23'' (by rfl) (by rfl) h.hS (by rw [suC_len _ (by exact hpl)]; omega) ⟨rfl, rfl⟩ (by rfl) ?_
      intro u' hS' hG'
      simp only [Act.put]
      rw [suC_s11 _ (by exact hpl)] at hS'
      replace h := h.store hS' hG'
      clear hS' hG'
      go_wp2_with (first | with_reducible refine halt_store 75 ?_ | with_reducible refine halt_store 3 ?_ | with_reducible refine halt_store 23 ?_ | with_reducible refine halt_store 77 ?_ | with_reducible refine halt_build 77 ?_ | with_reducible refine halt_load 82 ?_)
      refine L5.store1 (off := 12) (v := .int .i64 (n64 (getN B 60 4))) rfl info3'' (by rfl) (by rfl) h.hS (by rw [suC_len _ (by exact hpl)]; omega) ⟨rfl, rfl⟩ (by rfl) ?_
      intro u' hS' hG'
      simp only [Act.put]
      rw [suC_s12 _ (by exact hpl)] at hS'
      replace h := h.store hS' hG'
      clear hS' hG'
      have hb1 : (n64 (getN B 104 1) == 1) = (getN B 104 1 == 1) := n64_beq _ 1
      go_wp2_with (first | with_reducible refine halt_store 75 ?_ | with_reducible refine halt_store 3 ?_ | with_reducible refine halt_store 23 ?_ | with_reducible refine halt_store 77 ?_ | with_reducible refine halt_build 77 ?_ | with_reducible refine halt_load 82 ?_)
      refine (sget_of h 8 8 rfl (by omega) (by omega)).mono ?_
      clear h
      rintro e u ⟨rfl, h⟩
      go_wp2_with (first | with_reducible refine halt_store 75 ?_ | with_reducible refine halt_store 3 ?_ | with_reducible refine halt_store 23 ?_ | with_reducible refine halt_store 77 ?_ | with_reducible refine halt_build 77 ?_ | with_reducible refine halt_load 82 ?_)
      refine (sget_of h 8 8 rfl (by omega) (by omega)).mono ?_
      clear h
      rintro e u ⟨rfl, h⟩
      go_wp2_with (first | with_reducible refine halt_store 75 ?_ | with_reducible refine halt_store 3 ?_ | with_reducible refine halt_store 23 ?_ | with_reducible refine halt_store 77 ?_ | with_reducible refine halt_build 77 ?_ | with_reducible refine halt_load 82 ?_)
      refine (sget_of h 8 8 rfl (by omega) (by omega)).mono ?_
      clear h
      rintro e u ⟨rfl, h⟩
      go_wp2_with (first | with_reducible refine halt_store 75 ?_ | with_reducible refine halt_store 3 ?_ | with_reducible refine halt_store 23 ?_ | with_reducible refine halt_store 77 ?_ | with_reducible refine halt_build 77 ?_ | with_reducible refine halt_load 82 ?_)
      refine (sget_of h 8 8 rfl (by omega) (by omega)).mono ?_
      clear h
      rintro e u ⟨rfl, h⟩
      go_wp2_with (first | with_reducible refine halt_store 75 ?_ | with_reducible refine halt_store 3 ?_ | with_reducible refine halt_store 23 ?_ | with_reducible refine halt_store 77 ?_ | with_reducible refine halt_build 77 ?_ | with_reducible refine halt_load 82 ?_)
      refine (sget_of h 8 8 rfl (by omega) (by omega)).mono ?_
      clear h
      rintro e u ⟨rfl, h⟩
      go_wp2_with (first | with_reducible refine halt_store 75 ?_ | with_reducible refine halt_store 3 ?_ | with_reducible refine halt_store 23 ?_ | with_reducible refine halt_store 77 ?_ | with_reducible refine halt_build 77 ?_ | with_reducible refine halt_load 82 ?_)
      refine (sget_of h 1 1 rfl (by omega) (by omega)).mono ?_
      clear h
      rintro e u ⟨rfl, h⟩
      go_wp2_with (first | with_reducible refine halt_store 75 ?_ | with_reducible refine halt_store 3 ?_ | with_reducible refine halt_store 23 ?_ | with_reducible refine halt_store 77 ?_ | with_reducible refine halt_build 77 ?_ | with_reducible refine halt_load 82 ?_)
      refine L.val (by rfl) (X.build77 rfl (by rfl) (by rfl) (by rfl) (by rfl) (by rfl) (by rfl)) ?_
      simp only [Act.put, List.setIfInBounds_toArray, List.set_cons_zero, List.set_cons_succ]
      go_wp2_with (first | with_reducible refine halt_store 75 ?_ | with_reducible refine halt_store 3 ?_ | with_reducible refine halt_store 23 ?_ | with_reducible refine halt_store 77 ?_ | with_reducible refine halt_build 77 ?_ | with_reducible refine halt_load 82 ?_)
      refine L5.storeS (off := 13) (vs := stC (parseS B)) rfl info77 (by rfl) (by rfl) h.hS (by rw [suC_len _ (by exact hpl)]; decide) rfl (stC_one _) (by rfl) ?_
      intro u' hS' hG'
      simp only [Act.put]
      rw [suC_s13 _ _ (by exact hpl)] at hS'
      replace h := h.store hS' hG'
      clear hS' hG'
      have h9 : OfW w u' w.heap.size gS gA B (parseS B) 105 := by
        have e : parseS B = { S1 with top := (getN B 48 4).toUInt32, base := (getN B 52 4).toUInt32, stage := (getN B 56 4).toUInt32, cur := n64 (getN B 60 4), ep := (parseS B).ep, la := (parseS B).la, sq := (parseS B).sq, bl := (parseS B).bl, bq := (parseS B).bq, mr := (parseS B).mr } := by
          rw [hS1, hS0]; rfl
        rw [e]; exact h
      have hpk := parse_ok B
      have HB5 := Lib.hid (fun u => block5_any (parseS B) hpk u)
      have hp6 := hpk.pg
      clear h hS1 hS0 hpl hpl1 lw1 lw2 lw3 lw4 hb1
      generalize parseS B = s at *
      go_wp2_with (first | with_reducible refine halt_store 75 ?_ | with_reducible refine halt_store 3 ?_ | with_reducible refine halt_store 23 ?_ | with_reducible refine halt_store 77 ?_ | with_reducible refine halt_build 77 ?_ | with_reducible refine halt_load 82 ?_)
      refine L.load82 rfl (by rfl) h9.hS hp6 (by rfl) ?_
      simp only [Act.put, List.setIfInBounds_toArray, List.set_cons_zero, List.set_cons_succ]
      have HSL := Lib.hid (blockS_length s)
      cases hm : mayS s
      · rw [hm] at HB5 HOF
        have HO : Hid (ofS B = (zeroS, 4)) := Lib.hid (by rw [HOF.out]; rfl)
        have HB6 : Hid (∀ u, Calls Try.prog 61 #[suV s] u (GivesArr (zeros 256) 2 u)) := Lib.hid (fun u => HB5.out u)
        clear HB5 HOF hm
        go_wp2_with fail
        refine (HB6.out _).mono ?_
        rintro e w5 ⟨rfl, hb5⟩
        have hS5 := h9.hS.gb hb5
        have hB5 := h9.hB.gb hb5
        have hbw5 := bgb h9.hb hb5 h9.hb.size
        go_wp2_with (first | with_reducible refine halt_alloc 37 ?_ | with_reducible refine halt_store 37 ?_ | with_reducible refine halt_load 37 ?_ | with_reducible refine halt_bin 37 ?_ | with_reducible refine halt_build 82 ?_ | with_reducible refine halt_store 82 ?_ | with_reducible refine halt_load 82 ?_)
        refine L.alloc rfl zero37 (by rfl) ?_
        intro w6 hA6 hG6
        simp only [Act.put, List.setIfInBounds_toArray, List.set_cons_zero, List.set_cons_succ]
        go_wp2_with (first | with_reducible refine halt_alloc 37 ?_ | with_reducible refine halt_store 37 ?_ | with_reducible refine halt_load 37 ?_ | with_reducible refine halt_bin 37 ?_ | with_reducible refine halt_build 82 ?_ | with_reducible refine halt_store 82 ?_ | with_reducible refine halt_load 82 ?_)
        refine L.store rfl info37 (by rfl) (by rfl) hA6 (by rw [List.length_map]; exact HZ.out) HZ.out (by rfl) ?_
        intro w8 hA8 hG8
        simp only [Act.put]
        have f8 : Fr (fun _ => False) w5 w8 := (Fr.of_gb hG6).grown hG8 (fun j hj => .inr (by cases hj; omega))
        have hS8 := f8.blk hS5 (fun h => h)
        have hB8 := f8.blk hB5 (fun h => h)
        have hb8 : Below w.heap.size w w8 := hbw5.trans (f8.below (B := w.heap.size) (fun _ _ h => h.elim) hbw5.size)
        clear hS5 hB5 hbw5 hb5 hG6 hG8 hA6 f8
        go_wp2_with (first | with_reducible refine halt_build 82 ?_ | with_reducible refine halt_store 82 ?_)
        refine L.val (by rfl) (X.build82_0 rfl) ?_
        simp only [Act.put, List.setIfInBounds_toArray, List.set_cons_zero, List.set_cons_succ]
        go_wp2_with (first | with_reducible refine halt_alloc 37 ?_ | with_reducible refine halt_store 37 ?_ | with_reducible refine halt_load 37 ?_ | with_reducible refine halt_bin 37 ?_ | with_reducible refine halt_build 82 ?_ | with_reducible refine halt_store 82 ?_ | with_reducible refine halt_load 82 ?_)
        refine L.store82 (s := zeroS) rfl (by rfl) (by rfl) hS8 (by rw [suC_len _ hp6]) rfl (by rfl) ?_
        intro w9 hS9 hG9
        simp only [Act.put]
        go_wp2_with fail
        refine ret_su2 rfl (by rfl) hS9 rfl (by rfl) rfl ?_
        exact ⟨by rw [HO.out]; rfl, hb8.grown hG9 hb8.size (fun k hk => by cases hk; exact h9.l1)⟩
      · rw [hm] at HB5 HOF
        have HB6 : Hid (∀ u, Calls Try.prog 61 #[suV s] u (GivesArr (blockS s) 0 u)) := Lib.hid (fun u => HB5.out u)
        generalize blockS s = C at *
        clear HB5 hm
        go_wp2_with fail
        refine (HB6.out _).mono ?_
        rintro e w5 ⟨rfl, hb5⟩
        have hS5 := h9.hS.gb hb5
        have hB5 := h9.hB.gb hb5
        have hbw5 := bgb h9.hb hb5 h9.hb.size
        go_wp2_with (first | with_reducible refine halt_alloc 37 ?_ | with_reducible refine halt_store 37 ?_ | with_reducible refine halt_load 37 ?_ | with_reducible refine halt_bin 37 ?_ | with_reducible refine halt_build 82 ?_ | with_reducible refine halt_store 82 ?_ | with_reducible refine halt_load 82 ?_)
        refine L.alloc rfl zero37 (by rfl) ?_
        intro w6 hA6 hG6
        simp only [Act.put, List.setIfInBounds_toArray, List.set_cons_zero, List.set_cons_succ]
        go_wp2_with (first | with_reducible refine halt_alloc 37 ?_ | with_reducible refine halt_store 37 ?_ | with_reducible refine halt_load 37 ?_ | with_reducible refine halt_bin 37 ?_ | with_reducible refine halt_build 82 ?_ | with_reducible refine halt_store 82 ?_ | with_reducible refine halt_load 82 ?_)
        refine L.store rfl info37 (by rfl) (by rfl) hA6 (by rw [List.length_map]; exact HZ.out) HSL.out (by rfl) ?_
        intro w8 hA8 hG8
        simp only [Act.put]
        have f8 : Fr (fun _ => False) w5 w8 := (Fr.of_gb hG6).grown hG8 (fun j hj => .inr (by cases hj; omega))
        have hS8 := f8.blk hS5 (fun h => h)
        have hB8 := f8.blk hB5 (fun h => h)
        have hb8 : Below w.heap.size w w8 := hbw5.trans (f8.below (B := w.heap.size) (fun _ _ h => h.elim) hbw5.size)
        clear hS5 hB5 hbw5 hb5 hG6 hG8 hA6 f8
        by_cases hCB : C = B
        · have hq : (!(C == B)) = false := by simp [hCB]
          have HO : Hid (ofS B = (s, 0)) := Lib.hid (by rw [HOF.out, show (C == B) = true by simp [hCB]]; rfl)
          clear hCB HOF
          go_wp2_with (first | with_reducible refine halt_alloc 37 ?_ | with_reducible refine halt_store 37 ?_ | with_reducible refine halt_load 37 ?_ | with_reducible refine halt_bin 37 ?_ | with_reducible refine halt_build 82 ?_ | with_reducible refine halt_store 82 ?_ | with_reducible refine halt_load 82 ?_)
          refine L.load rfl Try.underlying37 info37 (by rfl) hA8 HSL.out (by rfl) ?_
          simp only [Act.put, List.setIfInBounds_toArray, List.set_cons_zero, List.set_cons_succ]
          go_wp2_with (first | with_reducible refine halt_alloc 37 ?_ | with_reducible refine halt_store 37 ?_ | with_reducible refine halt_load 37 ?_ | with_reducible refine halt_bin 37 ?_ | with_reducible refine halt_build 82 ?_ | with_reducible refine halt_store 82 ?_ | with_reducible refine halt_load 82 ?_)
          refine L.load rfl Try.underlying37 info37 (by rfl) hB8 HL.out (by rfl) ?_
          simp only [Act.put, List.setIfInBounds_toArray, List.set_cons_zero, List.set_cons_succ]
          go_wp2_with (first | with_reducible refine halt_alloc 37 ?_ | with_reducible refine halt_store 37 ?_ | with_reducible refine halt_load 37 ?_ | with_reducible refine halt_bin 37 ?_ | with_reducible refine halt_build 82 ?_ | with_reducible refine halt_store 82 ?_ | with_reducible refine halt_load 82 ?_)
          refine L.neq rfl Try.underlying37 guard37 (by rfl) (by rfl) HSL.out HL.out (by rfl) ?_
          simp only [Act.put, List.setIfInBounds_toArray, List.set_cons_zero, List.set_cons_succ]
          go_wp2_with (first | with_reducible refine halt_alloc 37 ?_ | with_reducible refine halt_store 37 ?_ | with_reducible refine halt_load 37 ?_ | with_reducible refine halt_bin 37 ?_ | with_reducible refine halt_build 82 ?_ | with_reducible refine halt_store 82 ?_ | with_reducible refine halt_load 82 ?_)
          refine L.load82 rfl (by rfl) hS8 hp6 (by rfl) ?_
          simp only [Act.put, List.setIfInBounds_toArray, List.set_cons_zero, List.set_cons_succ]
          go_wp2_with (first | with_reducible refine halt_alloc 37 ?_ | with_reducible refine halt_store 37 ?_ | with_reducible refine halt_load 37 ?_ | with_reducible refine halt_bin 37 ?_ | with_reducible refine halt_build 82 ?_ | with_reducible refine halt_store 82 ?_ | with_reducible refine halt_load 82 ?_)
          refine L.store82 (s := s) rfl (by rfl) (by rfl) hS8 (by rw [suC_len _ hp6]) hp6 (by rfl) ?_
          intro w9 hS9 hG9
          simp only [Act.put]
          go_wp2_with fail
          refine ret_su2 rfl (by rfl) hS9 hp6 (by rfl) rfl ?_
          exact ⟨by rw [HO.out]; rfl, hb8.grown hG9 hb8.size (fun k hk => by cases hk; exact h9.l1)⟩
        · have hq : (!(C == B)) = true := by simp [hCB]
          have HO : Hid (ofS B = (zeroS, 4)) := Lib.hid (by rw [HOF.out, show (C == B) = false by simp [hCB]]; rfl)
          clear hCB HOF
          go_wp2_with (first | with_reducible refine halt_alloc 37 ?_ | with_reducible refine halt_store 37 ?_ | with_reducible refine halt_load 37 ?_ | with_reducible refine halt_bin 37 ?_ | with_reducible refine halt_build 82 ?_ | with_reducible refine halt_store 82 ?_ | with_reducible refine halt_load 82 ?_)
          refine L.load rfl Try.underlying37 info37 (by rfl) hA8 HSL.out (by rfl) ?_
          simp only [Act.put, List.setIfInBounds_toArray, List.set_cons_zero, List.set_cons_succ]
          go_wp2_with (first | with_reducible refine halt_alloc 37 ?_ | with_reducible refine halt_store 37 ?_ | with_reducible refine halt_load 37 ?_ | with_reducible refine halt_bin 37 ?_ | with_reducible refine halt_build 82 ?_ | with_reducible refine halt_store 82 ?_ | with_reducible refine halt_load 82 ?_)
          refine L.load rfl Try.underlying37 info37 (by rfl) hB8 HL.out (by rfl) ?_
          simp only [Act.put, List.setIfInBounds_toArray, List.set_cons_zero, List.set_cons_succ]
          go_wp2_with (first | with_reducible refine halt_alloc 37 ?_ | with_reducible refine halt_store 37 ?_ | with_reducible refine halt_load 37 ?_ | with_reducible refine halt_bin 37 ?_ | with_reducible refine halt_build 82 ?_ | with_reducible refine halt_store 82 ?_ | with_reducible refine halt_load 82 ?_)
          refine L.neq rfl Try.underlying37 guard37 (by rfl) (by rfl) HSL.out HL.out (by rfl) ?_
          simp only [Act.put, List.setIfInBounds_toArray, List.set_cons_zero, List.set_cons_succ]
          go_wp2_with (first | with_reducible refine halt_alloc 37 ?_ | with_reducible refine halt_store 37 ?_ | with_reducible refine halt_load 37 ?_ | with_reducible refine halt_bin 37 ?_ | with_reducible refine halt_build 82 ?_ | with_reducible refine halt_store 82 ?_ | with_reducible refine halt_load 82 ?_)
          refine L.val (by rfl) (X.build82_0 rfl) ?_
          simp only [Act.put, List.setIfInBounds_toArray, List.set_cons_zero, List.set_cons_succ]
          go_wp2_with (first | with_reducible refine halt_alloc 37 ?_ | with_reducible refine halt_store 37 ?_ | with_reducible refine halt_load 37 ?_ | with_reducible refine halt_bin 37 ?_ | with_reducible refine halt_build 82 ?_ | with_reducible refine halt_store 82 ?_ | with_reducible refine halt_load 82 ?_)
          refine L.store82 (s := zeroS) rfl (by rfl) (by rfl) hS8 (by rw [suC_len _ hp6]) rfl (by rfl) ?_
          intro w9 hS9 hG9
          simp only [Act.put]
          go_wp2_with fail
          refine ret_su2 rfl (by rfl) hS9 rfl (by rfl) rfl ?_
          exact ⟨by rw [HO.out]; rfl, hb8.grown hG9 hb8.size (fun k hk => by cases hk; exact h9.l1)⟩
end Go.Proofs.Ytiihllfjlgbfcaa
