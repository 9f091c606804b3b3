/- The walks of a disk's lasting (a range over slices.Backward), of slices.Equal at sectors, and of a disk's Copy and Same. -/
import Derived.Test.YtiihllfjlgbfcaaDCrash
import Derived.RangeFuncNested
import Derived.RangeFuncBound
import Derived.RangeFuncCalls
import Derived.RangeFuncLeaves
import Derived.Shelf.Abstract
import Derived.OwnWalkIn
import Derived.TacticsInMore
import Derived.LoopNIn
import Derived.LoopIn
namespace Go.Proofs.Ytiihllfjlgbfcaa
open Go.RowKit Go.Shelf
/-! ### Operations within a fence -/
section
variable {F : Fence} {n : Nat} {ops : Array Oper} {rest : List Oper} {o : Oper} {a : Act} {w w' : World} {v : Value} {Q : Exit → Act → World → Prop}
theorem LI.val (hd : ∀ c, o.op ≠ .defer c) (ha : o.about Try.prog w a.eval = none) (hw : Region.wanted o (yielded ops a.tmps) = true) (hr : (execOp a.eval o).run Try.prog w = .ok (.value v) w')
    (h : wpListIn F n Try.prog ops Q rest (a.put o.dst v) w') : wpListIn F n Try.prog ops Q (o :: rest) a w := by
  refine wpListIn_step fun K hK => ?_
  rw [if_pos hw]
  refine ⟨fun f hf => (by rw [ha] at hf; cases hf), ?_⟩
  rw [Oper.semAt_plain F _ _ hd, hr]
  exact hK _ _ h
theorem LI.skip (hd : ∀ c, o.op ≠ .defer c) (ha : o.about Try.prog w a.eval = none) (hw : Region.wanted o (yielded ops a.tmps) = true) (hr : (execOp a.eval o).run Try.prog w = .ok .skip w')
    (h : wpListIn F n Try.prog ops Q rest (a.put o.dst undef) w') : wpListIn F n Try.prog ops Q (o :: rest) a w := by
  refine wpListIn_step fun K hK => ?_
  rw [if_pos hw]
  refine ⟨fun f hf => (by rw [ha] at hf; cases hf), ?_⟩
  rw [Oper.semAt_plain F _ _ hd, hr]
  exact hK _ _ h
/-- An operation that yields, told by what is asked of it. -/
theorem LI.yields (hd : ∀ c, o.op ≠ .defer c) (ha : o.about Try.prog w a.eval = none) (hw : Region.wanted o (yielded ops a.tmps) = true)
    (hv : ∀ N : Value → World → Prop, N v w → (match (execOp a.eval o).run Try.prog w with | .ok (.value x) u' => N x u' | _ => False))
    (h : wpListIn F n Try.prog ops Q rest (a.put o.dst v) w) : wpListIn F n Try.prog ops Q (o :: rest) a w := by
  have := hv (fun x u' => x = v ∧ u' = w) ⟨rfl, rfl⟩
  split at this
  · rename_i x u' he
    obtain ⟨rfl, rfl⟩ := this
    exact LI.val hd ha hw he h
  · exact this.elim
theorem haltI_load (T : TypeId) {d x ty pos af gd} (h : Stop (wpListIn F n Try.prog ops Q (⟨d, .load T x, ty, pos, af, gd⟩ :: rest) a w)) : wpListIn F n Try.prog ops Q (⟨d, .load T x, ty, pos, af, gd⟩ :: rest) a w := h
end
/-! ### What lasts, plainly -/
def DD.lasting (d : DD) : List (List UInt8) := d.jr.foldr (fun e l => l.set e.1 e.2) d.img
/-- The journal from its end. -/
def downN (n : Nat) : List (Fin n) := (List.finRange n).reverse
theorem downN_length (n : Nat) : (downN n).length = n := by simp [downN]
theorem downN_get (n k : Nat) (h : k < (downN n).length) : (downN n)[k] = ⟨n - 1 - k, by rw [downN_length] at h; omega⟩ := by
  simp [downN, List.getElem_reverse]
theorem downN_succ (n k : Nat) (h : k < n) : (downN n).take (k + 1) = (downN n).take k ++ [⟨n - 1 - k, by omega⟩] := by
  rw [List.take_succ_eq_append_getElem (by rw [downN_length]; exact h), downN_get]
/-- What a row of entries makes of an image. -/
def turnsL (jr : List (Nat × List UInt8)) (img : List (List UInt8)) (ks : List (Fin jr.length)) : List (List UInt8) := ks.foldl (fun l k => l.set jr[k].1 jr[k].2) img
theorem turnsL_snoc (jr : List (Nat × List UInt8)) (img : List (List UInt8)) (ks : List (Fin jr.length)) (k : Fin jr.length) : turnsL jr img (ks ++ [k]) = (turnsL jr img ks).set jr[k].1 jr[k].2 := by
  simp [turnsL, List.foldl_append]
theorem turnsL_length (jr : List (Nat × List UInt8)) (img : List (List UInt8)) (ks : List (Fin jr.length)) : (turnsL jr img ks).length = img.length := by
  unfold turnsL
  induction ks generalizing img with
  | nil => rfl
  | cons k ks ih => rw [List.foldl_cons, ih, List.length_set]
theorem turnsL_all64 (jr : List (Nat × List UInt8)) (h : All65 jr) (img : List (List UInt8)) (hi : All64 img) (ks : List (Fin jr.length)) : All64 (turnsL jr img ks) := by
  unfold turnsL
  induction ks generalizing img with
  | nil => exact hi
  | cons k ks ih =>
    rw [List.foldl_cons]
    refine ih _ (all64_set hi _ _ ?_)
    have := h _ (List.getElem_mem k.isLt)
    rw [entV_length] at this
    show (jr[k.val]).2.length = 64
    omega
theorem turns_all (d : DD) : turnsL d.jr d.img (downN d.jr.length) = d.lasting := by
  unfold turnsL downN DD.lasting
  rw [List.foldl_reverse]
  have : d.jr = (List.finRange d.jr.length).map (fun k => d.jr[k]) := by
    apply List.ext_getElem
    · simp
    · intro i h1 h2; simp
  conv => rhs; rw [this, List.foldr_map]
/-! ### The iterator -/
/-- What the iterator reads between two rounds. -/
def BackAt (a : Option Addr) (c : Nat) (Bs : Nat) (jr : List (Nat × List UInt8)) (W : World) : Prop :=
  W.cell? ⟨Bs, 0, none⟩ = some (.slice a jr.length c) ∧ (jr.length = 0 ∨ ∃ g cur, a = some ⟨g, 0, none⟩ ∧ Blk W g 151 cur ∧ jr.length * 65 ≤ cur.length ∧ cur.take (jr.length * 65) = ents jr)
def encB (jr : List (Nat × List UInt8)) (k : Fin jr.length) : Array Value := #[.int .i64 (k.val : Nat), .agg (entV jr[k]).toArray]
set_option maxRecDepth 100000 in
set_option maxHeartbeats 4000000 in
theorem back_in (ja : Option Addr) (jc : Nat) (F : Fence) (n : Nat) (h143 : F.fn 143) (hro : F.round = none) (hn : 1 ≤ n) (l Bs : Nat) (jr : List (Nat × List UInt8)) (hjl : jr.length ≤ 1000000) (hj65 : All65 jr) (Kp : World → World → Prop) (hKp : ∀ A B, Kp A B → BackAt ja jc Bs jr A → BackAt ja jc Bs jr B) (J Jx : List (Fin jr.length) → World → Prop)
    (hY : ∀ pre x W, J pre W → pre.length < jr.length → YieldAt F (n - 1) Try.prog l (encB jr x) W fun e W' =>
      (e = .returned (.bool true) ∧ J (pre ++ [x]) W' ∧ Kp W W') ∨ (e = .returned (.bool false) ∧ Jx (pre ++ [x]) W'))
    (W : World) (hB : BackAt ja jc Bs jr W) (h0 : J [] W) :
    CallsIn F n Try.prog 143 #[.func (.yield l) #[] #[], .pointer (some ⟨Bs, 0, none⟩)] W fun e W' => (∃ v, e = .returned v) ∧
      ((∃ ys, ys = downN jr.length ∧ J ys W') ∨ (∃ pre, (∃ k, k ≤ jr.length ∧ pre = (downN jr.length).take k) ∧ Jx pre W')) := by
  refine callsIn_of_wp Try.func143 rfl h143 ?_ hro
  simp only [Try.ntmps143, List.size_toArray, List.length_cons, List.length_nil, Nat.reduceAdd, Nat.reduceSub, Array.replicate_succ, Array.replicate_zero, List.push_toArray, List.append_toArray, List.nil_append, List.cons_append]
  obtain ⟨hc0, -⟩ := id hB
  gi_wp2
  gi_loopw [3] (fun i wr => ∃ k : Nat, k ≤ jr.length ∧ i = .int .i64 ((jr.length : Int) - 1 - k) ∧ J ((downN jr.length).take k) wr ∧ BackAt ja jc Bs jr wr)
    (fun i _ => (intOf i + 1).toNat)
  case atStart => exact ⟨0, Nat.zero_le _, by simp, h0, hB⟩
  case round =>
    obtain ⟨k, hk, rfl, hJs, hBk⟩ := hrel
    by_cases hlt : k < jr.length
    · obtain ⟨hc1, hg⟩ := id hBk
      obtain ⟨g, cur, rfl, hBl, hcl, hct⟩ := hg.resolve_left (by omega)
      obtain ⟨m, hm, hlm⟩ : ∃ m, m = jr.length - 1 - k ∧ m < jr.length := ⟨_, rfl, by omega⟩
      obtain ⟨fn, tmps, assign, body, hy, hR⟩ := hY _ ⟨m, hlm⟩ wr hJs (by rw [List.length_take, downN_length]; omega)
      unfold encB at hy
      dsimp only at hy
      have hix : ((jr.length : Int) - 1 - k) = (m : Int) := by omega
      have hat := ents_at hj65 m hlm cur hct
      have hsn : (downN jr.length).take k ++ [⟨m, hlm⟩] = (downN jr.length).take (k + 1) := by
        rw [downN_succ _ _ hlt]
        congr 2
        exact Fin.ext hm
      rw [hsn] at hR
      rw [hix]
      have hml : m * 65 + 65 ≤ cur.length := by omega
      have HM := Lib.hid hm
      clear hm hsn hix hct hJs
      change (Instr.yield l #[Value.int IntKind.i64 ↑m, Value.agg (entV jr[m]).toArray]).run Try.prog wr = _ at hy
      generalize entV jr[m] = E at *
      gi_wp2_with (first | with_reducible refine haltI_load 151 ?_)
      refine LI.val (by simp) rfl (by rfl) (X.loadS rfl (by rfl) Try.underlying151 info151s hBl hat hml) ?_
      simp only [Act.put, List.setIfInBounds_toArray, List.set_cons_zero, List.set_cons_succ]
      gi_wp2
      refine hR.mono ?_
      rintro e W3 (⟨rfl, hJ3, hk3⟩ | ⟨rfl, hJx3⟩)
      · gi_wp2
        go_roundw
        case rel => exact ⟨k + 1, by omega, by have := HM.out; congr 1 <;> omega, hJ3, hKp _ _ hk3 hBk⟩
        case measure => first | (simp [intOf]; omega) | (simp [intOf]) | omega
      · gi_wp2
        refine bodyPost_ret (results_none rfl _ _ _) rfl ?_
        exact ⟨⟨_, rfl⟩, .inr ⟨_, ⟨k + 1, by omega, rfl⟩, hJx3⟩⟩
    · gi_wp2
      go_end0
      exact ⟨⟨_, rfl⟩, .inl ⟨_, rfl, by rw [List.take_of_length_le (by rw [downN_length]; omega)] at hJs; exact hJs⟩⟩
theorem BackAt.gb {ja : Option Addr} {jc : Nat} {Bs : Nat} {jr : List (Nat × List UInt8)} {w u : World} (h : BackAt ja jc Bs jr w) (g : GB w u) : BackAt ja jc Bs jr u := by
  obtain ⟨h1, h2⟩ := h
  refine ⟨g.cell h1, ?_⟩
  rcases h2 with h2 | ⟨b, cur, ha, hB, hl, ht⟩
  · exact .inl h2
  · exact .inr ⟨b, cur, ha, hB.gb g, hl, ht⟩
theorem back_stops (ja : Option Addr) (jc : Nat) (F : Fence) (n : Nat) (h143 : F.fn 143) (hro : F.round = none) (hn : 1 ≤ n) (Bs : Nat) (jr : List (Nat × List UInt8)) (hjl : jr.length ≤ 1000000) (hj65 : All65 jr) (Kp : World → World → Prop) (hKp : ∀ A B, Kp A B → BackAt ja jc Bs jr A → BackAt ja jc Bs jr B) (w : World) (hB : BackAt ja jc Bs jr w) :
    SeqStopsK F n Try.prog 143 #[.pointer (some ⟨Bs, 0, none⟩)] (encB jr) Kp (fun ys => ys = downN jr.length) (fun pre => ∃ k, k ≤ jr.length ∧ pre = (downN jr.length).take k) jr.length w :=
  fun l J Jx W hW _ _ hY h0 => back_in ja jc F n h143 hro hn l Bs jr hjl hj65 Kp hKp J Jx hY W (hB.gb hW) h0
theorem backward_any (a : Option Addr) (n c : Nat) (w : World) : Calls Try.prog 135 #[.slice a n c] w fun e w' => e = .returned (.func (.func 143) #[] #[.pointer (some ⟨w.heap.size, 0, none⟩)]) ∧ w' = w.alloc (.cells #[.slice a n c] 50) := by
  go_enter Try.func135, Try.ntmps135
  go_wp2_with fail
  go_ret
  exact ⟨rfl, rfl⟩
/-- What a round of lasting keeps: all that lay ahead of the loop, but the row that it fills. -/
def KeepsBut (g m : Nat) (A B : World) : Prop := A.heap.size ≤ B.heap.size ∧ ∀ k, k < m → k ≠ g → k < A.heap.size → B.heap[k]? = A.heap[k]?
theorem KeepsBut.trans {g m : Nat} {A B C : World} (h : KeepsBut g m A B) (k : KeepsBut g m B C) : KeepsBut g m A C :=
  ⟨Nat.le_trans h.1 k.1, fun i h1 h2 h3 => (k.2 i h1 h2 (Nat.lt_of_lt_of_le h3 h.1)).trans (h.2 i h1 h2 h3)⟩
theorem KeepsBut.back {g m : Nat} {A B : World} (h : KeepsBut g m A B) {ja : Option Addr} {jc Bs : Nat} {jr : List (Nat × List UInt8)} (hB : BackAt ja jc Bs jr A) (h1 : Bs < m) (h2 : Bs ≠ g) (h3 : ∀ ad, ja = some ad → 0 < jr.length → ad.block < m ∧ ad.block ≠ g) : BackAt ja jc Bs jr B := by
  obtain ⟨c, r⟩ := hB
  have hb := World.block_lt_of_cell? _ _ c
  refine ⟨(World.cell?_of_block (w := A) (h.2 Bs h1 h2 hb)).trans c, ?_⟩
  rcases r with r | ⟨b, cur, ha, hB, hl, ht⟩
  · exact .inl r
  · by_cases h0 : jr.length = 0
    · exact .inl h0
    · have := h3 _ ha (by omega)
      exact .inr ⟨b, cur, ha, (h.2 b this.1 this.2 hB.lt).trans hB, hl, ht⟩
theorem blk_notrow {A : World} {g : Nat} {T : TypeId} {cs : List Value} {row : Option Nat} (h : Blk A g T cs) (hr : ∀ r, row = some r → ∃ o : Obj, A.heap[r]? = some o ∧ o.isCells = false) : some g ≠ row := by
  intro e
  obtain ⟨o, ho, hc⟩ := hr g e.symm
  have h' : A.heap[g]? = some (.cells cs.toArray T) := h
  rw [h'] at ho
  cases ho
  cases hc
theorem X.allocZ {T : TypeId} {z : Value} {ρ : Operand → Value} {o : Oper} {w : World} (ho : o.op = .alloc T) (hz : (Try.prog.info? T).map (·.zero) = some (some z)) :
    (execOp ρ o).run Try.prog w = .ok (.value (.pointer (some ⟨w.heap.size, 0, none⟩))) (w.alloc (.cells z.cells T)) := by
  unfold execOp; rw [ho]
  simp only [Instr.alloc, Sem.run_bind, run_zero hz, Result.andThen_ok]
  rfl
theorem X.storeS {T U : TypeId} {n g : Nat} {x y : Operand} {cs vs : List Value} {ρ : Operand → Value} {o : Oper} {w : World} (ho : o.op = .store U x y) (hs : (Try.prog.info? U).map (·.size) = some n)
    (hx : ρ x = .pointer (some ⟨g, 0, none⟩)) (hy : ρ y = .agg vs.toArray) (hB : Blk w g T cs) (hc : cs.length = n) (hl : vs.length = n) (h1 : ∀ u ∈ vs, u.oneCell' = true) : (execOp ρ o).run Try.prog w = .ok .skip (w.setRow g vs.toArray) := by
  have hr := run_store_part (P := Try.prog) (o := 0) hB (.agg vs.toArray) vs rfl h1 hs hl (by omega)
  rw [put_all _ _ (by omega)] at hr
  unfold execOp; rw [ho]
  simp only [hx, hy, Sem.run_bind, hr, Result.andThen_ok, Sem.run_pure]
section
variable {F : Fence} {n : Nat} {ops : Array Oper} {rest : List Oper} {a : Act} {w : World} {Q : Exit → Act → World → Prop}
theorem haltI_alloc (T : TypeId) {d ty pos af gd} (h : Stop (wpListIn F n Try.prog ops Q (⟨d, .alloc T, ty, pos, af, gd⟩ :: rest) a w)) : wpListIn F n Try.prog ops Q (⟨d, .alloc T, ty, pos, af, gd⟩ :: rest) a w := h
end
set_option maxRecDepth 100000 in
set_option maxHeartbeats 4000000 in
theorem lasting_any (p : Nat) (d : DD) (F : Nat → Prop) (w : World) (h : DiskAt w p d F) (hg : DGood d) (hj : d.jr.length ≤ 1000000) :
    Calls Try.prog 110 #[.pointer (some ⟨p, 0, none⟩)] w (GivesSecs d.lasting w) := by
  obtain ⟨y, hd⟩ := h
  obtain ⟨c0, c1, -, -⟩ := hd.cells
  have hcln := clone59_any (some ⟨y.gi, 0, none⟩) d.img y.cap w (by have := hg.few; omega) hg.sec (by
    have := (hd.img.rd 0).take (secs d.img).length
    simpa using this)
  have HG := Lib.hid hg
  refine (callsIn_wide (n := 9)).1 ?_
  refine callsIn_of_wp_marks Try.func110 rfl trivial ?_ rfl
  refine wpIn_wide.2 ?_
  simp only [Try.ntmps110, List.size_toArray, List.length_cons, List.length_nil, Nat.reduceAdd, Nat.reduceSub, Array.replicate_succ, Array.replicate_zero, List.push_toArray, List.append_toArray, List.nil_append, List.cons_append]
  go_wp2_with fail
  refine hcln.mono ?_
  rintro e w2 ⟨nv, rfl, hnx, hb2⟩
  obtain ⟨nn, nc, rfl, -, -, -, -, -⟩ := Row.shape hnx
  have hd2 := hd.gb hb2
  have hsome := hg.some
  obtain ⟨gn, rfl⟩ : ∃ gn, nn = some ⟨gn, 0, none⟩ := by
    rcases hnx.2 with ⟨h1, h0⟩ | ⟨g, cap, cur, h1, _⟩
    · omega
    · cases h1; exact ⟨g, rfl⟩
  have hgn := hnx.lt gn rfl
  obtain ⟨ja, jc, hvj, -, -, -, -, -⟩ := Row.shape hd2.jr
  have gA : GB w2 (w2.alloc (.cells #[.slice (some ⟨gn, 0, none⟩) d.img.length nc] 49)) := (Below.refl _ _).alloc (Nat.le_refl _) _
  have hB3 := Blk.new w2 [.slice (some ⟨gn, 0, none⟩) d.img.length nc] 49
  change Blk (w2.alloc (.cells #[.slice (some ⟨gn, 0, none⟩) d.img.length nc] 49)) _ _ _ at hB3
  have hnx3 := Row.gb hnx gA
  have hd3 := hd2.gb gA
  have hs3 : (w2.alloc (.cells #[.slice (some ⟨gn, 0, none⟩) d.img.length nc] 49)).heap.size = w2.heap.size + 1 := by simp
  obtain ⟨c0', c1', -, -⟩ := hd3.cells
  rw [hvj] at c1'
  have hg3 := GB.trans _ _ _ hb2 gA
  have c00 := hd2.cells.1
  clear hcln c0 c1
  go_wp2_with fail
  generalize w2.alloc (.cells #[.slice (some ⟨gn, 0, none⟩) d.img.length nc] 49) = w3 at *
  refine (backward_any ja _ jc w3).mono ?_
  rintro e w4 ⟨rfl, hw4⟩
  have gB : GB w3 w4 := hw4 ▸ (Below.refl _ _).alloc (Nat.le_refl _) _
  have hBx : Blk w4 w3.heap.size 50 [.slice ja d.jr.length jc] := hw4 ▸ Blk.new w3 [.slice ja d.jr.length jc] 50
  have hs4 : w4.heap.size = w3.heap.size + 1 := hw4 ▸ (by simp)
  clear hw4
  have hB4 := hB3.gb gB
  have hnx4 := Row.gb hnx3 gB
  have hd4 := hd3.gb gB
  have hg4 := GB.trans _ _ _ hg3 gB
  have hBk : BackAt ja jc (w2.heap.size + 1) d.jr w4 := by
    refine ⟨by have := hBx.cell 0; rw [hs3] at this; exact this, ?_⟩
    by_cases h0 : d.jr.length = 0
    · exact .inl h0
    · right
      have hjr := hd4.jr
      rw [hvj] at hjr
      obtain ⟨gj, rfl⟩ : ∃ gj, ja = some ⟨gj, 0, none⟩ := by
        rcases hjr.2 with ⟨h1, h2⟩ | ⟨g, cap, cur, h1, _⟩
        · omega
        · cases h1; exact ⟨g, rfl⟩
      obtain ⟨cur, hB, -, hnc, -, hcl, hct⟩ := Row.blk hjr
      exact ⟨gj, cur, rfl, hB, by rw [hcl]; exact Nat.mul_le_mul_right _ hnc, hct⟩
  have hjg : ∀ ad, ja = some ad → 0 < d.jr.length → ad.block < w4.heap.size ∧ ad.block ≠ gn := fun ad ha h0 => by
    have hlt := hd.jr.lt ad.block (by rw [hvj, ha]; rfl)
    have := hg4.size
    omega
  have h64 := HG.out.sec
  go_wp2_with fail
  refine (wpIn_wide (n := 9)).1 ?_
  refine wpIn_rangeFunc_ownH rfl (by decide) (gf := 143) (lb := #[.pointer (some ⟨w2.heap.size + 1, 0, none⟩)]) rfl trivial (enters_of Try.func143 (by kernel_rfl) rfl)
    (back_stops ja jc Fence.wide (9 - 1) trivial rfl (by decide) (w2.heap.size + 1) d.jr hj HG.out.ent (KeepsBut gn w4.heap.size) (fun A B hk hb => hk.back hb (by omega) (by omega) hjg) w4 hBk)
    (fun h k => KeepsBut.trans h k) ?hKb (Below.refl _ _) (fun _ => rfl)
    (fun pre W => (W.ownsRow w.heap.size 59 64 (.slice (some ⟨gn, 0, none⟩) d.img.length nc) d.img.length (secs (turnsL d.jr d.img pre)) ∧ Blk W w2.heap.size 49 [.slice (some ⟨gn, 0, none⟩) d.img.length nc] ∧ w4.heap.size ≤ W.heap.size) ∧ Below w.heap.size w W)
    (fun _ _ _ => False) ?hI (fun _ _ _ _ _ hs _ _ => hs) ⟨⟨hnx4, hB4, Nat.le_refl _⟩, hg4⟩
    (fun x a' W => ∃ Bx, w4.heap.size ≤ Bx ∧ Blk W Bx 151 (entV d.jr[x]) ∧ a' = {
      tmps :=
        #[Value.pointer (some { block := p, off := 0 }), undef, Value.slice none 0 0,
          Value.pointer (some { block := w2.heap.size, off := 0 }), undef, Value.pointer (some { block := Bx, off := 0 }),
          Value.pointer (some { block := p, off := 0 }), Value.pointer (some { block := p, off := 0 }),
          Value.pointer (some { block := p, off := 0 }),
          Value.slice (some { block := y.gi, off := 0 }) d.img.length y.cap,
          Value.slice (some { block := gn, off := 0 }) d.img.length nc, Value.pointer (some { block := p, off := 0 }),
          Value.pointer (some { block := p, off := 0 }), Value.pointer (some { block := p, off := 1 }),
          Value.slice ja d.jr.length jc,
          Value.func (Fn.func 143) #[] #[Value.pointer (some { block := w2.heap.size + 1, off := 0 })], .int .i64 (x.val : Nat), .agg (entV d.jr[x]).toArray,
          undef, undef, undef, undef, undef, undef, undef],
      defers := [] }) ?hAx ?assign ?body ?done ?stop
  case hKb =>
    intro W l o o' hl ho _ _
    refine ⟨by simp, fun k hk _ _ => World.putObj_heap_other (by omega)⟩
  case hI =>
    refine OwnFrom.and (Own.from (fun s A B row hs hgr hr => ?_) _) (ownFrom_below (Nat.le_refl _) hg4.size)
    obtain ⟨cur, hBl, -⟩ := Row.blk hs.1
    exact ⟨World.ownsRow.kept hs.1 hgr (.inr (blk_notrow hBl hr)), hs.2.1.grown hgr (blk_notrow hs.2.1 hr), Nat.le_trans hs.2.2 hgr.size⟩
  case hAx =>
    intro x a' s A B row hs hgr hr
    obtain ⟨Bx, h1, h2, h3⟩ := hs
    exact ⟨Bx, h1, h2.grown hgr (blk_notrow h2 (fun r e => (hr r e).2)), h3⟩
  case assign =>
    rintro l pre x W K ⟨⟨hrow, hB49, hsz⟩, hbel⟩ hK
    have hl65 : (entV d.jr[x]).length = 65 := HG.out.ent _ (List.getElem_mem x.isLt)
    have hE := entV_oneCell d.jr[x]
    unfold encB
    generalize entV d.jr[x] = E at *
    gi_wp2_with (first | with_reducible refine haltI_alloc 151 ?_)
    refine LI.val (by simp) rfl (by rfl) (X.allocZ rfl zero151) ?_
    simp only [Act.put, List.setIfInBounds_toArray, List.set_cons_zero, List.set_cons_succ]
    have hBn := Blk.newA W (Value.agg (entV (0, zeros 64)).toArray).cells 151
    refine LI.skip (by simp) rfl (by rfl) (X.storeS (vs := E) rfl info151s (by rfl) (by rfl) hBn (by rfl) hl65 hE) ?_
    simp only [Act.put]
    have gn1 : GB W (W.alloc (.cells (Value.agg (entV (0, zeros 64)).toArray).cells 151)) := (Below.refl _ _).alloc (Nat.le_refl _) _
    have gn2 : GB W ((W.alloc (.cells (Value.agg (entV (0, zeros 64)).toArray).cells 151)).setRow W.heap.size E.toArray) := gn1.grown (grown_row _ _ _) gn1.size (fun k hk => by cases hk; exact Nat.le_refl _)
    have hBm := hBn.row E
    generalize (W.alloc (.cells (Value.agg (entV (0, zeros 64)).toArray).cells 151)).setRow W.heap.size E.toArray = W2 at *
    gi_wp2
    exact hK _ _ ⟨gn2.size, fun k o _ h0 _ => (gn2.block k (Array.getElem?_eq_some_iff.1 h0).1).trans h0⟩ ⟨gn2.size, fun k _ _ h3 => gn2.block k h3⟩ ⟨⟨Row.gb hrow gn2, hB49.gb gn2, Nat.le_trans hsz gn2.size⟩, bgb hbel gn2 hbel.size⟩ ⟨W.heap.size, hsz, hBm, rfl⟩
  case body =>
    rintro l pre x a' W hl hrec ⟨⟨hrow, hB49, hsz⟩, hbel⟩ ⟨Bx, hBx2, hBB, rfl⟩ hlen
    obtain ⟨ncur, hnB, hnb, hnn, hncm, hncl, hnct⟩ := Row.blk hrow
    have hc49 := hB49.cell 0
    have hcx0 := hBB.cell 0
    have hin : (d.jr[x]).1 < d.img.length := HG.out.inn _ (List.getElem_mem x.isLt)
    have hl65 : (entV d.jr[x]).length = 65 := HG.out.ent _ (List.getElem_mem x.isLt)
    have h64p := turnsL_all64 d.jr HG.out.ent d.img HG.out.sec pre
    have hlnp := turnsL_length d.jr d.img pre
    have hsn := turnsL_snoc d.jr d.img pre x
    obtain ⟨N2, hN2⟩ : ∃ N2, turnsL d.jr d.img (pre ++ [x]) = N2 := ⟨_, rfl⟩
    rw [hN2] at hsn
    have HN2 := Lib.hid hN2
    clear hN2
    generalize turnsL d.jr d.img pre = N1 at *
    generalize d.jr[x] = E at *
    obtain ⟨ei, es⟩ := E
    rw [entV_length] at hl65
    simp only at hin hl65 hsn
    have hes : es.length = 64 := by omega
    have hat : ((entV (ei, es)).drop 1).take 64 = es.map b8 := by
      show (es.map b8).take 64 = _
      rw [List.take_of_length_le (by rw [List.length_map]; omega)]
    have hle1 : 1 + 64 ≤ (entV (ei, es)).length := by rw [entV_length]; simp only; omega
    have hnle : ei * 64 + 64 ≤ ncur.length := by
      have : ncur.length ≥ d.img.length * 64 := by rw [hncl]; exact Nat.mul_le_mul_right _ hnn
      omega
    have hset : (put ncur (ei * 64) (es.map b8)).take (d.img.length * 64) = secs N2 := by
      have hfs := fm_set (f := s8) (n := 64) h64p ei (by omega) es (by rw [s8_length]; exact hes)
      rw [hsn]
      rw [show secs (N1.set ei es) = (N1.set ei es).flatMap s8 from rfl, ← hfs]
      rw [show ncur = secs N1 ++ ncur.drop (d.img.length * 64) by rw [← hnct, List.take_append_drop]]
      rw [put_app _ _ _ _ (by rw [List.length_map, hes, secs_length h64p, hlnp]; omega)]
      have hpl3 : (put (secs N1) (ei * 64) (es.map b8)).length = d.img.length * 64 := by
        rw [put_length _ _ _ (by rw [List.length_map, hes, secs_length h64p, hlnp]; omega), secs_length h64p, hlnp]
      rw [List.take_append_of_le_length (by omega), List.take_of_length_le (by omega)]
      rfl
    have HSE := Lib.hid hset
    have HES := Lib.hid hes
    have HAT := Lib.hid hat
    change W.cell? ⟨Bx, 0, none⟩ = some (.int .i64 (ei : Nat)) at hcx0
    clear hset hes hat hnct hlnp hsn h64p hl65
    gi_wp2_with (first | with_reducible refine haltI_load 49 ?_)
    iterate 4 (refine LI.yields (v := ?_) (by simp) rfl (by rfl) (fun N hN => ?_) ?_; rotate_left; (go_simp; exact hN); simp only [Act.put, List.setIfInBounds_toArray, List.set_cons_zero, List.set_cons_succ])
    refine LI.val (by simp) rfl (by rfl) (X.loadAt (l := es) rfl (by rfl) Try.underlying59 info59 hBB HAT.out hle1) ?_
    simp only [Act.put, List.setIfInBounds_toArray, List.set_cons_zero, List.set_cons_succ]
    iterate 1 (refine LI.yields (v := ?_) (by simp) rfl (by rfl) (fun N hN => ?_) ?_; rotate_left; (go_simp; exact hN); simp only [Act.put, List.setIfInBounds_toArray, List.set_cons_zero, List.set_cons_succ])
    refine LI.skip (by simp) rfl (by rfl) (X.store (off := ei * 64) (l := es) rfl (by rfl) (by rfl) info59 hnB HES.out hnle) ?_
    simp only [Act.put]
    have hnB6 := hnB.row (put ncur (ei * 64) (es.map b8))
    have hG6 := grown_row W gn (put ncur (ei * 64) (es.map b8)).toArray
    have f6 : Fr (· = gn) W (W.setRow gn (put ncur (ei * 64) (es.map b8)).toArray) := Fr.of_grown hG6 (fun j hj => by cases hj; rfl)
    have hnr6 : (W.setRow gn (put ncur (ei * 64) (es.map b8)).toArray).ownsRow w.heap.size 59 64 (.slice (some ⟨gn, 0, none⟩) d.img.length nc) d.img.length (secs N2) :=
      Row.mk hnB6 hnb hnn hncm (by rw [put_length _ _ _ (by rw [List.length_map, HES.out]; omega)]; exact hncl) HSE.out
    have hb6 : Below w.heap.size w (W.setRow gn (put ncur (ei * 64) (es.map b8)).toArray) := hbel.grown hG6 hbel.size (fun j hj => by cases hj; exact hnb)
    have hk1 : ∀ k, k < W.heap.size → k ≠ gn → (W.setRow gn (put ncur (ei * 64) (es.map b8)).toArray).heap[k]? = W.heap[k]? := fun k h1 h2 => f6.block k h1 h2
    have hsz6 := f6.size
    have hB49' := f6.blk hB49 (by show ¬ w2.heap.size = gn; omega)
    generalize W.setRow gn (put ncur (ei * 64) (es.map b8)).toArray = W2 at *
    gi_wp2
    exact ⟨⟨hsz6, fun k o hk h0 _ => (hk1 k (Array.getElem?_eq_some_iff.1 h0).1 (by omega)).trans h0⟩, ⟨hsz6, fun k _ h2 h3 => hk1 k h3 h2⟩, ⟨by rw [HN2.out]; exact hnr6, hB49', Nat.le_trans hsz hsz6⟩, hb6⟩
  case done =>
    rintro D ys W hD rfl ⟨⟨hrow, hB49, hsz⟩, hbel⟩ hK
    have hc3 := hB49.cell 0
    have hlen := turnsL_length d.jr d.img (downN d.jr.length)
    rw [turns_all] at hrow hlen
    have hDs := hg4.size
    obtain ⟨cur, hBl, -⟩ := Row.blk hrow
    have hrow2 := World.ownsRow.kept hrow (grownBy_putObj' W D (.deferred none)) (.inr (blk_notrow hBl (fun r e => by cases e; exact ⟨_, hK, rfl⟩)))
    have hbel2 := hbel.trans (belowK_b (w := w) (Nat.le_refl _) W D _ (.deferred none) (by omega) hK rfl rfl)
    have HR : Hid (GivesSecs d.lasting w (.returned (.slice (some ⟨gn, 0, none⟩) d.img.length nc)) (W.putObj D (.deferred none))) := Lib.hid ⟨_, rfl, by rw [hlen]; exact hrow2, hbel2⟩
    clear hrow hrow2 hbel2 hlen
    go_wp2_with fail
    refine ⟨by simp, .inl ⟨_, _, rfl, run_takeDeferred hK, ?_⟩⟩
    refine ⟨_, results_tmp rfl _ _ _, ?_⟩
    exact HR.out
  case stop =>
    rintro D c pre W _ _ h _
    exact h.elim
/-- Sectors that can be read. -/
def SecsAt (w : World) (a : Option Addr) (l : List (List UInt8)) : Prop := l.length = 0 ∨ ∃ g cur, a = some ⟨g, 0, none⟩ ∧ Blk w g 59 cur ∧ l.length * 64 ≤ cur.length ∧ cur.take (l.length * 64) = secs l
theorem SecsAt.gb {w u : World} {a : Option Addr} {l : List (List UInt8)} (h : SecsAt w a l) (g : GB w u) : SecsAt u a l := by
  rcases h with h | ⟨b, cur, ha, hB, hl, ht⟩
  · exact .inl h
  · exact .inr ⟨b, cur, ha, hB.gb g, hl, ht⟩
theorem SecsAt.of_row {w : World} {base : Nat} {a : Option Addr} {c : Nat} {l : List (List UInt8)} (h : w.ownsRow base 59 64 (.slice a l.length c) l.length (secs l)) : SecsAt w a l := by
  by_cases h0 : l.length = 0
  · exact .inl h0
  · right
    obtain ⟨g, rfl⟩ : ∃ g, a = some ⟨g, 0, none⟩ := by
      rcases h.2 with ⟨h1, h2⟩ | ⟨g, cap, cur, h1, _⟩
      · omega
      · cases h1; exact ⟨g, rfl⟩
    obtain ⟨cur, hB, -, hnc, -, hcl, hct⟩ := Row.blk h
    exact ⟨g, cur, rfl, hB, by rw [hcl]; exact Nat.mul_le_mul_right _ hnc, hct⟩
theorem SecsAt.of_disk {w : World} {p : Nat} {d : DD} {F : Nat → Prop} {y : DLay} (h : DiskL w p d F y) (hm : All64 d.img) : SecsAt w (some ⟨y.gi, 0, none⟩) d.img := by
  have hl := secs_length hm
  exact .inr ⟨y.gi, _, rfl, h.img, by rw [List.length_append]; omega, by rw [← hl, List.take_left]⟩
theorem secs_at {l : List (List UInt8)} (h : All64 l) (i : Nat) (hi : i < l.length) (cur : List Value) (hc : cur.take (l.length * 64) = secs l) : (cur.drop (i * 64)).take 64 = l[i].map b8 := by
  have hle : i * 64 + 64 ≤ l.length * 64 := by omega
  have e : (cur.drop (i * 64)).take 64 = ((cur.take (l.length * 64)).drop (i * 64)).take 64 := by
    rw [List.drop_take, List.take_take, Nat.min_eq_left (by omega)]
  rw [e, hc]; exact fm_at h i hi
set_option maxHeartbeats 4000000 in
set_option maxRecDepth 100000 in
theorem equal59_any (a b : Option Addr) (l m : List (List UInt8)) (c d : Nat) (w : World) (hl : l.length ≤ 1000000) (hm : m.length ≤ 1000000) (hl64 : All64 l) (hm64 : All64 m) (ha : SecsAt w a l) (hb : SecsAt w b m) :
    Calls Try.prog 109 #[.slice a l.length c, .slice b m.length d] w fun e w' => e = .returned (.bool (l == m)) ∧ Below w.heap.size w w' := by
  by_cases hlen : l.length = m.length
  · have hlen' := Lib.hid hlen
    have hle : m.length ≤ l.length := by omega
    have hge : l.length ≤ m.length := by omega
    have ht : ((l.length : Int) != (m.length : Int)) = false := by simp; omega
    clear hlen
    go_enter Try.func109, Try.ntmps109
    go_wp2_with fail
    go_loopw [5, 13] (fun _ i wr => ∃ k : Nat, k ≤ l.length ∧ i = .int .i64 k ∧ Hid (l.take k = m.take k) ∧ Below w.heap.size w wr) (fun _ i _ => l.length - (intOf i).toNat)
    case atStart => exact ⟨0, by omega, rfl, by simp [Hid], Below.refl _ _⟩
    case round =>
      obtain ⟨k, hk, rfl, htk, hbel⟩ := hrel
      by_cases hlt : k < l.length
      · have hlt' : k < m.length := by omega
        obtain ⟨ga, ca, rfl, hBa, hla, hta⟩ := (ha.gb hbel).resolve_left (by omega)
        obtain ⟨gb, cb, rfl, hBb, hlb, htb⟩ := (hb.gb hbel).resolve_left (by omega)
        have ata := secs_at hl64 k hlt ca hta
        have atb := secs_at hm64 k hlt' cb htb
        have la := hl64.at k hlt
        have lb := hm64.at k hlt'
        have tk1 := List.take_succ_eq_append_getElem hlt
        have tk2 := List.take_succ_eq_append_getElem hlt'
        have T1 := Lib.hid tk1
        have T2 := Lib.hid tk2
        have hle1 : k * 64 + 64 ≤ ca.length := by omega
        have hle2 : k * 64 + 64 ≤ cb.length := by omega
        have hBad := hBa.gb (GB.drew wr)
        have hBbd := hBb.gb (GB.drew wr)
        have hne0 : l[k] ≠ m[k] → l ≠ m := fun h e => by subst e; exact h rfl
        have HNE := Lib.hid hne0
        obtain ⟨x, hx⟩ : ∃ x, l[k] = x := ⟨_, rfl⟩
        obtain ⟨y, hy⟩ : ∃ y, m[k] = y := ⟨_, rfl⟩
        rw [hx] at ata la T1 HNE
        rw [hy] at atb lb T2 HNE
        have ATA := Lib.hid ata
        have ATB := Lib.hid atb
        have LA := Lib.hid la
        have LB := Lib.hid lb
        clear tk1 tk2 ata atb la lb hne0 hx hy hta htb
        by_cases hne : x = y
        · have hq : (!(x == y)) = false := by simp [hne]
          have HE := Lib.hid hne
          clear hne
          go_upto_region 6 with fail
          refine region_gb [(0,0),(1,0),(2,0),(3,0),(4,0),(5,0),(6,0),(7,0),(8,0)] [] (by kernel_rfl) ?_
          iterate 3 (refine S0w (v := ?_) (by rfl) (by rfl) (fun u hu N hN => ?_) ?_; rotate_left; (go_simp; exact hN); simp only [Act.put, List.setIfInBounds_toArray, List.set_cons_zero, List.set_cons_succ])
          refine S0 (by rfl) (by rfl) (fun u hu => X.loadAt (l := x) rfl (by rfl) Try.underlying59 info59 (hBad.gb hu) ATA.out hle1) ?_
          simp only [Act.put, List.setIfInBounds_toArray, List.set_cons_zero, List.set_cons_succ]
          iterate 3 (refine S0w (v := ?_) (by rfl) (by rfl) (fun u hu N hN => ?_) ?_; rotate_left; (go_simp; exact hN); simp only [Act.put, List.setIfInBounds_toArray, List.set_cons_zero, List.set_cons_succ])
          refine S0 (by rfl) (by rfl) (fun u hu => X.loadAt (l := y) rfl (by rfl) Try.underlying59 info59 (hBbd.gb hu) ATB.out hle2) ?_
          simp only [Act.put, List.setIfInBounds_toArray, List.set_cons_zero, List.set_cons_succ]
          refine S0 (by rfl) (by rfl) (fun u hu => X.neq rfl (by rfl) (by rfl) Try.underlying59 guard59 LA.out LB.out) ?_
          simp only [Act.put, List.setIfInBounds_toArray, List.set_cons_zero, List.set_cons_succ]
          rw [hq]
          refine S.done ?_
          go_wp2_with fail
          go_roundw
          case rel => exact ⟨k + 1, by omega, by go_num, by show _ = _; rw [T1.out, T2.out, htk.out, HE.out], hbel.drew⟩
          case measure => simp [intOf]; omega
        · have hq : (!(x == y)) = true := by simp [hne]
          have hlm : (l == m) = false := by rw [beq_eq_false_iff_ne]; exact HNE.out hne
          have HLM := Lib.hid hlm
          clear hne hlm
          go_upto_region 6 with fail
          refine region_gb [(0,0),(1,0),(2,0),(3,0),(4,0),(5,0),(6,0),(7,0),(8,0)] [] (by kernel_rfl) ?_
          iterate 3 (refine S0w (v := ?_) (by rfl) (by rfl) (fun u hu N hN => ?_) ?_; rotate_left; (go_simp; exact hN); simp only [Act.put, List.setIfInBounds_toArray, List.set_cons_zero, List.set_cons_succ])
          refine S0 (by rfl) (by rfl) (fun u hu => X.loadAt (l := x) rfl (by rfl) Try.underlying59 info59 (hBad.gb hu) ATA.out hle1) ?_
          simp only [Act.put, List.setIfInBounds_toArray, List.set_cons_zero, List.set_cons_succ]
          iterate 3 (refine S0w (v := ?_) (by rfl) (by rfl) (fun u hu N hN => ?_) ?_; rotate_left; (go_simp; exact hN); simp only [Act.put, List.setIfInBounds_toArray, List.set_cons_zero, List.set_cons_succ])
          refine S0 (by rfl) (by rfl) (fun u hu => X.loadAt (l := y) rfl (by rfl) Try.underlying59 info59 (hBbd.gb hu) ATB.out hle2) ?_
          simp only [Act.put, List.setIfInBounds_toArray, List.set_cons_zero, List.set_cons_succ]
          refine S0 (by rfl) (by rfl) (fun u hu => X.neq rfl (by rfl) (by rfl) Try.underlying59 guard59 LA.out LB.out) ?_
          simp only [Act.put, List.setIfInBounds_toArray, List.set_cons_zero, List.set_cons_succ]
          rw [hq]
          refine S.done ?_
          go_wp2_with fail
          go_ret
          exact ⟨by rw [HLM.out]; rfl, hbel.drew⟩
      · have hlm : (l == m) = true := by
          have h1 := htk.out
          rw [List.take_of_length_le (by omega), List.take_of_length_le (by omega)] at h1
          rw [beq_iff_eq]; exact h1
        have HLM := Lib.hid hlm
        clear hlm
        go_wp2_with fail
        go_ret
        exact ⟨by rw [HLM.out]; rfl, hbel⟩
  · have ht : ((l.length : Int) != (m.length : Int)) = true := by rw [bne_iff_ne]; omega
    have hlm : (l == m) = false := by
      rw [beq_eq_false_iff_ne]; rintro rfl; exact hlen rfl
    go_enter Try.func109, Try.ntmps109
    go_wp2_with fail
    go_ret
    exact ⟨by rw [hlm]; rfl, Below.refl _ _⟩
def DD.same (d e : DD) : Bool := (d.img == e.img) && (d.lasting == e.lasting)
theorem lasting_length (d : DD) : d.lasting.length = d.img.length := by rw [← turns_all, turnsL_length]
theorem lasting_all64 (d : DD) (hg : DGood d) : All64 d.lasting := by rw [← turns_all]; exact turnsL_all64 _ hg.ent _ hg.sec _
set_option maxHeartbeats 4000000 in
set_option maxRecDepth 100000 in
theorem same_any (p q : Nat) (d e : DD) (F G : Nat → Prop) (w : World) (h : DiskAt w p d F) (hg : DGood d) (hj : d.jr.length ≤ 1000000) (h' : DiskAt w q e G) (hg' : DGood e) (hj' : e.jr.length ≤ 1000000) :
    Calls Try.prog 49 #[.pointer (some ⟨p, 0, none⟩), .pointer (some ⟨q, 0, none⟩)] w fun x w' => x = .returned (.bool (d.same e)) ∧ GB w w' := by
  have hs := Lib.hid (sectors_any p d F w h)
  have hs' := Lib.hid (sectors_any q e G w h')
  have hz : ((d.img.length : Int) == 0) = false := by rw [beq_eq_false_iff_ne]; have := hg.some; omega
  have hz' : ((e.img.length : Int) == 0) = false := by rw [beq_eq_false_iff_ne]; have := hg'.some; omega
  have HL := Lib.hid (fun u (g : GB w u) => lasting_any p d F u (h.gb g) hg hj)
  have HL' := Lib.hid (fun u (g : GB w u) => lasting_any q e G u (h'.gb g) hg' hj')
  obtain ⟨y, hd⟩ := h
  obtain ⟨y', hd'⟩ := h'
  have hS := SecsAt.of_disk hd hg.sec
  have hS' := SecsAt.of_disk hd' hg'.sec
  have hc := hd.blk
  have hc' := hd'.blk
  have hfew := hg.few
  have hfew' := hg'.few
  have HE := Lib.hid (fun u (g : GB w u) => equal59_any (some ⟨y.gi, 0, none⟩) (some ⟨y'.gi, 0, none⟩) d.img e.img y.cap y'.cap u (by omega) (by omega) hg.sec hg'.sec (hS.gb g) (hS'.gb g))
  have HF := Lib.hid (fun u (a b : Option Addr) (c c' : Nat) (h1 : SecsAt u a d.lasting) (h2 : SecsAt u b e.lasting) => equal59_any a b d.lasting e.lasting c c' u (by rw [lasting_length]; omega) (by rw [lasting_length]; omega) (lasting_all64 d hg) (lasting_all64 e hg') h1 h2)
  have HSM : Hid (d.same e = ((d.img == e.img) && (d.lasting == e.lasting))) := Lib.hid rfl
  clear hS hS' hfew hfew'
  go_enter Try.func49, Try.ntmps49
  go_wp2_with fail
  refine hs.out.mono ?_
  rintro _ _ ⟨rfl, rfl⟩
  go_wp2_with fail
  refine hs'.out.mono ?_
  rintro _ _ ⟨rfl, rfl⟩
  go_upto_region 3 with fail
  have gd := GB.drew w
  have C0 : ∀ u, GB w.drew u → u.cell? ⟨p, 0, none⟩ = some (.slice (some ⟨y.gi, 0, none⟩) d.img.length y.cap) := fun u hu => ((hc.gb gd).gb hu).cell 0
  have C1 : ∀ u, GB w.drew u → u.cell? ⟨q, 0, none⟩ = some (.slice (some ⟨y'.gi, 0, none⟩) e.img.length y'.cap) := fun u hu => ((hc'.gb gd).gb hu).cell 0
  refine region_gb [(0,0),(1,0),(2,0),(3,0),(4,0),(5,0),(6,0),(7,0),(8,1),(9,0),(10,0),(12,0),(11,1),(13,1),(14,1),(15,0),(16,2)] [16] (by kernel_rfl) ?_
  iterate 8 (refine S0w (v := ?_) (by rfl) (by rfl) (fun u hu N hN => ?_) ?_; rotate_left; (go_simp; exact hN); simp only [Act.put, List.setIfInBounds_toArray, List.set_cons_zero, List.set_cons_succ])
  refine S1 (by rfl) (by rfl) (fun K hK => ?_)
  go_wp2_with fail
  refine (HE.out _ gd).mono ?_
  rintro x w2 ⟨rfl, hb2⟩
  refine hK _ _ hb2 ?_
  clear hK K C0 C1
  have g2 := GB.trans _ _ _ gd hb2
  cases hq : (d.img == e.img)
  · have HQ : Hid (d.same e = false) := Lib.hid (by rw [HSM.out, hq]; rfl)
    clear hq
    iterate 1 (refine S0w (v := ?_) (by rfl) (by rfl) (fun u hu N hN => ?_) ?_; rotate_left; (go_simp; exact hN); simp only [Act.put, List.setIfInBounds_toArray, List.set_cons_zero, List.set_cons_succ])
    iterate 2 (refine S0n (by rfl) (by rfl) ?_; simp only [Act.put, List.setIfInBounds_toArray, List.set_cons_zero, List.set_cons_succ])
    iterate 3 (refine S1n GB.refl (by rfl) (by rfl) ?_; simp only [Act.put, List.setIfInBounds_toArray, List.set_cons_zero, List.set_cons_succ])
    iterate 1 (refine S0w (v := ?_) (by rfl) (by rfl) (fun u hu N hN => ?_) ?_; rotate_left; (go_simp; exact hN); simp only [Act.put, List.setIfInBounds_toArray, List.set_cons_zero, List.set_cons_succ])
    refine S2 (by rfl) (by rfl) (fun K hK => ?_)
    go_wp2_with fail
    refine S.done ?_
    go_wp2_with fail
    go_ret
    exact ⟨by rw [HQ.out]; rfl, g2⟩
  · have HQ : Hid (d.same e = (d.lasting == e.lasting)) := Lib.hid (by rw [HSM.out, hq]; rfl)
    clear hq
    iterate 3 (refine S0w (v := ?_) (by rfl) (by rfl) (fun u hu N hN => ?_) ?_; rotate_left; (go_simp; exact hN); simp only [Act.put, List.setIfInBounds_toArray, List.set_cons_zero, List.set_cons_succ])
    refine S1 (by rfl) (by rfl) (fun K hK => ?_)
    go_wp2_with fail
    refine (HL.out _ g2).mono ?_
    rintro x w3 ⟨v1, rfl, hr1, hb3⟩
    refine hK _ _ hb3 ?_
    clear hK K
    have g3 := GB.trans _ _ _ g2 hb3
    refine S1 (by rfl) (by rfl) (fun K hK => ?_)
    go_wp2_with fail
    refine (HL'.out _ g3).mono ?_
    rintro x w4 ⟨v2, rfl, hr2, hb4⟩
    refine hK _ _ hb4 ?_
    clear hK K
    have g4 := GB.trans _ _ _ g3 hb4
    obtain ⟨a1, c1, rfl, -, -, -, -, -⟩ := Row.shape hr1
    obtain ⟨a2, c2, rfl, -, -, -, -, -⟩ := Row.shape hr2
    have hS1 := (SecsAt.of_row hr1).gb hb4
    have hS2 := SecsAt.of_row hr2
    refine S1 (by rfl) (by rfl) (fun K hK => ?_)
    go_wp2_with fail
    refine (HF.out w4 a1 a2 c1 c2 hS1 hS2).mono ?_
    rintro x w5 ⟨rfl, hb5⟩
    refine hK _ _ hb5 ?_
    clear hK K hr1 hr2 hS1 hS2
    iterate 1 (refine S0w (v := ?_) (by rfl) (by rfl) (fun u hu N hN => ?_) ?_; rotate_left; (go_simp; exact hN); simp only [Act.put, List.setIfInBounds_toArray, List.set_cons_zero, List.set_cons_succ])
    refine S2 (by rfl) (by rfl) (fun K hK => ?_)
    go_wp2_with fail
    refine S.done ?_
    go_wp2_with fail
    go_ret
    exact ⟨by rw [HQ.out]; rfl, GB.trans _ _ _ g4 hb5⟩
/-! ### Copy -/
theorem info52 : (Try.prog.info? 52).map (·.size) = some 4 := by kernel_rfl
theorem zero52 : (Try.prog.info? 52).map (·.zero) = some (some (.agg #[.slice none 0 0, .slice none 0 0, .int .i64 0, .bool false])) := by kernel_rfl
def GivesCopyD (d : DD) (w : World) (e : Ending) (w' : World) : Prop := ∃ g F, e = .returned (.pointer (some ⟨g, 0, none⟩)) ∧ DiskAt w' g d F ∧ GB w w' ∧ ∀ k, F k → w.heap.size ≤ k
set_option maxHeartbeats 4000000 in
set_option maxRecDepth 100000 in
theorem copyd_any (p : Nat) (d : DD) (F : Nat → Prop) (w : World) (h : DiskAt w p d F) (hg : DGood d) (hj : d.jr.length ≤ 1000000) : Calls Try.prog 46 #[.pointer (some ⟨p, 0, none⟩)] w (GivesCopyD d w) := by
  have hs := Lib.hid (sectors_any p d F w h)
  have hz : ((d.img.length : Int) == 0) = false := by rw [beq_eq_false_iff_ne]; have := hg.some; omega
  obtain ⟨y, hd⟩ := h
  obtain ⟨ja, jc, hvj, hjrd, -, -, -, -⟩ := Row.shape hd.jr
  have hblk := hd.blk
  rw [hvj] at hblk
  have hsome := hg.some
  have hfew := hg.few
  have HC1 := Lib.hid (fun u (g : GB w u) => clone59_any (some ⟨y.gi, 0, none⟩) d.img y.cap u (by omega) hg.sec (g.rd (by
    have := (hd.img.rd 0).take (secs d.img).length
    simpa using this)))
  have HC2 := Lib.hid (fun u (g : GB w u) => clone151_any ja d.jr jc u (by omega) hg.ent (g.rd hjrd))
  have hcap := hd.cap
  clear hjrd
  go_enter Try.func46, Try.ntmps46
  go_wp2_with fail
  refine hs.out.mono ?_
  rintro _ _ ⟨rfl, rfl⟩
  go_wp2_with (first | with_reducible refine halt_load 52 ?_ | with_reducible refine halt_alloc 52 ?_ | with_reducible refine halt_store 52 ?_)
  refine L.val (by rfl) (X.loadS (l := [.slice (some ⟨y.gi, 0, none⟩) d.img.length y.cap, .slice ja d.jr.length jc, .int .i64 d.left, .bool d.dead]) rfl (by rfl) Try.underlying52 info52 hblk rfl (by simp)) ?_
  simp only [Act.put, List.setIfInBounds_toArray, List.set_cons_zero, List.set_cons_succ]
  go_wp2_with (first | with_reducible refine halt_load 52 ?_ | with_reducible refine halt_alloc 52 ?_ | with_reducible refine halt_store 52 ?_)
  refine L.allocZ rfl zero52 (by rfl) ?_
  intro w1 hA1 hG1
  simp only [Act.put, List.setIfInBounds_toArray, List.set_cons_zero, List.set_cons_succ]
  go_wp2_with (first | with_reducible refine halt_load 52 ?_ | with_reducible refine halt_alloc 52 ?_ | with_reducible refine halt_store 52 ?_)
  refine L.storeS (vs := [.slice (some ⟨y.gi, 0, none⟩) d.img.length y.cap, .slice ja d.jr.length jc, .int .i64 d.left, .bool d.dead]) rfl info52 (by rfl) (by rfl) hA1 rfl rfl (by simp [Value.oneCell']) (by rfl) ?_
  intro w2 hN2 hG2
  simp only [Act.put]
  have hg2 : GB w w2 := hG1.grown hG2 hG1.size (fun k hk => by cases hk; exact Nat.le_refl _)
  have hb2 := Blk.gb hblk hg2
  have hpw := hd.bnd p hd.cov.1
  clear hA1 hG1 hG2
  go_upto_region 4 with fail
  have hgd := GB.trans _ _ _ hg2 (GB.drew w2)
  have hbd := Blk.gb hb2 (GB.drew w2)
  have hNd := Blk.gb hN2 (GB.drew w2)
  have C0 : ∀ u, GB w2.drew u → u.cell? ⟨p, 0, none⟩ = some (.slice (some ⟨y.gi, 0, none⟩) d.img.length y.cap) := fun u hu => (hbd.gb hu).cell 0
  have C1 : ∀ u, GB w2.drew u → u.cell? ⟨p, 1, none⟩ = some (.slice ja d.jr.length jc) := fun u hu => (hbd.gb hu).cell 1
  refine region_gb [(0,0),(1,0),(2,0),(3,0),(5,0),(6,0),(7,0),(8,0),(4,1),(9,1),(10,0),(11,2),(12,1),(13,2)] [11,13] (by kernel_rfl) ?_
  iterate 8 (refine S0w (v := ?_) (by rfl) (by rfl) (fun u hu N hN => ?_) ?_; rotate_left; (go_simp; exact hN); simp only [Act.put, List.setIfInBounds_toArray, List.set_cons_zero, List.set_cons_succ])
  refine S1 (by rfl) (by rfl) (fun K hK => ?_)
  go_wp2_with fail
  refine (HC1.out _ hgd).mono ?_
  rintro e w3 ⟨x, rfl, hx, hb3⟩
  refine hK _ _ hb3 ?_
  clear hK K C0 C1
  have hg3 := GB.trans _ _ _ hgd hb3
  have hN3 := hNd.gb hb3
  refine S1 (by rfl) (by rfl) (fun K hK => ?_)
  go_wp2_with fail
  refine (HC2.out _ hg3).mono ?_
  rintro e w4 ⟨z, rfl, hzr, hb4⟩
  refine hK _ _ hb4 ?_
  clear hK K
  have hg4 := GB.trans _ _ _ hg3 hb4
  have hN4 := hN3.gb hb4
  have hx4 := Row.gb hx hb4
  have hsx := hx.lt
  have hsz := hzr.lt
  have hNl := hNd.lt
  have hsz3 := hb3.size
  have hsz4 := hb4.size
  clear hN3 hNd hbd hb2 hN2
  obtain ⟨xa, xc, rfl, -, -, -, -, -⟩ := Row.shape hx4
  obtain ⟨za, zc, rfl, -, -, -, -, -⟩ := Row.shape hzr
  obtain ⟨gx, rfl⟩ : ∃ gx, xa = some ⟨gx, 0, none⟩ := by
    rcases hx4.2 with ⟨h1, h0⟩ | ⟨g, cap, cur, h1, _⟩
    · omega
    · cases h1; exact ⟨g, rfl⟩
  have hgx := hsx gx rfl
  iterate 1 (refine S0w (v := ?_) (by rfl) (by rfl) (fun u hu N hN => ?_) ?_; rotate_left; (go_simp; exact hN); simp only [Act.put, List.setIfInBounds_toArray, List.set_cons_zero, List.set_cons_succ])
  have nf := fun j => hN4.frozen j
  have n0 := hN4.cell 0
  have n1 := hN4.cell 1
  refine S2 (by rfl) (by rfl) (fun K hK => ?_)
  go_wp2_with fail
  refine S1 (by rfl) (by rfl) (fun K hK => ?_)
  go_wp2_with fail
  refine hK _ _ (GB.refl _) ?_
  clear hK K
  refine S2 (by rfl) (by rfl) (fun K hK => ?_)
  go_wp2_with fail
  refine S.done ?_
  have hN5 := (hN4.set 0 (.slice (some ⟨gx, 0, none⟩) d.img.length xc)).set 1 (.slice za d.jr.length zc)
  have f5 : Fr (· = w.heap.size) w4 ((w4.setCell ⟨w.heap.size, 0, none⟩ (.slice (some ⟨gx, 0, none⟩) d.img.length xc)).setCell ⟨w.heap.size, 1, none⟩ (.slice za d.jr.length zc)) := ((Fr.refl (· = w.heap.size) w4).setCell _ _ _ (.inl rfl)).setCell _ _ _ (.inl rfl)
  generalize (w4.setCell ⟨w.heap.size, 0, none⟩ (.slice (some ⟨gx, 0, none⟩) d.img.length xc)).setCell ⟨w.heap.size, 1, none⟩ (.slice za d.jr.length zc) = w5 at *
  change Blk w5 w.heap.size 52 [.slice (some ⟨gx, 0, none⟩) d.img.length xc, .slice za d.jr.length zc, .int .i64 d.left, .bool d.dead] at hN5
  have hx5 := f5.row hx4 (fun k hk h => by have := hsx k hk; omega)
  have hz5 := f5.row hzr (fun k hk h => by have := hsz k hk; omega)
  have hg5 : GB w w5 := Below.trans hg4 (f5.below (fun k _ hk => by omega) hg4.size)
  have hs5 := f5.size
  obtain ⟨cur, hB, -, hnc, hcm, hcl, hct⟩ := Row.blk hx5
  have HD : Hid (DiskAt w5 w.heap.size d (fun k => k = w.heap.size ∨ k = gx ∨ (Value.slice za d.jr.length zc).ownBlock = some k)) := Lib.hid ⟨⟨gx, xc, .slice za d.jr.length zc, cur.drop (d.img.length * 64)⟩, hN5, by
      show Blk w5 gx 59 (secs d.img ++ cur.drop (d.img.length * 64))
      rw [← hct, List.take_append_drop]; exact hB, ⟨hnc, hcm⟩, Row.mono hz5 (Nat.zero_le _), ⟨by show gx ≠ w.heap.size; omega, fun e => by have := hsz _ e; omega, fun e => by have := hsz gx e; omega⟩, ⟨.inl rfl, .inr (.inl rfl), fun k hk => .inr (.inr hk)⟩, fun k hk => by
      rcases hk with rfl | rfl | hk
      · omega
      · omega
      · have := hsz k hk; omega⟩
  have HB : Hid (∀ k, (k = w.heap.size ∨ k = gx ∨ (Value.slice za d.jr.length zc).ownBlock = some k) → w.heap.size ≤ k) := Lib.hid (fun k hk => by
      rcases hk with rfl | rfl | hk
      · exact Nat.le_refl _
      · omega
      · have := hsz k hk; omega)
  clear n0 n1 nf hN4 hx4 hzr hN5 hx5 hz5 hB
  go_wp2_with fail
  go_ret
  exact ⟨w.heap.size, _, rfl, HD.out, hg5, HB.out⟩
end Go.Proofs.Ytiihllfjlgbfcaa
