/- The walk of a disk's Open. -/
import Derived.Test.YtiihllfjlgbfcaaDOpen
import Derived.Test.YtiihllfjlgbfcaaNOf
namespace Go.Proofs.Ytiihllfjlgbfcaa
open Go.RowKit
/-! ### Sorted rows of ints -/
def lowI (l : List Int) (x : Int) : Nat := (l.takeWhile (fun y => decide (y < x))).length
def addS (l : List Int) (x : Int) : List Int := if l[lowI l x]? == some x then l else insAt l (lowI l x) x
def openL (jr : List (Nat × List UInt8)) : List Int := jr.foldl (fun l e => addS l e.1) []
theorem lowI_le (l : List Int) (x : Int) : lowI l x ≤ l.length := (List.takeWhile_prefix _).length_le
theorem lowI_lt (l : List Int) (x : Int) (i : Nat) (h : i < l.length) (hi : i < lowI l x) : l[i] < x := by
  have : (l.takeWhile (fun y => decide (y < x)))[i]'hi = l[i] := by
    have := List.takeWhile_prefix (l := l) (fun y => decide (y < x))
    exact List.IsPrefix.getElem this hi
  have hm := List.all_eq_true.1 (List.all_takeWhile (l := l) (p := fun y => decide (y < x))) _ (List.getElem_mem hi)
  rw [this] at hm
  simpa using hm
theorem lowI_ge (l : List Int) (x : Int) (hs : l.Pairwise (· < ·)) (i : Nat) (h : i < l.length) (hi : lowI l x ≤ i) : ¬ l[i] < x := by
  have hlt : lowI l x < l.length := by omega
  have h0 : ¬ l[lowI l x] < x := by
    intro hc
    have := List.takeWhile_append_dropWhile (p := fun y => decide (y < x)) (l := l)
    have hd : (l.dropWhile (fun y => decide (y < x))) ≠ [] := by
      intro e
      rw [e, List.append_nil] at this
      have h2 : lowI l x = l.length := by unfold lowI; rw [this]
      omega
    have h3 := List.head_dropWhile_not (fun y => decide (y < x)) hd
    have h4 : (l.dropWhile (fun y => decide (y < x))).head hd = l[lowI l x] := by
      rw [List.head_eq_getElem]
      have h5a : (l.takeWhile (fun y => decide (y < x)) ++ l.dropWhile (fun y => decide (y < x)))[(l.takeWhile (fun y => decide (y < x))).length]? = some ((l.dropWhile (fun y => decide (y < x)))[0]'(List.length_pos_iff.2 hd)) := by
        rw [List.getElem?_append_right (Nat.le_refl _), Nat.sub_self, List.getElem?_eq_getElem]
      rw [this] at h5a
      have h5 : l[lowI l x]? = some ((l.dropWhile (fun y => decide (y < x)))[0]'(List.length_pos_iff.2 hd)) := h5a
      rw [List.getElem?_eq_getElem hlt] at h5
      exact (Option.some.inj h5).symm
    rw [h4] at h3
    simp at h3; omega
  by_cases e : lowI l x = i
  · subst e; exact h0
  · have := List.pairwise_iff_getElem.1 hs (lowI l x) i hlt h (by omega)
    omega
theorem addS_length (l : List Int) (x : Int) : (addS l x).length ≤ l.length + 1 := by
  unfold addS; split
  · omega
  · rw [insAt_length]; exact Nat.le_refl _
theorem addS_sorted (l : List Int) (x : Int) (hs : l.Pairwise (· < ·)) : (addS l x).Pairwise (· < ·) := by
  unfold addS
  split
  · exact hs
  · rename_i hne
    have hp := lowI_le l x
    unfold insAt
    rw [List.pairwise_append]
    refine ⟨hs.sublist (List.take_sublist _ _), ?_, ?_⟩
    · rw [List.pairwise_cons]
      refine ⟨fun y hy => ?_, hs.sublist (List.drop_sublist _ _)⟩
      obtain ⟨j, hj, rfl⟩ := List.getElem_of_mem hy
      rw [List.getElem_drop]
      have hjl : lowI l x + j < l.length := by rw [List.length_drop] at hj; omega
      have h1 := lowI_ge l x hs (lowI l x + j) hjl (by omega)
      have h2 : l[lowI l x + j] ≠ x := by
        intro e
        by_cases hj0 : j = 0
        · subst hj0
          apply hne
          rw [List.getElem?_eq_getElem (by omega)]
          simp at e; simp [e]
        · have h3 := List.pairwise_iff_getElem.1 hs (lowI l x) (lowI l x + j) (by omega) hjl (by omega)
          have h4 := lowI_ge l x hs (lowI l x) (by omega) (Nat.le_refl _)
          omega
      omega
    · intro a ha b hb
      obtain ⟨j, hj, rfl⟩ := List.getElem_of_mem ha
      rw [List.getElem_take]
      have hjl : j < l.length := by rw [List.length_take] at hj; omega
      have h1 := lowI_lt l x j hjl (by rw [List.length_take] at hj; omega)
      rcases List.mem_cons.1 hb with rfl | hb
      · exact h1
      · obtain ⟨m, hm, rfl⟩ := List.getElem_of_mem hb
        rw [List.getElem_drop]
        exact List.pairwise_iff_getElem.1 hs j _ hjl (by rw [List.length_drop] at hm; omega) (by rw [List.length_take] at hj; omega)
theorem openL_snoc (jr : List (Nat × List UInt8)) (e : Nat × List UInt8) : openL (jr ++ [e]) = addS (openL jr) e.1 := by simp [openL]
theorem openL_take (jr : List (Nat × List UInt8)) (k : Nat) (h : k < jr.length) : openL (jr.take (k + 1)) = addS (openL (jr.take k)) jr[k].1 := by
  rw [List.take_succ_eq_append_getElem h, openL_snoc]
theorem foldl_sorted (jr : List (Nat × List UInt8)) : ∀ l : List Int, l.Pairwise (· < ·) → (jr.foldl (fun l e => addS l e.1) l).Pairwise (· < ·) := by
  induction jr with
  | nil => intro l h; exact h
  | cons e jr ih => intro l h; exact ih _ (addS_sorted l _ h)
theorem openL_sorted (jr : List (Nat × List UInt8)) : (openL jr).Pairwise (· < ·) := foldl_sorted jr [] List.Pairwise.nil
theorem foldl_length (jr : List (Nat × List UInt8)) : ∀ l : List Int, (jr.foldl (fun l e => addS l e.1) l).length ≤ l.length + jr.length := by
  induction jr with
  | nil => intro l; simp
  | cons e jr ih => intro l; have := ih (addS l e.1); have := addS_length l e.1; simp only [List.foldl_cons, List.length_cons]; omega
theorem openL_length (jr : List (Nat × List UInt8)) : (openL jr).length ≤ jr.length := by have := foldl_length jr []; simpa [openL] using this
/-! ### The walk -/
section
variable {ρ : Operand → Value} {o : Oper} {w : World}
/-- A struct is loaded. -/
theorem X.loadS {T U : TypeId} {n g off : Nat} {x : Operand} {cs l : List Value} {fs : Array Field} (ho : o.op = .load U x) (hx : ρ x = .pointer (some ⟨g, off, none⟩)) (hU : Try.prog.underlying U = some (.struct fs)) (hs : (Try.prog.info? U).map (·.size) = some n)
    (hB : Blk w g T cs) (hl : (cs.drop off).take n = l) (hn : off + n ≤ cs.length) : (execOp ρ o).run Try.prog w = .ok (.value (.agg l.toArray)) w := by
  have := run_load_part (P := Try.prog) (o := off) hB hU rfl hs hn
  unfold execOp; rw [ho]
  simp only [hx, Sem.run_bind, this, Result.andThen_ok, Sem.run_pure, hl]
end
section
variable {ops : Array Oper} {Q : Exit → Act → World → Prop} {rest : List Oper} {o : Oper} {a : Act} {w : World}
/-- A variable of any type is laid. -/
theorem L.allocZ {T : TypeId} {z : Value} (ho : o.op = .alloc T) (hz : (Try.prog.info? T).map (·.zero) = some (some z)) (hw : Region.wanted o (yielded ops a.tmps) = true)
    (h : ∀ w', Blk w' w.heap.size T z.cells.toList → GB w w' → wpList Try.prog ops Q rest (a.put o.dst (.pointer (some ⟨w.heap.size, 0, none⟩))) w') : wpList Try.prog ops Q (o :: rest) a w := by
  refine L.val (w' := w.alloc (.cells z.cells T)) (v := .pointer (some ⟨w.heap.size, 0, none⟩)) hw ?_ (h _ (Blk.newA w z.cells T) ((Below.refl _ _).alloc (Nat.le_refl _) _))
  unfold execOp; rw [ho]
  simp only [Instr.alloc, Sem.run_bind, run_zero hz, Result.andThen_ok]
  rfl
end
theorem zero151 : (Try.prog.info? 151).map (·.zero) = some (some (.agg (entV (0, zeros 64)).toArray)) := by kernel_rfl
theorem entV_len (sn : Nat) (sb : List UInt8) (h : sb.length + 1 = 65) : (entV (sn, sb)).length = 65 := by rw [entV_length]; exact h
theorem info151s : (Try.prog.info? 151).map (·.size) = some 65 := by kernel_rfl
theorem ents_at {l : List (Nat × List UInt8)} (h : All65 l) (i : Nat) (hi : i < l.length) (cur : List Value) (hc : cur.take (l.length * 65) = ents l) : (cur.drop (i * 65)).take 65 = entV l[i] := by
  have e : (cur.drop (i * 65)).take 65 = ((cur.take (l.length * 65)).drop (i * 65)).take 65 := by
    rw [List.drop_take, List.take_take, Nat.min_eq_left (by omega)]
  rw [e, hc]
  exact fm_at h i hi
/-- The journal's block. -/
theorem DiskL.jblk {w : World} {p : Nat} {d : DD} {F : Nat → Prop} {y : DLay} (h : DiskL w p d F y) (h0 : 0 < d.jr.length) : ∃ gj c cur, y.vj = .slice (some ⟨gj, 0, none⟩) d.jr.length c ∧ Blk w gj 151 cur ∧ cur.take (d.jr.length * 65) = ents d.jr ∧ d.jr.length * 65 ≤ cur.length := by
  have hj := h.jr
  rcases hj.2 with ⟨_, h1⟩ | ⟨g, c, cur, hv, hb, hg, hnc, hcm, hs, ht⟩
  · omega
  · exact ⟨g, c, cur.toList, hv, by unfold Blk; rw [hg], ht, by rw [Array.length_toList, hs]; exact Nat.mul_le_mul_right _ hnc⟩
def GivesInts (L : List Int) (w : World) (e : Ending) (w' : World) : Prop := ∃ v, e = .returned v ∧ w'.ownsRow w.heap.size 3 1 v L.length (L.map bI) ∧ Below w.heap.size w w'
theorem dopen_no (v : Value) (w : World) (h : NoDisk w v) : Calls Try.prog 48 #[v] w fun e w' => e = .returned (.slice none 0 0) ∧ w = w' := by
  rcases h with rfl | ⟨g, rfl, hb⟩
  · go_enter Try.func48, Try.ntmps48
    go_wp2_with fail
    go_ret
    exact ⟨rfl, rfl⟩
  · have c0 := hb.cell 1
    go_enter Try.func48, Try.ntmps48
    go_wp2_with fail
    go_loop [2, 14] (fun l x => l = .slice none 0 0 ∧ x = .int .i64 0) (fun _ _ => 0)
    case atStart => exact ⟨rfl, rfl⟩
    case round =>
      obtain ⟨rfl, rfl⟩ := hrel
      go_wp2_with fail
      go_ret
      exact ⟨rfl, rfl⟩
set_option maxHeartbeats 4000000 in
set_option maxRecDepth 100000 in
theorem dopen_any (p : Nat) (d : DD) (F : Nat → Prop) (w : World) (h : DiskAt w p d F) (hg : DGood d) (hj : d.jr.length ≤ 1000000) :
    Calls Try.prog 48 #[.pointer (some ⟨p, 0, none⟩)] w (GivesInts (openL d.jr) w) := by
  obtain ⟨y, hd⟩ := h
  obtain ⟨va, vc, hva, -, -, -, -, -⟩ := Row.shape hd.jr
  have c1 := hd.cells.2.1
  rw [hva] at c1
  go_enter Try.func48, Try.ntmps48
  go_wp2_with fail
  go_loopw [2, 14] (fun l i wr => ∃ k : Nat, i = .int .i64 k ∧ k ≤ d.jr.length ∧ wr.ownsRow w.heap.size 3 1 l (openL (d.jr.take k)).length ((openL (d.jr.take k)).map bI) ∧ GB w wr) (fun _ i _ => d.jr.length - (intOf i).toNat)
  case atStart => exact ⟨0, rfl, by omega, by simpa [openL] using World.ownsRow_nil _ _ _ _, GB.refl _⟩
  case round =>
    obtain ⟨k, rfl, hk, hown, hb⟩ := hrel
    by_cases hlt : k < d.jr.length
    · have hdr := hd.gb hb
      obtain ⟨gj, jc, cur, hv, hB, hct, hcl⟩ := hdr.jblk (by omega)
      rw [hv] at hva
      cases hva
      have hat := ents_at hg.ent k hlt cur hct
      have hT := openL_take d.jr k hlt
      have hle : k * 65 + 65 ≤ cur.length := by omega
      have hso := openL_sorted (d.jr.take k)
      have hol := openL_length (d.jr.take k)
      rw [List.length_take, Nat.min_eq_left (by omega)] at hol
      have hel := hg.ent _ (List.getElem_mem hlt)
      rw [entV_length] at hel
      generalize hL : openL (d.jr.take k) = M at *
      generalize d.jr[k] = en at *
      obtain ⟨sn, sb⟩ := en
      have HAT := Lib.hid hat
      have HT := Lib.hid hT
      have HL := Lib.hid hL
      have HEL := Lib.hid hel
      have HS := Lib.hid hso
      have HV := Lib.hid hv
      clear hat hT hL hel hso hv
      obtain ⟨la, lc, rfl, hlr, -, -, -, -⟩ := Row.shape hown
      have hown0 := hown
      go_wp2_with (first | with_reducible refine halt_load 151 ?_ | with_reducible refine halt_alloc 151 ?_ | with_reducible refine halt_store 151 ?_)
      refine L.val (by rfl) (X.loadS rfl (by rfl) Try.underlying151 info151s hB HAT.out hle) ?_
      simp only [Act.put, List.setIfInBounds_toArray, List.set_cons_zero, List.set_cons_succ]
      refine L.allocZ rfl zero151 (by rfl) ?_
      intro w2 hN2 hG2
      simp only [Act.put, List.setIfInBounds_toArray, List.set_cons_zero, List.set_cons_succ]
      refine L.storeS (vs := entV (sn, sb)) rfl info151s (by rfl) (by rfl) hN2 (entV_len 0 _ (by rw [zeros_length])) (entV_len _ _ HEL.out) (entV_oneCell (sn, sb)) (by rfl) ?_
      intro w3 hN3 hG3
      simp only [Act.put]
      have f3 : Fr (fun _ => False) wr w3 := (Fr.of_gb hG2).grown hG3 (fun j hj => .inr (by cases hj; exact Nat.le_refl _))
      have hown3 := f3.row hown (fun _ _ h => h)
      have hb3 : GB w w3 := Below.trans hb (f3.below (B := w.heap.size) (fun _ _ h => h.elim) hb.size)
      have hc0 : w3.cell? ⟨wr.heap.size, 0, none⟩ = some (.int .i64 (sn : Int)) := hN3.cell 0
      have hbs := fun q hq => bsI_any la M lc (sn : Int) (lowI M sn) q hq w3 (by omega) (Row.rd hown3).1 (lowI_le _ _) (fun i h hi => lowI_lt _ _ i h hi) (fun i h hi => lowI_ge _ _ HS.out i h hi)
      have hsb := hb3.size
      by_cases hq : (M[lowI M sn]? == some (sn : Int)) = true
      · have hB1 := hbs true hq
        have hadd : addS M (sn : Int) = M := by unfold addS; rw [if_pos hq]
        have HT2 : Hid (openL (d.jr.take (k + 1)) = M) := Lib.hid (by rw [HT.out, hadd])
        clear hbs hq hadd hG3 hN2
        go_wp2_with fail
        refine hB1.mono ?_
        rintro e w4 ⟨rfl, rfl⟩
        go_wp2_with fail
        go_roundw
        case rel => exact ⟨k + 1, by go_num, by omega, by rw [HT2.out]; exact hown3, hb3⟩
        case measure => simp [intOf]; omega
      · have hB1 := hbs false (by simpa using hq)
        have hadd : addS M (sn : Int) = insAt M (lowI M sn) sn := by unfold addS; rw [if_neg hq]
        have HT2 : Hid (openL (d.jr.take (k + 1)) = insAt M (lowI M sn) sn) := Lib.hid (by rw [HT.out, hadd])
        have hle2 := lowI_le M (sn : Int)
        generalize lowI M (sn : Int) = lo at *
        clear hbs hq hadd hG3 hN2
        go_wp2_with fail
        refine hB1.mono ?_
        rintro e w4 ⟨rfl, rfl⟩
        have hN4 := Blk.newA w3 #[bI (sn : Int)] 3
        have hb4 : GB w3 (w3.alloc (.cells #[bI (sn : Int)] 3)) := (Below.refl _ _).alloc (Nat.le_refl _) _
        change Blk (w3.alloc (.cells #[.int .i64 (sn : Int)] 3)) _ _ _ at hN4
        change GB w3 (w3.alloc (.cells #[.int .i64 (sn : Int)] 3)) at hb4
        go_wp2_with fail
        have hown4 := Row.gb hown3 hb4
        have hvl := hown3.lt
        refine (insertI_any w.heap.size (.slice la M.length lc) M lo sn w3.heap.size 1 _ hown4 hle2 hN4 (fun e => by have := (hvl _ e).2; omega) (Nat.le_trans hsb hb4.size) (by omega)).mono ?_
        rintro e w5 ⟨v, rfl, hown5, hG5⟩
        have hb5 : GB w w5 := Below.grown (GB.trans _ _ _ hb3 hb4) hG5 (Nat.le_trans hsb hb4.size) (fun j hj => (hvl j hj).1)
        obtain ⟨v5, c5, rfl, -, -, -, -, -⟩ := Row.shape hown5
        go_wp2_with fail
        go_roundw
        case rel => exact ⟨k + 1, by go_num, by omega, by rw [HT2.out]; exact hown5, hb5⟩
        case measure => simp [intOf]; omega
    · go_wp2_with fail
      go_ret
      rw [List.take_of_length_le (by omega)] at hown
      exact ⟨_, rfl, hown, hb⟩
end Go.Proofs.Ytiihllfjlgbfcaa
