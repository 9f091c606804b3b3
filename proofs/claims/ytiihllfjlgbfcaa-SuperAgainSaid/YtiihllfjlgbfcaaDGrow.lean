/- The walks of the clones of sectors and entries, and of Grow. -/
import Derived.Test.YtiihllfjlgbfcaaDNew
import Derived.Lib.AppendZerosOnto
namespace Go.Proofs.Ytiihllfjlgbfcaa
open Go.RowKit
def GivesSecs (l : List (List UInt8)) (w : World) (e : Ending) (w' : World) : Prop := ∃ v, e = .returned v ∧ w'.ownsRow w.heap.size 59 64 v l.length (secs l) ∧ Below w.heap.size w w'
def GivesEnts (l : List (Nat × List UInt8)) (w : World) (e : Ending) (w' : World) : Prop := ∃ v, e = .returned v ∧ w'.ownsRow w.heap.size 151 65 v l.length (ents l) ∧ Below w.heap.size w w'
theorem secs_oneCell (l : List (List UInt8)) : ∀ u ∈ secs l, u.oneCell' = true := by
  intro u hu
  simp only [secs, List.mem_flatMap] at hu
  obtain ⟨s, -, hs⟩ := hu
  exact b8_oneCell _ u hs
theorem ents_oneCell (l : List (Nat × List UInt8)) : ∀ u ∈ ents l, u.oneCell' = true := by
  intro u hu
  simp only [ents, List.mem_flatMap] at hu
  obtain ⟨s, -, hs⟩ := hu
  exact entV_oneCell _ u hs
set_option maxRecDepth 100000 in
theorem clone59_any (a : Option Addr) (l : List (List UInt8)) (c : Nat) (w : World) (hl : l.length ≤ 1099511627776) (hm : All64 l) (hrd : Rd w a (secs l)) : Calls Try.prog 104 #[.slice a l.length c] w (GivesSecs l w) := by
  have hn := fun w a n c => Lib.run_eql_slice_nil (P := Try.prog) w 49 59 a n c 0 0 Try.underlying49
  have hlen := secs_length hm
  cases a with
  | none =>
    have h0 : secs l = [] := hrd.none
    have : l = [] := by rw [h0] at hlen; exact List.eq_nil_of_length_eq_zero (by simp only [List.length_nil] at hlen; omega)
    subst this
    go_enter Try.func104, Try.ntmps104
    go_wp2_with fail
    go_ret
    exact ⟨_, rfl, World.ownsRow_nil _ _ _ _, Below.refl _ _⟩
  | some ad =>
    have h0 : (w.alloc (.cells #[] 59)).ownsRow w.heap.size 59 64 (.slice (some ⟨w.heap.size, 0, none⟩) 0 0) 0 [] := World.ownsRow_lit (base := w.heap.size) (e := 59) (size := 64) w #[] 0 (Nat.le_refl _) (Nat.zero_le _) rfl
    have HL := Lib.hid hlen
    clear hlen
    go_enter Try.func104, Try.ntmps104
    go_wp2_with (first
      | (at_builtin; refine wpList_appendV elem59 rfl (.tmp 5) (.tmp 6) rfl rfl h0 rfl HL.out (hrd.below ((Below.refl _ _).alloc (Nat.le_refl _) _)) (secs_oneCell l) (by omega) (by simp) ?_))
    intro v' w1 hown hgr
    go_wp2_with fail
    go_ret
    exact ⟨_, rfl, by simpa using hown, ((Below.refl _ _).alloc (Nat.le_refl _) _).grown hgr (by simp) (fun k hk => by simp [Value.ownBlock] at hk; omega)⟩
set_option maxRecDepth 100000 in
theorem clone151_any (a : Option Addr) (l : List (Nat × List UInt8)) (c : Nat) (w : World) (hl : l.length ≤ 1099511627776) (hm : All65 l) (hrd : Rd w a (ents l)) : Calls Try.prog 106 #[.slice a l.length c] w (GivesEnts l w) := by
  have hn := fun w a n c => Lib.run_eql_slice_nil (P := Try.prog) w 50 151 a n c 0 0 Try.underlying50
  have hlen := ents_length hm
  cases a with
  | none =>
    have h0 : ents l = [] := hrd.none
    have : l = [] := by rw [h0] at hlen; exact List.eq_nil_of_length_eq_zero (by simp only [List.length_nil] at hlen; omega)
    subst this
    go_enter Try.func106, Try.ntmps106
    go_wp2_with fail
    go_ret
    exact ⟨_, rfl, World.ownsRow_nil _ _ _ _, Below.refl _ _⟩
  | some ad =>
    have h0 : (w.alloc (.cells #[] 151)).ownsRow w.heap.size 151 65 (.slice (some ⟨w.heap.size, 0, none⟩) 0 0) 0 [] := World.ownsRow_lit (base := w.heap.size) (e := 151) (size := 65) w #[] 0 (Nat.le_refl _) (Nat.zero_le _) rfl
    have HL := Lib.hid hlen
    clear hlen
    go_enter Try.func106, Try.ntmps106
    go_wp2_with (first
      | (at_builtin; refine wpList_appendV elem151 rfl (.tmp 5) (.tmp 6) rfl rfl h0 rfl HL.out (hrd.below ((Below.refl _ _).alloc (Nat.le_refl _) _)) (ents_oneCell l) (by omega) (by simp) ?_))
    intro v' w1 hown hgr
    go_wp2_with fail
    go_ret
    exact ⟨_, rfl, by simpa using hown, ((Below.refl _ _).alloc (Nat.le_refl _) _).grown hgr (by simp) (fun k hk => by simp [Value.ownBlock] at hk; omega)⟩
/-! ### Grow -/
def DD.grow (d : DD) (n : Int) : Int × DD := if n < (d.img.length : Int) ∨ 8192 < n then (2, d) else if d.dead then (10, d) else (0, { d with img := d.img ++ noughts (n.toNat - d.img.length) })
theorem grow_no (v : Value) (n : Int) (w : World) (h : NoDisk w v) : Calls Try.prog 40 #[v, .int .i64 n] w fun e w' => e = .returned (.int .i64 1) ∧ w = w' := by
  have hs := sectors_no v w h
  go_enter Try.func40, Try.ntmps40
  go_wp2_with fail
  refine hs.mono ?_
  rintro e w2 ⟨rfl, rfl⟩
  go_wp2_with fail
  go_ret
  exact ⟨rfl, rfl⟩
theorem run_append_no_zeros (w : World) (ty : TypeId) (base : Addr) (n : Nat) : (Builtin.append_ #[49, 3] ty #[.slice (some base) n n, .int .i64 0]).run Try.prog w = .ok (.slice (some base) n n) w := by
  obtain ⟨i59, hi59, hz590, hz591, hz592⟩ := info_parts info59'
  have hw : IntKind.i64.wrap (0 : Int) = 0 := by decide
  simp [Builtin.append_, run_underlying Try.underlying49, run_underlying Try.underlying3, sizeOf, typeInfo, hi59, asInt, asIntOf, hw, storeCells]
theorem zeroCells59 (k : Nat) : (Builtin.zeroCells (arr (zeros 64)).cells k).toList = secs (noughts k) := by
  have h : Builtin.zeroCells (arr (zeros 64)).cells k = madeCells (arr (zeros 64)).cells (k * 64) := by
    unfold Builtin.zeroCells madeCells
    have : (arr (zeros 64)).cells.size = 64 := by rw [arr_zeros]; simp
    rw [this]
  rw [h, made59]
theorem run_append_zeros59 (w : World) (ty : TypeId) (g : Nat) (T : TypeId) (img : List (List UInt8)) (sp : List Value) (k : Nat) (hB : Blk w g T (secs img ++ sp)) (hm : All64 img) (hk : 0 < k) (hb : img.length + k ≤ 8192) :
    ∃ cap sp', (Builtin.append_ #[49, 3] ty #[.slice (some ⟨g, 0, none⟩) img.length img.length, .int .i64 k]).run Try.prog w = .ok (.slice (some ⟨w.heap.size, 0, none⟩) (img.length + k) cap) (w.drew.alloc (.cells (secs (img ++ noughts k) ++ sp').toArray 59)) ∧ img.length + k ≤ cap ∧ cap ≤ maxLen := by
  obtain ⟨i59, hi59, hz590, hz591, hz592⟩ := info_parts info59'
  have hold : (Builtin.firstCells i59.size img.length (.slice (some ⟨g, 0, none⟩) img.length img.length)).run Try.prog w.drew = .ok (secs img).toArray w.drew := by
    rw [hz591]
    exact run_firstCells_some w.drew 64 img.length ⟨g, 0, none⟩ img.length img.length (secs img) (by rw [secs_length hm]) (fun j v hj => by
      rw [Addr.add_lit, Nat.zero_add]
      show w.cell? ⟨g, j, none⟩ = some v
      rw [hB.cell, List.getElem?_append_left (by have := (List.getElem?_eq_some_iff.1 hj).1; exact this)]
      exact hj)
  have h := Lib.run_append_grow_zeros (P := Try.prog) w 49 3 ty 59 i59 _ .i64 .i64 Try.underlying49 Try.underlying3 hi59 hz590 (some ⟨g, 0, none⟩) img.length img.length (secs img) hold k hk (by omega) (by omega) (by omega) (by rw [hz592]; omega) (growslice_fits (by omega) (by rw [hz592]; omega))
  refine ⟨grownCap w (img.length + k) img.length 59, (Builtin.zeroCells (arr (zeros 64)).cells (grownCap w (img.length + k) img.length 59 - (img.length + k))).toList, ?_, grownCap_ge _ _ _ _, grownCap_le_maxLen _ _ _ _ (by unfold maxLen; omega)⟩
  rw [h]
  have e : ∀ A B : List Value, ∀ X Y Z : Array Value, A = X.toList ++ Y.toList → B = Z.toList → X ++ Y ++ Z = (A ++ B).toArray := fun A B X Y Z h1 h2 => by rw [h1, h2]; simp
  rw [e (secs (img ++ noughts k)) _ _ _ _ (by rw [secs_append, zeroCells59]) rfl]
theorem noughts_length (n : Nat) : (noughts n).length = n := by simp [noughts]
set_option maxHeartbeats 4000000 in
set_option maxRecDepth 100000 in
theorem grow_any (p : Nat) (d : DD) (F : Nat → Prop) (n : Int) (w : World) (h : DiskAt w p d F) (hg : DGood d) :
    Calls Try.prog 40 #[.pointer (some ⟨p, 0, none⟩), .int .i64 n] w fun e w' => e = .returned (.int .i64 (d.grow n).1) ∧ Moved p (d.grow n).2 F w w' := by
  have hz : ((d.img.length : Int) == 0) = false := by rw [beq_eq_false_iff_ne]; have := hg.some; omega
  have hs := sectors_any p d F w h
  have h0 := h
  by_cases hbad : n < (d.img.length : Int) ∨ 8192 < n
  · have HE : Hid (d.grow n = (2, d)) := Lib.hid (by simp only [DD.grow, if_pos hbad])
    rcases (show n < (d.img.length : Int) ∨ (¬ n < (d.img.length : Int) ∧ 8192 < n) by omega) with h1 | ⟨h1, h2⟩
    all_goals
      go_enter Try.func40, Try.ntmps40
      go_wp2_with fail
      refine hs.mono ?_
      rintro e w2 ⟨rfl, rfl⟩
      go_wp2_with fail
      go_ret
      exact ⟨by rw [HE.out]; rfl, by rw [HE.out]; exact Moved.refl h0⟩
  · have h1 : ¬ n < (d.img.length : Int) := by omega
    have h2 : ¬ 8192 < n := by omega
    obtain ⟨⟨gi, cap, vj, spare⟩, hd⟩ := h
    obtain ⟨c0, c1, c2, c3⟩ := hd.cells
    by_cases hdead : d.dead = true
    · have HE : Hid (d.grow n = (10, d)) := Lib.hid (by simp only [DD.grow, if_neg hbad, if_pos hdead])
      rw [hdead] at c3
      go_enter Try.func40, Try.ntmps40
      go_wp2_with fail
      refine hs.mono ?_
      rintro e w2 ⟨rfl, rfl⟩
      go_wp2_with fail
      go_ret
      exact ⟨by rw [HE.out]; rfl, by rw [HE.out]; exact Moved.refl h0⟩
    · have HE : Hid (d.grow n = (0, { d with img := d.img ++ noughts (n.toNat - d.img.length) })) := Lib.hid (by simp only [DD.grow, if_neg hbad, if_neg hdead])
      have hd' : d.dead = false := by simpa using hdead
      have hdf := hd'
      rw [hd'] at c3
      have HG := Lib.hid hg
      have hcut := run_cut_full (P := Try.prog) Try.underlying49 (i := Classical.choose (elem59.2.1)) (Classical.choose_spec elem59.2.1).1 w (some ⟨gi, 0, none⟩) d.img.length cap d.img.length .i64 .i64 hd.cap.1
      have hcut2 := (sliceAt_slice Try.underlying49 w (.slice (some ⟨gi, 0, none⟩) d.img.length cap) none (some (.int .i64 d.img.length)) (some (.int .i64 d.img.length))).symm.trans hcut
      have nf := fun j => hd.blk.frozen j
      by_cases heq : n = d.img.length
      · subst heq
        have hsub : IntKind.i64.wrap ((d.img.length : Int) - (d.img.length : Int)) = 0 := by rw [Int.sub_self]; decide
        have hrz := fun ty => run_append_no_zeros w ty ⟨gi, 0, none⟩ d.img.length
        have hk : DiskL (w.setCell ⟨p, 0, none⟩ (.slice (some ⟨gi, 0, none⟩) d.img.length d.img.length)) p d F ⟨gi, d.img.length, vj, spare⟩ := by
          have f := (Fr.refl (· = p) w).setCell p 0 (.slice (some ⟨gi, 0, none⟩) d.img.length d.img.length) (.inl rfl)
          exact ⟨hd.blk.set 0 _, f.blk hd.img hd.dis.1, ⟨Nat.le_refl _, Nat.le_trans hd.cap.1 hd.cap.2⟩, f.row hd.jr (fun k hk e => hd.dis.2.1 (by rw [hk, e])), hd.dis, hd.cov, fun k hk => Nat.lt_of_lt_of_le (hd.bnd k hk) f.size⟩
        have hm := hk.moved (hd.frp ((Fr.refl (· = p) w).setCell p 0 (.slice (some ⟨gi, 0, none⟩) d.img.length d.img.length) (.inl rfl)))
        have HE2 : Hid (d.grow (d.img.length : Int) = (0, d)) := Lib.hid (by rw [HE.out]; simp [noughts])
        clear HE hd' hdf hdead
        go_enter Try.func40, Try.ntmps40
        go_wp2_with fail
        refine hs.mono ?_
        rintro e w2 ⟨rfl, rfl⟩
        go_wp2_with (first | (at_builtin; refine Lib.wpList_append_run _ rfl (.tmp 15) (.tmp 18) 49 3 rfl _ _ (by rfl) (by rfl) _ _ (hrz _) ?_))
        go_wp2_with fail
        go_ret
        exact ⟨by rw [HE2.out]; rfl, by rw [HE2.out]; exact hm⟩
      · obtain ⟨k, hk⟩ : ∃ k : Nat, n = (d.img.length : Int) + k := ⟨(n - d.img.length).toNat, by omega⟩
        have hk0 : 0 < k := by omega
        have hkb : d.img.length + k ≤ 8192 := by omega
        have hkn : n.toNat - d.img.length = k := by omega
        rw [hkn] at HE
        have e1 : n - (d.img.length : Int) = (k : Int) := by omega
        have e2 : IntKind.i64.wrap (n - (d.img.length : Int)) = (k : Int) := by rw [e1]; exact wrapi _ (by omega) (by omega)
        obtain ⟨cap', sp', hrz, hcap1, hcap2⟩ := run_append_zeros59 w 49 gi 59 d.img spare k hd.img hg.sec hk0 hkb
        have hB4 := Blk.new w.drew (secs (d.img ++ noughts k) ++ sp') 59
        have gA : GB w (w.drew.alloc (.cells (secs (d.img ++ noughts k) ++ sp').toArray 59)) := Fr.below (F := fun _ => False) ((Fr.refl _ w).drew.alloc _) (fun _ _ h => h.elim) (Nat.le_refl _)
        have hd4 := hd.gb gA
        have hlt4 := hB4.lt
        have HK := Lib.hid hk
        clear hk hkn hcut e1
        go_enter Try.func40, Try.ntmps40
        go_wp2_with fail
        refine hs.mono ?_
        rintro e w2 ⟨rfl, rfl⟩
        go_wp2_with (first | with_reducible refine halt_dst 19 ?_)
        refine Lib.wpList_append_run _ rfl (.tmp 15) (.tmp 18) 49 3 rfl _ _ (by rfl) (by rfl) _ _ hrz ?_
        change wpList _ _ _ _ _ (w.drew.alloc (.cells (secs (d.img ++ noughts k) ++ sp').toArray 59))
        simp only [Act.put, List.setIfInBounds_toArray, List.set_cons_zero, List.set_cons_succ]
        generalize w.drew.alloc (.cells (secs (d.img ++ noughts k) ++ sp').toArray 59) = w4 at *
        clear c0 c1 c2 c3 nf
        obtain ⟨c0, c1, c2, c3⟩ := hd4.cells
        have nf := fun j => hd4.blk.frozen j
        have hx : w.drew.heap.size = w.heap.size := rfl
        rw [hx] at hB4 hlt4
        have hm : Moved p { d with img := d.img ++ noughts k } F w (w4.setCell ⟨p, 0, none⟩ (.slice (some ⟨w.heap.size, 0, none⟩) (d.img.length + k) cap')) := by
          have f := (Fr.refl (· = p) w4).setCell p 0 (.slice (some ⟨w.heap.size, 0, none⟩) (d.img.length + k) cap') (.inl rfl)
          have hpl := hd.bnd p hd.cov.1
          refine ⟨fun j => F j ∨ j = w.heap.size, ⟨⟨w.heap.size, cap', vj, sp'⟩, ?_, f.blk hB4 (by show ¬ (w.heap.size = p); omega), ?_, f.row hd4.jr (fun k hk e => hd.dis.2.1 (by rw [hk, e])), ⟨?_, hd.dis.2.1, ?_⟩, ⟨.inl hd.cov.1, .inr rfl, fun j hj => .inl (hd.cov.2.2 j hj)⟩, ?_⟩, ?_, ?_⟩
          · show Blk _ p 52 [.slice (some ⟨w.heap.size, 0, none⟩) (d.img ++ noughts k).length cap', vj, .int .i64 d.left, .bool d.dead]
            rw [List.length_append, noughts_length]
            exact hd4.blk.set 0 _
          · show (d.img ++ noughts k).length ≤ cap' ∧ cap' ≤ maxLen
            rw [List.length_append, noughts_length]; exact ⟨hcap1, hcap2⟩
          · show w.heap.size ≠ p; omega
          · show vj.ownBlock ≠ some w.heap.size
            intro e
            have := hd.bnd _ (hd.cov.2.2 _ e); omega
          · intro j hj
            have := f.size
            rcases hj with h | h
            · have := hd.bnd j h; omega
            · omega
          · exact (Fr.of_gb gA).trans (hd4.frp f)
          · intro j hj
            rcases hj with h | h
            · exact .inl h
            · exact .inr (by omega)
        go_wp2_with fail
        go_ret
        exact ⟨by rw [HE.out]; rfl, by rw [HE.out]; exact hm⟩
end Go.Proofs.Ytiihllfjlgbfcaa
