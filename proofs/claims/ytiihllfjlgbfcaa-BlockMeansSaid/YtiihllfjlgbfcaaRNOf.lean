/- The walk of voileref04.Of. -/
import Derived.Test.YtiihllfjlgbfcaaNOf
import Derived.Test.YtiihllfjlgbfcaaReg2
import Derived.Test.YtiihllfjlgbfcaaROf
namespace Go.Proofs.Ytiihllfjlgbfcaa
open Go.RowKit
theorem w85i_of (c : UInt8) : IntKind.i64.wrap (n8 c) = n8 c := by have := n8_range c; exact wrapi _ (by omega) (by omega)
theorem node_byte5 (no : UInt32) (kind : Int) (birth : UInt64) (ks vs : List UInt64) : (nodeBlock no kind birth ks vs)[5]? = some (i8 ks.length) := by
  unfold nodeBlock summed
  rw [List.getElem?_append_right (by rw [tail_length]; omega), tail_length]
  unfold pad nodeHead
  simp
theorem i8_small (n : Nat) (h : n ≤ 6) (c : UInt8) (hc : i8 n = c) : c.toNat = n := by
  subst hc; unfold i8; simp; omega
def GivesNodeB (r : NodeR) (w : World) (e : Ending) (w' : World) : Prop :=
  ∃ ka kc va vc, e = .returned (.tuple #[nodeV r.kind r.birth ka r.keys.length kc va r.vals.length vc, .bool (r.code == 0)]) ∧ Rd w' ka (r.keys.map b64) ∧ Rd w' va (r.vals.map b64) ∧ Below w.heap.size w w'
set_option maxHeartbeats 4000000 in
set_option maxRecDepth 100000 in
theorem rnof_any (no : UInt32) (B : List UInt8) (w : World) (hB : B.length = 256) :
    Calls Try.prog 70 #[.int .u32 (n32 no), arr B] w (GivesNodeB (ofN no B) w) := by
  have HL := Lib.hid hB
  clear hB
  go_enter Try.func70, Try.ntmps70
  go_wp2_with (first | with_reducible refine halt_box 37 ?_)
  refine L.box rfl (by rfl) (by rfl) ?_
  intro w1 hB1 hG1
  simp only [Act.put, List.setIfInBounds_toArray, List.set_cons_zero, List.set_cons_succ]
  have hlt1 := hB1.lt
  have hN2 : Blk (w1.alloc (.cells #[.int .i64 0, .int .u64 0, .slice none 0 0, .slice none 0 0] 95)) w1.heap.size 95 [.int .i64 0, .int .u64 0, .slice none 0 0, .slice none 0 0] := Blk.new w1 _ 95
  have hb2 : GB w1 (w1.alloc (.cells #[.int .i64 0, .int .u64 0, .slice none 0 0, .slice none 0 0] 95)) := (Below.refl _ _).alloc (Nat.le_refl _) _
  go_wp2_with fail
  generalize w1.alloc (.cells #[.int .i64 0, .int .u64 0, .slice none 0 0, .slice none 0 0] 95) = w2 at *
  have hB2 := hB1.gb hb2
  have hsz := hN2.lt
  have hw2 := bgb hG1 hb2 hG1.size
  have hi4 : 4 < B.length := by rw [HL.out]; omega
  have hi5 : 5 < B.length := by rw [HL.out]; omega
  have x4 := hB2.get8 4 hi4
  have e4 : kindOf B = n8 B[4] := by simp [kindOf, List.getD, hi4]
  generalize B[4] = k4 at *
  have w8 := wrap64_n8 k4
  have w8' : IntKind.i64.wrap (n8 k4) = n8 k4 := by have := n8_range k4; exact wrapi _ (by omega) (by omega)
  have C4 : ∀ u, Fr (fun _ => False) w2.drew u → u.cell? ⟨w.heap.size, 4, none⟩ = some (.int .u8 (n8 k4)) := fun u hu => by
    exact (World.cell?_of_block (w := w2.drew) (hu.block _ (by show w.heap.size < w2.heap.size; omega) (fun h => h))).trans x4
  have hcut := fun u => cut_arr Try.underlying37 u w.heap.size 0 12 20 12 20 .i64 .i64 rfl rfl (by omega) (by omega) (by omega)
  refine region_tree (F := fun _ => False) (.calm 0 (.calm 1 (.calm 2 (.calm 3 (.fork 4 6 (.calm 5 (.act 6 (.last 7 .done))) (.act 4 (.calm 5 (.last 7 .done)))))))) [7] (by kernel_rfl) ?_
  iterate 4 (refine T0w (v := ?_) (by rfl) (by rfl) (fun u hu N hN => ?_) ?_; rotate_left; (go_simp; exact hN); simp only [Act.put, List.setIfInBounds_toArray, List.set_cons_zero, List.set_cons_succ])
  have hnum : ∀ u, Blk u w.heap.size 37 (B.map b8) → Calls Try.prog 101 #[.slice (some ⟨w.heap.size, 12, none⟩) 8 244] u fun e w' => e = .returned (.int .u64 (n64 (birthOf B))) ∧ u = w' := fun u hu => by
    have hr := (hu.rd8 12).take 8
    rw [← List.map_take] at hr
    have hl : ((B.drop 12).take 8).length = 8 := by rw [List.length_take, List.length_drop, HL.out]; rfl
    have := number_any (some ⟨w.heap.size, 12, none⟩) ((B.drop 12).take 8) 244 u (by rw [hl]; unfold maxLen; omega) hr
    rwa [hl] at this
  have hB2d := Blk.gb hB2 (GB.drew w2)
  have HNU := Lib.hid hnum
  have E4 := Lib.hid e4
  clear hnum e4 x4 C4 hcut hi4 hi5 w8 w8'
  refine T.fork (by rfl) (by rfl) (by rfl) (by rfl) (fun K hK => ?_) (fun K hK => ?_)
  go_wp2_with fail
  refine (HNU.out _ hB2d).mono ?_
  rintro e w3 ⟨rfl, rfl⟩
  refine hK _ _ (Fr.refl _ _) ?_
  clear hK K
  refine T0w (v := ?_) (by rfl) (by rfl) (fun u hu N hN => ?_) ?_; rotate_left; (go_simp; exact hN); simp only [Act.put, List.setIfInBounds_toArray, List.set_cons_zero, List.set_cons_succ]
  refine T1 (by rfl) (by rfl) (fun K hK => ?_)
  go_wp2_with fail
  refine hK _ _ (Fr.of_gb ((Below.refl _ _).alloc (Nat.le_refl _) _)) ?_
  clear hK K
  refine T2 (by rfl) (by rfl) (fun K hK => ?_)
  go_wp2_with fail
  refine T.done ?_
  rotate_left
  go_wp2_with fail
  refine hK _ _ (Fr.of_gb ((Below.refl _ _).alloc (Nat.le_refl _) _)) ?_
  clear hK K
  refine T1 (by rfl) (by rfl) (fun K hK => ?_)
  go_wp2_with fail
  refine (HNU.out _ (hB2d.alloc _)).mono ?_
  rintro e w3 ⟨rfl, rfl⟩
  refine hK _ _ (Fr.refl _ _) ?_
  clear hK K
  refine T0w (v := ?_) (by rfl) (by rfl) (fun u hu N hN => ?_) ?_; rotate_left; (go_simp; exact hN); simp only [Act.put, List.setIfInBounds_toArray, List.set_cons_zero, List.set_cons_succ]
  refine T2 (by rfl) (by rfl) (fun K hK => ?_)
  go_wp2_with fail
  refine T.done ?_
  all_goals
    have hN3 : Blk (w2.alloc (.cells #[.int .i64 (n8 k4), .int .u64 (n64 (birthOf B)), .slice none 0 0, .slice none 0 0] 95)).drew w2.heap.size 95 [.int .i64 (n8 k4), .int .u64 (n64 (birthOf B)), .slice none 0 0, .slice none 0 0] := Blk.gb (Blk.new w2 _ 95) (GB.drew _)
    have hR3 := Blk.gb (hN2.alloc (.cells #[.int .i64 (n8 k4), .int .u64 (n64 (birthOf B)), .slice none 0 0, .slice none 0 0] 95)) (GB.drew _)
    have hB3 := Blk.gb (hB2.alloc (.cells #[.int .i64 (n8 k4), .int .u64 (n64 (birthOf B)), .slice none 0 0, .slice none 0 0] 95)) (GB.drew _)
    have hb3 := (hw2.alloc hw2.size (.cells #[.int .i64 (n8 k4), .int .u64 (n64 (birthOf B)), .slice none 0 0, .slice none 0 0] 95)).drew
    have hs3 : w2.heap.size < (w2.alloc (.cells #[.int .i64 (n8 k4), .int .u64 (n64 (birthOf B)), .slice none 0 0, .slice none 0 0] 95)).drew.heap.size := hN3.lt
    generalize (w2.alloc (.cells #[.int .i64 (n8 k4), .int .u64 (n64 (birthOf B)), .slice none 0 0, .slice none 0 0] 95)).drew = w3 at *
    clear hN2 hB2 hw2 hB2d HNU hB1 hb2
    go_wp2_with fail
    go_loopw [7] (fun x wr => ∃ k : Nat, k ≤ manyOf B ∧ x = .int .i64 k ∧ ∃ kv vv : Value, Blk wr w2.heap.size 95 [.int .i64 (n8 k4), .int .u64 (n64 (birthOf B)), kv, vv] ∧
        wr.ownsRow w3.heap.size 75 1 kv k ((keysOf B k).map b64) ∧ wr.ownsRow w3.heap.size 75 1 vv k ((valsOf B k).map b64) ∧ (∀ j, kv.ownBlock = some j → vv.ownBlock ≠ some j) ∧
        Blk wr w1.heap.size 95 [.int .i64 0, .int .u64 0, .slice none 0 0, .slice none 0 0] ∧ Blk wr w.heap.size 37 (B.map b8) ∧ Below w.heap.size w wr ∧ w3.heap.size ≤ wr.heap.size) (fun x _ => manyOf B - (intOf x).toNat)
    case atStart => exact ⟨0, by omega, rfl, .slice none 0 0, .slice none 0 0, hN3, World.ownsRow_nil _ _ _ _, World.ownsRow_nil _ _ _ _, by simp [Value.ownBlock], hR3, hB3, hb3, Nat.le_refl _⟩
    case round =>
      clear hN3 hR3 hB3 hb3
      obtain ⟨k, hkn, rfl, kv, vv, hN, hkv, hvv, hdis, hR, hB, hb, hsz2⟩ := hrel
      have hi5 : 5 < B.length := by rw [HL.out]; omega
      have e5 : manyOf B = min B[5].toNat 6 := by simp [manyOf, List.getD, hi5]
      have e5' : B.getD 5 0 = B[5] := by simp [List.getD, hi5]
      have x5 := hB.get8 5 hi5
      generalize B[5] = k5 at *
      have w85 := wrap64_n8 k5
      have hk5 : n8 k5 = (k5.toNat : Int) := rfl
      by_cases hlt : k < manyOf B
      · have t1 : (k : Int) < n8 k5 := by rw [hk5]; omega
        have t2 : (k : Int) < 6 := by omega
        have hbnd : 20 + 16 * k + 16 ≤ 256 := by omega
        have E5 := Lib.hid e5
        clear e5 hk5 hi5
        obtain ⟨ka, kc, rfl, hkr, -, -, -, hklt⟩ := Row.shape hkv
        have C2 : ∀ u, Fr (fun _ => False) wr.drew u → u.cell? ⟨w2.heap.size, 2, none⟩ = some (.slice ka k kc) := fun u hu => (hu.blk (Blk.gb hN (GB.drew _)) (fun h => h)).cell 2
        have hnum : ∀ u (at_ : Nat), at_ + 8 ≤ 256 → Blk u w.heap.size 37 (B.map b8) → Calls Try.prog 101 #[.slice (some ⟨w.heap.size, at_, none⟩) 8 (256 - at_)] u fun e w' => e = .returned (.int .u64 (n64 (Num.num ((B.drop at_).take 8)))) ∧ u = w' := fun u at_ ha hu => by
          have hr := (hu.rd8 at_).take 8
          rw [← List.map_take] at hr
          have hl : ((B.drop at_).take 8).length = 8 := by rw [List.length_take, List.length_drop, HL.out]; omega
          have := number_any (some ⟨w.heap.size, at_, none⟩) ((B.drop at_).take 8) (256 - at_) u (by rw [hl]; unfold maxLen; omega) hr
          rwa [hl] at this
        have HNU := Lib.hid hnum
        have i1 : IntKind.i64.wrap (16 * (k : Int)) = 16 * k := wrapi _ (by omega) (by omega)
        have i2 : IntKind.i64.wrap (20 + 16 * (k : Int)) = 20 + 16 * k := wrapi _ (by omega) (by omega)
        have i3 : IntKind.i64.wrap (28 + 16 * (k : Int)) = 28 + 16 * k := wrapi _ (by omega) (by omega)
        have i4 : IntKind.i64.wrap (36 + 16 * (k : Int)) = 36 + 16 * k := wrapi _ (by omega) (by omega)
        have hcut : ∀ u, (Instr.sliceAt 37 (.pointer (some ⟨w.heap.size, 0, none⟩)) (some (.int .i64 (20 + 16 * (k : Int)))) (some (.int .i64 (28 + 16 * (k : Int)))) none).run Try.prog u = .ok (.slice (some ⟨w.heap.size, 20 + 16 * k, none⟩) 8 (256 - (20 + 16 * k))) u := fun u => by
          have := cut_arr Try.underlying37 u w.heap.size 0 (20 + 16 * k) (28 + 16 * k) (20 + 16 * (k : Int)) (28 + 16 * (k : Int)) .i64 .i64 (by omega) (by omega) (by omega) (by omega) (by omega)
          rwa [show 28 + 16 * k - (20 + 16 * k) = 8 by omega, Nat.zero_add] at this
        have hcut2 : ∀ u, (Instr.sliceAt 37 (.pointer (some ⟨w.heap.size, 0, none⟩)) (some (.int .i64 (28 + 16 * (k : Int)))) (some (.int .i64 (36 + 16 * (k : Int)))) none).run Try.prog u = .ok (.slice (some ⟨w.heap.size, 20 + 16 * k + 8, none⟩) 8 (256 - (20 + 16 * k + 8))) u := fun u => by
          have := cut_arr Try.underlying37 u w.heap.size 0 (28 + 16 * k) (36 + 16 * k) (28 + 16 * (k : Int)) (36 + 16 * (k : Int)) .i64 .i64 (by omega) (by omega) (by omega) (by omega) (by omega)
          rwa [show 36 + 16 * k - (28 + 16 * k) = 8 by omega, show 28 + 16 * k = 20 + 16 * k + 8 by omega, Nat.zero_add] at this
        obtain ⟨q, hq⟩ : ∃ q, q = 20 + 16 * k + 8 := ⟨_, rfl⟩
        obtain ⟨d, hd⟩ : ∃ d, d = 256 - q := ⟨_, rfl⟩
        have hnum2 : ∀ u, Blk u w.heap.size 37 (B.map b8) → Calls Try.prog 101 #[.slice (some ⟨w.heap.size, q, none⟩) 8 d] u fun e w' => e = .returned (.int .u64 (n64 (valAt B k))) ∧ u = w' := fun u hu => by
          subst hd; subst hq; exact hnum u _ (by omega) hu
        rw [← hq, ← hd] at hcut2
        have HNV := Lib.hid hnum2
        have HQ := Lib.hid hq
        clear hnum hnum2 hd hq
        go_wp2_with fail
        refine region_fr (F := fun _ => False) [(0,0),(1,0),(2,0),(3,0),(4,0),(5,0),(6,0),(7,0),(8,0),(9,1),(10,1),(11,2),(12,2),(13,2)] [11,12,13] (by kernel_rfl) ?_
        repeat (refine S0w (v := ?_) (by rfl) (by rfl) (fun u hu N hN => ?_) ?_; rotate_left; (go_simp; exact hN); simp only [Act.put, List.setIfInBounds_toArray, List.set_cons_zero, List.set_cons_succ])
        refine S1 (by rfl) (by rfl) (fun K hK => ?_)
        go_wp2_with fail
        refine (HNU.out _ (20 + 16 * k) (by omega) (Blk.gb hB (GB.drew _))).mono ?_
        rintro e w6 ⟨rfl, rfl⟩
        refine hK _ _ (Fr.refl _ _) ?_
        clear hK K
        refine S1 (by rfl) (by rfl) (fun K hK => ?_)
        go_wp2_with fail
        refine hK _ _ (Fr.of_gb ((Below.refl _ _).alloc (Nat.le_refl _) _)) ?_
        clear hK K
        have gg : GB wr (wr.drew.alloc (.cells #[b64 (keyAt B k)] 75)) := (GB.drew _).alloc (by simp) _
        have hN7 := Blk.gb hN gg
        have hR7 := Blk.gb hR gg
        have hB7 := Blk.gb hB gg
        have hown7 := Row.gb hkv gg
        have hoth7 := Row.gb hvv gg
        have hb7 := bgb hb gg hb.size
        have hsr : Rd (wr.drew.alloc (.cells #[b64 (keyAt B k)] 75)) (some ⟨wr.heap.size, 0, none⟩) [b64 (keyAt B k)] := Rd.alloc_new wr.drew [b64 (keyAt B k)] 75
        have hs7 := gg.size
        change runS _ _ _ _ _ _ (wr.drew.alloc (.cells #[b64 (keyAt B k)] 75))
        generalize wr.drew.alloc (.cells #[b64 (keyAt B k)] 75) = w7 at *
        refine S2 (by rfl) (by rfl) (fun K hK => ?_)
        refine wp_appendW elem64 (.tmp 26) (.tmp 35) rfl (by rfl) hown7 (by rfl) rfl hsr (by simp [b64, Value.oneCell']) (by omega) (by omega) (fun x8 w8 hown8 hG8 hf8 => hK _ _ ?_)
        clear hK K
        have hkb := hown7.lt
        have hN8 := hN7.grown hG8 (fun h => by have := hkb _ h.symm; omega)
        have hR8 := hR7.grown hG8 (fun h => by have := hkb _ h.symm; omega)
        have hB8 := hB7.grown hG8 (fun h => by have := hkb _ h.symm; omega)
        have hoth8 := World.ownsRow.kept hoth7 hG8 (by
          cases hx : vv.ownBlock with
          | none => exact .inl rfl
          | some j => exact .inr fun h => hdis j h.symm hx)
        have hdis8 : ∀ j, x8.ownBlock = some j → vv.ownBlock ≠ some j := fun j hj hv => by
          rcases hf8 j hj with h | h
          · exact hdis j h hv
          · have := (hoth7.lt j hv).2; omega
        have hb8 := hb7.grown hG8 hb7.size (fun j hj => by have := hkb j hj; omega)
        have hs8 := hG8.size
        have hks : keysOf B (k + 1) = keysOf B k ++ [keyAt B k] := by simp [keysOf, List.range_succ]
        replace hown8 : w8.ownsRow w3.heap.size 75 1 x8 (k + 1) ((keysOf B (k + 1)).map b64) := by rw [hks, List.map_append]; exact hown8
        obtain ⟨ka8, kc8, rfl, -, -, -, -, -⟩ := Row.shape hown8
        clear hsr hks hown7 hoth7 hN7 hR7 hB7 hb7 hG8 hf8 hkb gg hkv hvv hN hR hB hb hdis
        simp only [Act.put, List.setIfInBounds_toArray, List.set_cons_zero, List.set_cons_succ]
        obtain ⟨n0, n1, n2, n3⟩ := hN8.c4
        have nf := fun j => hN8.frozen j
        refine S2 (by rfl) (by rfl) (fun K hK => ?_)
        go_wp2_with fail
        refine S2 (by rfl) (by rfl) (fun K hK => ?_)
        go_wp2_with fail
        refine S.done ?_
        have hN9 := hN8.set 2 (.slice ka8 (k + 1) kc8)
        have hR9 := hR8.other (show w2.heap.size ≠ w1.heap.size by omega) 2 (.slice ka8 (k + 1) kc8)
        have hB9 := hB8.other (show w2.heap.size ≠ w.heap.size by omega) 2 (.slice ka8 (k + 1) kc8)
        have g9 : Fr (· = w2.heap.size) w8 (w8.setCell ⟨w2.heap.size, 2, none⟩ (.slice ka8 (k + 1) kc8)) := (Fr.refl _ _).setCell _ _ _ (.inl rfl)
        have hown9 := g9.row hown8 (fun j hj => by have := hown8.lt j hj; omega)
        have hoth9 := g9.row hoth8 (fun j hj => by have := hoth8.lt j hj; omega)
        have hsz9 := g9.size
        have hb9 := hb8.trans (g9.below (B := w.heap.size) (fun j _ hj => by omega) hb8.size)
        have hdis9 := hdis8
        generalize w8.setCell ⟨w2.heap.size, 2, none⟩ (.slice ka8 (k + 1) kc8) = w9 at *
        clear hN8 hR8 hB8 hown8 hoth8 hb8 n0 n1 n2 n3 nf g9 hdis8

        replace hN9 : Blk w9 w2.heap.size 95 [.int .i64 (n8 k4), .int .u64 (n64 (birthOf B)), .slice ka8 (k + 1) kc8, vv] := hN9
        clear C2 hcut hklt hkr
        obtain ⟨va, vc, rfl, -, -, -, -, -⟩ := Row.shape hoth9
        have C3 : ∀ u, Fr (fun _ => False) w9.drew u → u.cell? ⟨w2.heap.size, 3, none⟩ = some (.slice va k vc) := fun u hu => (hu.blk (Blk.gb hN9 (GB.drew _)) (fun h => h)).cell 3
        go_wp2_with fail
        refine region_fr (F := fun _ => False) [(0,0),(1,0),(2,0),(3,0),(4,0),(5,0),(6,0),(7,0),(8,0),(9,1),(10,1),(11,2),(12,2),(13,2)] [11,12,13] (by kernel_rfl) ?_
        repeat (refine S0w (v := ?_) (by rfl) (by rfl) (fun u hu N hN => ?_) ?_; rotate_left; (go_simp; exact hN); simp only [Act.put, List.setIfInBounds_toArray, List.set_cons_zero, List.set_cons_succ])
        refine S1 (by rfl) (by rfl) (fun K hK => ?_)
        go_wp2_with fail
        refine (HNV.out _ (Blk.gb hB9 (GB.drew _))).mono ?_
        rintro e w6 ⟨rfl, rfl⟩
        refine hK _ _ (Fr.refl _ _) ?_
        clear hK K
        refine S1 (by rfl) (by rfl) (fun K hK => ?_)
        go_wp2_with fail
        refine hK _ _ (Fr.of_gb ((Below.refl _ _).alloc (Nat.le_refl _) _)) ?_
        clear hK K
        have gg : GB w9 (w9.drew.alloc (.cells #[b64 (valAt B k)] 75)) := (GB.drew _).alloc (by simp) _
        have hN7 := Blk.gb hN9 gg
        have hR7 := Blk.gb hR9 gg
        have hB7 := Blk.gb hB9 gg
        have hown7 := Row.gb hoth9 gg
        have hoth7 := Row.gb hown9 gg
        have hb7 := bgb hb9 gg hb9.size
        have hsr : Rd (w9.drew.alloc (.cells #[b64 (valAt B k)] 75)) (some ⟨w9.heap.size, 0, none⟩) [b64 (valAt B k)] := Rd.alloc_new w9.drew [b64 (valAt B k)] 75
        have hs7 := gg.size
        change runS _ _ _ _ _ _ (w9.drew.alloc (.cells #[b64 (valAt B k)] 75))
        generalize w9.drew.alloc (.cells #[b64 (valAt B k)] 75) = w7 at *
        refine S2 (by rfl) (by rfl) (fun K hK => ?_)
        refine wp_appendW elem64 (.tmp 39) (.tmp 48) rfl (by rfl) hown7 (by rfl) rfl hsr (by simp [b64, Value.oneCell']) (by omega) (by omega) (fun x8 w8 hown8 hG8 hf8 => hK _ _ ?_)
        clear hK K
        have hkb := hown7.lt
        have hN8 := hN7.grown hG8 (fun h => by have := hkb _ h.symm; omega)
        have hR8 := hR7.grown hG8 (fun h => by have := hkb _ h.symm; omega)
        have hB8 := hB7.grown hG8 (fun h => by have := hkb _ h.symm; omega)
        have hoth8 := World.ownsRow.kept hoth7 hG8 (by
          cases hx : (Value.slice ka8 (k + 1) kc8).ownBlock with
          | none => exact .inl rfl
          | some j => exact .inr fun h => hdis9 j hx h.symm)
        have hdis8 : ∀ j, (Value.slice ka8 (k + 1) kc8).ownBlock = some j → x8.ownBlock ≠ some j := fun j hj hv => by
          rcases hf8 j hv with h | h
          · exact hdis9 j hj h
          · have := (hoth7.lt j hj).2; omega
        have hb8 := hb7.grown hG8 hb7.size (fun j hj => by have := hkb j hj; omega)
        have hs8 := hG8.size
        have hks : valsOf B (k + 1) = valsOf B k ++ [valAt B k] := by simp [valsOf, List.range_succ]
        replace hown8 : w8.ownsRow w3.heap.size 75 1 x8 (k + 1) ((valsOf B (k + 1)).map b64) := by rw [hks, List.map_append]; exact hown8
        obtain ⟨va12, vc12, rfl, -, -, -, -, -⟩ := Row.shape hown8
        clear hsr hks hown7 hoth7 hN7 hR7 hB7 hb7 hG8 hf8 hkb gg hoth9 hown9 hN9 hR9 hB9 hb9 hdis9
        simp only [Act.put, List.setIfInBounds_toArray, List.set_cons_zero, List.set_cons_succ]
        obtain ⟨n0, n1, n2, n3⟩ := hN8.c4
        have nf := fun j => hN8.frozen j
        refine S2 (by rfl) (by rfl) (fun K hK => ?_)
        go_wp2_with fail
        refine S2 (by rfl) (by rfl) (fun K hK => ?_)
        go_wp2_with fail
        refine S.done ?_
        have hN13 := hN8.set 3 (.slice va12 (k + 1) vc12)
        have hR13 := hR8.other (show w2.heap.size ≠ w1.heap.size by omega) 3 (.slice va12 (k + 1) vc12)
        have hB13 := hB8.other (show w2.heap.size ≠ w.heap.size by omega) 3 (.slice va12 (k + 1) vc12)
        have g9 : Fr (· = w2.heap.size) w8 (w8.setCell ⟨w2.heap.size, 3, none⟩ (.slice va12 (k + 1) vc12)) := (Fr.refl _ _).setCell _ _ _ (.inl rfl)
        have hown13 := g9.row hown8 (fun j hj => by have := hown8.lt j hj; omega)
        have hoth13 := g9.row hoth8 (fun j hj => by have := hoth8.lt j hj; omega)
        have hsz13 := g9.size
        have hb13 := hb8.trans (g9.below (B := w.heap.size) (fun j _ hj => by omega) hb8.size)
        have hdis13 := hdis8
        generalize w8.setCell ⟨w2.heap.size, 3, none⟩ (.slice va12 (k + 1) vc12) = w13 at *
        clear hN8 hR8 hB8 hown8 hoth8 hb8 n0 n1 n2 n3 nf g9 hdis8

        clear C3 hcut2
        go_wp2_with fail
        go_roundw
        case rel => exact ⟨k + 1, by omega, by go_num, _, _, hN13, hoth13, hown13, hdis13, hR13, hB13, hb13, by omega⟩
        case measure => simp [intOf]; omega
      · have hkl : (keysOf B k).length = k := by simp [keysOf]
        have hvl : (valsOf B k).length = k := by simp [valsOf]
        obtain rfl : k = manyOf B := by omega
        have hk6 : manyOf B ≤ 6 := by omega
        have hof : ofN no B = if mayN (n8 k4) (keysOf B (manyOf B)) (manyOf B) && (nodeBlock no (n8 k4) (birthOf B) (keysOf B (manyOf B)) (valsOf B (manyOf B)) == B) then ⟨n8 k4, birthOf B, keysOf B (manyOf B), valsOf B (manyOf B), 0⟩ else ⟨0, 0, [], [], 4⟩ := by
          unfold ofN okN; rw [E4.out]
        obtain ⟨ka, kc, rfl, hkr, -, -, -, -⟩ := Row.shape hkv
        obtain ⟨va, vc, rfl, hvr, -, -, -, -⟩ := Row.shape hvv
        have hkm := row_off hkv (b := w1.heap.size) (by omega)
        have hvm := row_off hvv (b := w1.heap.size) (by omega)
        have hmay : ∀ u, Rd u ka ((keysOf B (manyOf B)).map b64) → Calls Try.prog 65 #[.agg #[.int .i64 (n8 k4), .int .u64 (n64 (birthOf B)), .slice ka (manyOf B) kc, .slice va (manyOf B) vc]] u fun e w' => e = .returned (.bool (mayN (n8 k4) (keysOf B (manyOf B)) (manyOf B))) ∧ Below u.heap.size u w' := fun u hu => by
          have := rmay_any (n8 k4) (birthOf B) ka (keysOf B (manyOf B)) kc va (manyOf B) vc u (by rw [hkl]; unfold maxLen; omega) hu
          rwa [hkl] at this
        have hblk : ∀ u, Rd u ka ((keysOf B (manyOf B)).map b64) → Rd u va ((valsOf B (manyOf B)).map b64) → Calls Try.prog 67 #[.int .u32 (n32 no), .agg #[.int .i64 (n8 k4), .int .u64 (n64 (birthOf B)), .slice ka (manyOf B) kc, .slice va (manyOf B) vc]] u fun e w' => e = .returned (arr (nodeBlock no (n8 k4) (birthOf B) (keysOf B (manyOf B)) (valsOf B (manyOf B)))) ∧ Below u.heap.size u w' := fun u hu hv => by
          have := rnblock_any no (n8 k4) (birthOf B) ka (keysOf B (manyOf B)) kc va (valsOf B (manyOf B)) vc u (by omega) (by omega) hu hv
          rwa [hkl, hvl] at this
        have hsl : (nodeBlock no (n8 k4) (birthOf B) (keysOf B (manyOf B)) (valsOf B (manyOf B))).length = 256 := summed_length _
        have hb5 : nodeBlock no (n8 k4) (birthOf B) (keysOf B (manyOf B)) (valsOf B (manyOf B)) = B → k5.toNat = manyOf B := fun h => by
          have h5 := node_byte5 no (n8 k4) (birthOf B) (keysOf B (manyOf B)) (valsOf B (manyOf B))
          rw [h, hkl] at h5
          rw [List.getD, h5] at e5'
          exact i8_small _ hk6 _ e5'
        generalize nodeBlock no (n8 k4) (birthOf B) (keysOf B (manyOf B)) (valsOf B (manyOf B)) = C at *
        generalize keysOf B (manyOf B) = ks at *
        generalize valsOf B (manyOf B) = vs at *
        generalize manyOf B = n at *
        generalize birthOf B = bi at *
        have HKL := Lib.hid hkl
        have HVL := Lib.hid hvl
        have HSL := Lib.hid hsl
        have HOF := Lib.hid hof
        have HMAY := Lib.hid hmay
        have HBLK := Lib.hid hblk
        have H5 := Lib.hid hb5
        clear hkl hvl hsl hof hmay hblk hb5 e5'
        obtain ⟨n0, n1, n2, n3⟩ := hN.c4
        have hNd := Blk.gb hN (GB.drew wr)
        have hBd := Blk.gb hB (GB.drew wr)
        have hkd := hkr.below (GB.drew wr)
        have hvd := hvr.below (GB.drew wr)
        have hbd := hb.drew
        have x5d : ∀ u, Fr (fun _ => False) wr.drew u → u.cell? ⟨w.heap.size, 5, none⟩ = some (.int .u8 (n8 k5)) := fun u hu =>
          (World.cell?_of_block (w := wr.drew) (hu.block _ (by show w.heap.size < wr.heap.size; omega) (fun h => h))).trans x5
        have CS : ∀ u, Fr (fun _ => False) wr.drew u → u.cell? ⟨w2.heap.size, 0, none⟩ = some (.int .i64 (n8 k4)) ∧ u.cell? ⟨w2.heap.size, 1, none⟩ = some (.int .u64 (n64 bi)) ∧ u.cell? ⟨w2.heap.size, 2, none⟩ = some (.slice ka n kc) ∧ u.cell? ⟨w2.heap.size, 3, none⟩ = some (.slice va n vc) := fun u hu => (hu.blk hNd (fun h => h)).c4
        have S0' := fun u hu => (CS u hu).1
        have S1' := fun u hu => (CS u hu).2.1
        have S2' := fun u hu => (CS u hu).2.2.1
        have S3' := fun u hu => (CS u hu).2.2.2
        clear CS
        by_cases hm : mayN (n8 k4) ks n = true
        · rw [hm] at HOF HMAY
          clear hm
          by_cases h6 : n8 k5 ≤ n
          · have ht : ¬ (n : Int) < n8 k5 := by omega
            have h66 : decide ((6 : Int) < n8 k5) = false := by simp; omega
            have w85i : IntKind.i64.wrap (n8 k5) = n8 k5 := w85i_of k5
            clear hk5 e5
            go_wp2_with fail
            refine region_fr (F := fun _ => False) [(0,0),(1,1),(2,0),(3,0),(4,0),(5,0),(6,0),(7,0),(8,0),(9,0),(10,0),(11,0),(13,0),(12,1),(14,0),(15,0)] [] (by kernel_rfl) ?_
            refine S0w (v := ?_) (by rfl) (by rfl) (fun u hu N hN => ?_) ?_; rotate_left; (go_simp; exact hN); simp only [Act.put, List.setIfInBounds_toArray, List.set_cons_zero, List.set_cons_succ]
            refine S1 (by rfl) (by rfl) (fun K hK => ?_)
            go_wp2_with fail
            refine (HMAY.out _ hkd).mono ?_
            rintro e w6 ⟨rfl, hb6⟩
            refine hK _ _ (Fr.of_gb hb6) ?_
            clear hK K
            have g6 : Fr (fun _ => False) wr.drew w6 := Fr.of_gb hb6
            have x5e := fun u (hu : Fr (fun _ => False) w6 u) => x5d u (g6.trans hu)
            have S0e := fun u (hu : Fr (fun _ => False) w6 u) => S0' u (g6.trans hu)
            have S1e := fun u (hu : Fr (fun _ => False) w6 u) => S1' u (g6.trans hu)
            have S2e := fun u (hu : Fr (fun _ => False) w6 u) => S2' u (g6.trans hu)
            have S3e := fun u (hu : Fr (fun _ => False) w6 u) => S3' u (g6.trans hu)
            clear x5d S0' S1' S2' S3'
            have hN6 := g6.blk hNd (fun h => h)
            have hB6 := g6.blk hBd (fun h => h)
            have hR6 := g6.blk (Blk.gb hR (GB.drew wr)) (fun h => h)
            have hkr6 := hkd.below hb6
            have hvr6 := hvd.below hb6
            have hb66 := bgb hbd hb6 hbd.size
            clear g6
            repeat (first | (refine S0w (v := ?_) (by rfl) (by rfl) (fun u hu N hN => ?_) ?_; rotate_left; (go_simp; exact hN); simp only [Act.put, List.setIfInBounds_toArray, List.set_cons_zero, List.set_cons_succ]) | (refine S0n (by rfl) (by rfl) ?_; simp only [Act.put, List.setIfInBounds_toArray, List.set_cons_zero, List.set_cons_succ]))
            refine S0 (by rfl) (by rfl) (fun u hu => X.load rfl (by rfl) Try.underlying37 info37 (hu.blk hB6 (fun h => h)) HL.out) ?_
            simp only [Act.put, List.setIfInBounds_toArray, List.set_cons_zero, List.set_cons_succ]
            refine S1 (by rfl) (by rfl) (fun K hK => ?_)
            go_wp2_with fail
            refine (HBLK.out _ hkr6 hvr6).mono ?_
            rintro e w7 ⟨rfl, hb7⟩
            refine hK _ _ (Fr.of_gb hb7) ?_
            clear hK K
            refine S0 (by rfl) (by rfl) (fun u hu => X.neq rfl (by rfl) (by rfl) Try.underlying37 guard37 HSL.out HL.out) ?_
            simp only [Act.put, List.setIfInBounds_toArray, List.set_cons_zero, List.set_cons_succ]
            replace hR6 := hR6.gb hb7
            replace hN6 := hN6.gb hb7
            replace hkr6 := hkr6.below hb7
            replace hvr6 := hvr6.below hb7
            replace hb66 := bgb hb66 hb7 hb66.size
            clear x5e S0e S1e S2e S3e hb6 hb7
            by_cases hCB : C = B
            · have hq : (!(C == B)) = false := by simp [hCB]
              have ho := HOF.out
              rw [show (C == B) = true by simp [hCB]] at ho
              have HO := Lib.hid ho
              clear ho hCB HOF
              repeat (refine S0w (v := ?_) (by rfl) (by rfl) (fun u hu N hN => ?_) ?_; rotate_left; (go_simp; exact hN); simp only [Act.put, List.setIfInBounds_toArray, List.set_cons_zero, List.set_cons_succ])
              refine S.done ?_
              obtain ⟨m0, m1, m2, m3⟩ := hN6.c4
              go_wp2_with (first | with_reducible refine halt_store 95 ?_)
              refine L.storeS (vs := [.int .i64 (n8 k4), .int .u64 (n64 bi), .slice ka n kc, .slice va n vc]) rfl info95 (by rfl) (by rfl) hR6 rfl rfl (by simp [Value.oneCell']) (by rfl) ?_
              intro w9 hN9 hG9
              simp only [Act.put]
              go_wp2_with fail
              refine ret_cellS2 rfl (by rfl) Try.underlying95 info95 hN9 rfl (by rfl) rfl ?_
              rw [HO.out]
              have f9 : Fr (· = w1.heap.size) _ w9 := Fr.of_grown hG9 (fun j hj => by cases hj; rfl)
              exact ⟨ka, kc, va, vc, by
                show _ = Ending.returned (.tuple #[nodeV (n8 k4) bi ka ks.length kc va vs.length vc, .bool true])
                rw [HKL.out, HVL.out]; rfl, f9.rd hkr6 hkm, f9.rd hvr6 hvm, hb66.grown hG9 hb66.size (fun j hj => by cases hj; omega)⟩
            · have hq : (!(C == B)) = true := by simp [hCB]
              have ho := HOF.out
              rw [show (C == B) = false by simp [hCB]] at ho
              replace HOF := Lib.hid ho
              clear ho hCB
              repeat (refine S0w (v := ?_) (by rfl) (by rfl) (fun u hu N hN => ?_) ?_; rotate_left; (go_simp; exact hN); simp only [Act.put, List.setIfInBounds_toArray, List.set_cons_zero, List.set_cons_succ])
              refine S.done ?_
              go_wp2_with (first | with_reducible refine halt_store 95 ?_)
              refine L.storeS (vs := [.int .i64 0, .int .u64 0, .slice none 0 0, .slice none 0 0]) rfl info95 (by rfl) (by rfl) hR6 rfl rfl (by simp [Value.oneCell']) (by rfl) ?_
              intro w9 hN9 hG9
              simp only [Act.put]
              go_wp2_with fail
              refine ret_cellS2 rfl (by rfl) Try.underlying95 info95 hN9 rfl (by rfl) rfl ?_
              rw [HOF.out]
              exact ⟨none, 0, none, 0, rfl, Rd.nil _ _, Rd.nil _ _, hb66.grown hG9 hb66.size (fun j hj => by cases hj; omega)⟩
          · have ht : (n : Int) < n8 k5 := by omega
            have ht' : ¬ (n : Int) < 6 := by rw [hk5] at ht; omega
            have h66 : decide ((6 : Int) < n8 k5) = true := by simp; omega
            have w85i : IntKind.i64.wrap (n8 k5) = n8 k5 := w85i_of k5
            have ho := HOF.out
            have hne : ¬ C = B := fun h => by have := H5.out h; rw [hk5] at ht; omega
            rw [show (C == B) = false by simp [hne]] at ho
            replace HOF := Lib.hid ho
            clear ho hne
            clear hk5 e5
            go_wp2_with fail
            refine region_fr (F := fun _ => False) [(0,0),(1,1),(2,0),(3,0),(4,0),(5,0),(6,0),(7,0),(8,0),(9,0),(10,0),(11,0),(13,0),(12,1),(14,0),(15,0)] [] (by kernel_rfl) ?_
            refine S0w (v := ?_) (by rfl) (by rfl) (fun u hu N hN => ?_) ?_; rotate_left; (go_simp; exact hN); simp only [Act.put, List.setIfInBounds_toArray, List.set_cons_zero, List.set_cons_succ]
            refine S1 (by rfl) (by rfl) (fun K hK => ?_)
            go_wp2_with fail
            refine (HMAY.out _ hkd).mono ?_
            rintro e w6 ⟨rfl, hb6⟩
            refine hK _ _ (Fr.of_gb hb6) ?_
            clear hK K
            have g6 : Fr (fun _ => False) wr.drew w6 := Fr.of_gb hb6
            have x5e := fun u (hu : Fr (fun _ => False) w6 u) => x5d u (g6.trans hu)
            have S0e := fun u (hu : Fr (fun _ => False) w6 u) => S0' u (g6.trans hu)
            have S1e := fun u (hu : Fr (fun _ => False) w6 u) => S1' u (g6.trans hu)
            have S2e := fun u (hu : Fr (fun _ => False) w6 u) => S2' u (g6.trans hu)
            have S3e := fun u (hu : Fr (fun _ => False) w6 u) => S3' u (g6.trans hu)
            clear x5d S0' S1' S2' S3'
            clear g6
            repeat (first | (refine S0w (v := ?_) (by rfl) (by rfl) (fun u hu N hN => ?_) ?_; rotate_left; (go_simp; exact hN); simp only [Act.put, List.setIfInBounds_toArray, List.set_cons_zero, List.set_cons_succ]) | (refine S0n (by rfl) (by rfl) ?_; simp only [Act.put, List.setIfInBounds_toArray, List.set_cons_zero, List.set_cons_succ]) | (refine S1n (Fr.refl _) (by rfl) (by rfl) ?_; simp only [Act.put, List.setIfInBounds_toArray, List.set_cons_zero, List.set_cons_succ]))
            refine S.done ?_
            have hR6 := (Blk.gb hR (GB.drew wr)).gb hb6
            have hb66 := bgb hbd hb6 hbd.size
            go_wp2_with (first | with_reducible refine halt_store 95 ?_)
            refine L.storeS (vs := [.int .i64 0, .int .u64 0, .slice none 0 0, .slice none 0 0]) rfl info95 (by rfl) (by rfl) hR6 rfl rfl (by simp [Value.oneCell']) (by rfl) ?_
            intro w9 hN9 hG9
            simp only [Act.put]
            go_wp2_with fail
            refine ret_cellS2 rfl (by rfl) Try.underlying95 info95 hN9 rfl (by rfl) rfl ?_
            rw [HOF.out]
            exact ⟨none, 0, none, 0, rfl, Rd.nil _ _, Rd.nil _ _, hb66.grown hG9 hb66.size (fun j hj => by cases hj; omega)⟩
        · rw [show mayN (n8 k4) ks n = false by simpa using hm] at HOF HMAY
          clear hm
          rcases (show ¬ (n : Int) < n8 k5 ∨ ((n : Int) < n8 k5 ∧ ¬ (n : Int) < 6) by rw [hk5]; omega) with ht | ⟨ht, ht'⟩
          all_goals
            clear hk5 e5
            go_wp2_with fail
            refine region_fr (F := fun _ => False) [(0,0),(1,1),(2,0),(3,0),(4,0),(5,0),(6,0),(7,0),(8,0),(9,0),(10,0),(11,0),(13,0),(12,1),(14,0),(15,0)] [] (by kernel_rfl) ?_
            refine S0w (v := ?_) (by rfl) (by rfl) (fun u hu N hN => ?_) ?_; rotate_left; (go_simp; exact hN); simp only [Act.put, List.setIfInBounds_toArray, List.set_cons_zero, List.set_cons_succ]
            refine S1 (by rfl) (by rfl) (fun K hK => ?_)
            go_wp2_with fail
            refine (HMAY.out _ hkd).mono ?_
            rintro e w6 ⟨rfl, hb6⟩
            refine hK _ _ (Fr.of_gb hb6) ?_
            clear hK K
            repeat (first | (refine S0w (v := ?_) (by rfl) (by rfl) (fun u hu N hN => ?_) ?_; rotate_left; (go_simp; exact hN); simp only [Act.put, List.setIfInBounds_toArray, List.set_cons_zero, List.set_cons_succ]) | (refine S0n (by rfl) (by rfl) ?_; simp only [Act.put, List.setIfInBounds_toArray, List.set_cons_zero, List.set_cons_succ]) | (refine S1n (Fr.refl _) (by rfl) (by rfl) ?_; simp only [Act.put, List.setIfInBounds_toArray, List.set_cons_zero, List.set_cons_succ]))
            refine S.done ?_
            have hR6 := (Blk.gb hR (GB.drew wr)).gb hb6
            have hb66 := bgb hbd hb6 hbd.size
            go_wp2_with (first | with_reducible refine halt_store 95 ?_)
            refine L.storeS (vs := [.int .i64 0, .int .u64 0, .slice none 0 0, .slice none 0 0]) rfl info95 (by rfl) (by rfl) hR6 rfl rfl (by simp [Value.oneCell']) (by rfl) ?_
            intro w9 hN9 hG9
            simp only [Act.put]
            go_wp2_with fail
            refine ret_cellS2 rfl (by rfl) Try.underlying95 info95 hN9 rfl (by rfl) rfl ?_
            rw [HOF.out]
            exact ⟨none, 0, none, 0, rfl, Rd.nil _ _, Rd.nil _ _, hb66.grown hG9 hb66.size (fun j hj => by cases hj; omega)⟩
end Go.Proofs.Ytiihllfjlgbfcaa
