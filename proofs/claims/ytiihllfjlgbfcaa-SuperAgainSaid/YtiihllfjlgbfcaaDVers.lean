/- The walk of a disk's versions. -/
import Derived.Test.YtiihllfjlgbfcaaDOpen2
namespace Go.Proofs.Ytiihllfjlgbfcaa
open Go.RowKit
def pastL (jr : List (Nat × List UInt8)) (i : Nat) : List (List UInt8) := (jr.filter (fun e => e.1 == i)).map (·.2)
def DD.vers (d : DD) (i : Nat) : List (List UInt8) := if 0 < (pastL d.jr i).length then pastL d.jr i ++ [d.img.getD i []] else []
theorem pastL_take (jr : List (Nat × List UInt8)) (i k : Nat) (h : k < jr.length) : pastL (jr.take (k + 1)) i = pastL (jr.take k) i ++ (if jr[k].1 == i then [jr[k].2] else []) := by
  rw [List.take_succ_eq_append_getElem h]
  unfold pastL
  rw [List.filter_append, List.map_append]
  by_cases hc : (jr[k].1 == i) = true
  · simp [hc]
  · simp [hc]
theorem pastL_length (jr : List (Nat × List UInt8)) (i : Nat) : (pastL jr i).length ≤ jr.length := by unfold pastL; rw [List.length_map]; exact List.length_filter_le _ _
theorem cells1 (s : List UInt8) : (arr s).cells = (s8 s).toArray := rfl
set_option maxHeartbeats 4000000 in
set_option maxRecDepth 100000 in
theorem versions_any (p : Nat) (d : DD) (F : Nat → Prop) (i : Nat) (w : World) (h : DiskAt w p d F) (hg : DGood d) (hi : i < d.img.length) (hj : d.jr.length ≤ 1000000) :
    Calls Try.prog 105 #[.pointer (some ⟨p, 0, none⟩), .int .i64 i] w (GivesSecs (d.vers i) w) := by
  obtain ⟨y, hd⟩ := h
  obtain ⟨va, vc, hva, -, -, -, -, -⟩ := Row.shape hd.jr
  obtain ⟨c0, c1, -, -⟩ := hd.cells
  rw [hva] at c1
  go_enter Try.func105, Try.ntmps105
  go_upto_block 0 with fail
  go_cut [4] (fun l wx => wx.ownsRow w.heap.size 59 64 l (pastL d.jr i).length (secs (pastL d.jr i)) ∧ GB w wx)
  case first =>
    go_wp2_with fail
    go_loopw [4, 12] (fun l x wr => ∃ k : Nat, x = .int .i64 k ∧ k ≤ d.jr.length ∧ wr.ownsRow w.heap.size 59 64 l (pastL (d.jr.take k) i).length (secs (pastL (d.jr.take k) i)) ∧ GB w wr) (fun _ x _ => d.jr.length - (intOf x).toNat)
    case atStart => exact ⟨0, rfl, by omega, by simpa [pastL, secs] using World.ownsRow_nil _ _ _ _, GB.refl _⟩
    case round =>
      obtain ⟨k, rfl, hk, hown, hb⟩ := hrel
      by_cases hlt : k < d.jr.length
      · have hdr := hd.gb hb
        obtain ⟨gj, jc, cur, hv, hB, hct, hcl⟩ := hdr.jblk (by omega)
        rw [hv] at hva
        cases hva
        have hat := ents_at hg.ent k hlt cur hct
        have hT := pastL_take d.jr i k hlt
        have hle : k * 65 + 65 ≤ cur.length := by omega
        have hol := pastL_length (d.jr.take k) i
        rw [List.length_take, Nat.min_eq_left (by omega)] at hol
        have hel := hg.ent _ (List.getElem_mem hlt)
        rw [entV_length] at hel
        generalize hM : pastL (d.jr.take k) i = M at *
        generalize d.jr[k] = en at *
        obtain ⟨sn, sb⟩ := en
        have HAT := Lib.hid hat
        have HT := Lib.hid hT
        have HM := Lib.hid hM
        have HEL := Lib.hid hel
        have HV := Lib.hid hv
        clear hat hT hM hel hv c0
        obtain ⟨la, lc, rfl, hlr, -, -, -, -⟩ := Row.shape hown
        go_wp2_with (first | with_reducible refine halt_load 151 ?_ | with_reducible refine halt_alloc 151 ?_ | with_reducible refine halt_store 151 ?_)
        refine L.val (by rfl) (X.loadS rfl (by rfl) Try.underlying151 info151s hB HAT.out hle) ?_
        simp only [Act.put, List.setIfInBounds_toArray, List.set_cons_zero, List.set_cons_succ]
        refine L.allocZ rfl zero151 (by rfl) ?_
        intro w2 hN2 hG2
        simp only [Act.put, List.setIfInBounds_toArray, List.set_cons_zero, List.set_cons_succ]
        refine L.storeS (vs := entV (sn, sb)) rfl info151s (by rfl) (by rfl) hN2 (entV_len 0 _ (by rw [zeros_length])) (entV_len _ _ HEL.out) (entV_oneCell (sn, sb)) (by rfl) ?_
        intro w3 hN3 hG3
        simp only [Act.put]
        have f3 : Fr (fun _ => False) wr w3 := (Fr.of_gb hG2).grown hG3 (fun j hj => .inr (by cases hj; exact Nat.le_refl _))
        have hown3 := f3.row hown (fun _ _ h => h)
        have hb3 : GB w w3 := Below.trans hb (f3.below (B := w.heap.size) (fun _ _ h => h.elim) hb.size)
        have hc0 : w3.cell? ⟨wr.heap.size, 0, none⟩ = some (.int .i64 (sn : Int)) := hN3.cell 0
        have hsb := hb3.size
        clear hG3 hN2 hown
        by_cases hq : (sn == i) = true
        · have hq2 : ((sn : Int) == (i : Int)) = true := by simp at hq ⊢; omega
          have HT2 : Hid (pastL (d.jr.take (k + 1)) i = M ++ [sb]) := Lib.hid (by rw [HT.out, if_pos hq])
          clear hq
          go_wp2_with (first | with_reducible refine halt_load 59 ?_ | with_reducible refine halt_buildSlice 49 ?_ | with_reducible refine halt_builtin .append ?_)
          refine L.val (by rfl) (X.loadAt (l := sb) rfl (by rfl) Try.underlying59 info59 hN3 (by show (sb.map b8).take 64 = _; rw [List.take_of_length_le]; rw [List.length_map]; have := HEL.out; omega) (by rw [entV_len _ _ HEL.out]; decide)) ?_
          simp only [Act.put, List.setIfInBounds_toArray, List.set_cons_zero, List.set_cons_succ]
          refine L.val (by rfl) (X.slice1 (v := arr sb) elem59 (by decide) rfl (by rfl) (by rw [cells1]; simp [s8]; have := HEL.out; omega)) ?_
          simp only [Act.put, List.setIfInBounds_toArray, List.set_cons_zero, List.set_cons_succ]
          have hb4 : GB w3 (w3.alloc (.cells (arr sb).cells 59)) := (Below.refl _ _).alloc (Nat.le_refl _) _
          have hown4 := Row.gb hown3 hb4
          have hsr : Rd (w3.alloc (.cells (arr sb).cells 59)) (some ⟨w3.heap.size, 0, none⟩) (s8 sb) := Rd.alloc_new w3 (s8 sb) 59
          have hvl := hown3.lt
          have hsz4 := hb4.size
          generalize w3.alloc (.cells (arr sb).cells 59) = w4 at *
          refine wpList_appendV elem59 rfl (.tmp 20) (.tmp 23) rfl (by rfl) hown4 (by rfl) (by rw [s8_length]; have := HEL.out; omega) hsr (b8_oneCell sb) (by omega) (by omega) ?_
          intro v5 w5 hown5 hG5
          simp only [Act.put, List.setIfInBounds_toArray, List.set_cons_zero, List.set_cons_succ]
          have hb5 : GB w w5 := Below.grown (GB.trans _ _ _ hb3 hb4) hG5 (Nat.le_trans hsb hsz4) (fun j hj => (hvl j hj).1)
          obtain ⟨v5a, c5, rfl, -, -, -, -, -⟩ := Row.shape hown5
          have hsec : secs (M ++ [sb]) = secs M ++ s8 sb := by simp [secs]
          go_wp2_with fail
          go_roundw
          case rel => exact ⟨k + 1, by go_num, by omega, by rw [HT2.out, List.length_append, hsec]; exact hown5, hb5⟩
          case measure => simp [intOf]; omega
        · have hq2 : ((sn : Int) == (i : Int)) = false := by rw [beq_eq_false_iff_ne]; simp at hq; omega
          have HT2 : Hid (pastL (d.jr.take (k + 1)) i = M) := Lib.hid (by rw [HT.out, if_neg hq, List.append_nil])
          clear hq
          go_wp2_with fail
          go_roundw
          case rel => exact ⟨k + 1, by go_num, by omega, by rw [HT2.out]; exact hown3, hb3⟩
          case measure => simp [intOf]; omega
      · go_wp2_with fail
        go_meet
        case rel => rw [List.take_of_length_le (by omega)] at hown; exact ⟨hown, hb⟩
  case rest =>
    obtain ⟨hown, hb⟩ := hcut
    have hdr := hd.gb hb
    obtain ⟨la, lc, rfl, hlr, -, -, -, -⟩ := Row.shape hown
    have hpl := pastL_length d.jr i
    have hget : d.img.getD i [] = d.img[i] := by simp [List.getD, hi]
    have hsl := hg.sec.at i hi
    have hat := s8_at hg.sec i hi y.spare
    have hle : i * 64 + 64 ≤ (secs d.img ++ y.spare).length := by rw [List.length_append, secs_length hg.sec]; omega
    have HV : Hid (d.vers i = if 0 < (pastL d.jr i).length then pastL d.jr i ++ [d.img[i]] else []) := Lib.hid (by unfold DD.vers; rw [hget])
    generalize d.vers i = V at *
    generalize d.img[i] = s at *
    generalize pastL d.jr i = M at *
    have HS := Lib.hid hsl
    have HA := Lib.hid hat
    clear c0 c1 hget hsl hat
    obtain ⟨c0, -, -, -⟩ := hdr.cells
    have hI := hdr.img
    by_cases h0 : 0 < M.length
    · have HV2 : Hid (V = M ++ [s]) := Lib.hid (by rw [HV.out, if_pos h0])
      go_wp2_with (first | with_reducible refine halt_load 59 ?_ | with_reducible refine halt_buildSlice 49 ?_ | with_reducible refine halt_builtin .append ?_)
      refine L.val (by rfl) (X.loadAt (l := s) rfl (by rfl) Try.underlying59 info59 hI HA.out hle) ?_
      simp only [Act.put, List.setIfInBounds_toArray, List.set_cons_zero, List.set_cons_succ]
      refine L.val (by rfl) (X.slice1 (v := arr s) elem59 (by decide) rfl (by rfl) (by rw [cells1]; simp [s8]; exact HS.out)) ?_
      simp only [Act.put, List.setIfInBounds_toArray, List.set_cons_zero, List.set_cons_succ]
      have hb4 : GB wc (wc.alloc (.cells (arr s).cells 59)) := (Below.refl _ _).alloc (Nat.le_refl _) _
      have hown4 := Row.gb hown hb4
      have hsr : Rd (wc.alloc (.cells (arr s).cells 59)) (some ⟨wc.heap.size, 0, none⟩) (s8 s) := Rd.alloc_new wc (s8 s) 59
      have hvl := hown.lt
      have hsz4 := hb4.size
      have hsb := GB.refl w
      have hsz := Below.size hb
      generalize wc.alloc (.cells (arr s).cells 59) = w4 at *
      refine wpList_appendV elem59 rfl (.tmp 29) (.tmp 37) rfl (by rfl) hown4 (by rfl) (by rw [s8_length]; have := HS.out; omega) hsr (b8_oneCell s) (by omega) (by omega) ?_
      intro v5 w5 hown5 hG5
      simp only [Act.put, List.setIfInBounds_toArray, List.set_cons_zero, List.set_cons_succ]
      have hb5 : GB w w5 := Below.grown (GB.trans _ _ _ hb hb4) hG5 (Nat.le_trans hsz hsz4) (fun j hj => (hvl j hj).1)
      have hsec : secs (M ++ [s]) = secs M ++ s8 s := by simp [secs]
      go_wp2_with fail
      go_ret
      exact ⟨_, rfl, by rw [HV2.out, List.length_append, hsec]; exact hown5, hb5⟩
    · have HV2 : Hid (V = []) := Lib.hid (by rw [HV.out, if_neg h0])
      have hM : M = [] := List.eq_nil_of_length_eq_zero (by omega)
      subst hM
      go_wp2_with fail
      go_ret
      exact ⟨_, rfl, by rw [HV2.out]; exact hown, hb⟩
end Go.Proofs.Ytiihllfjlgbfcaa
