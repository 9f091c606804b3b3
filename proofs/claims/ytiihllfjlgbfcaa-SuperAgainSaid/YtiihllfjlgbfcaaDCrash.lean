/- The walk of a disk's Crash. -/
import Derived.Test.YtiihllfjlgbfcaaDVers
namespace Go.Proofs.Ytiihllfjlgbfcaa
open Go.RowKit
def rawPick (picks : List Int) (k n : Nat) : Int := if k < picks.length then (picks.getD k 0).tmod n else 0
def pickN (picks : List Int) (k n : Nat) : Nat := (if rawPick picks k n < 0 then rawPick picks k n + n else rawPick picks k n).toNat
theorem rawPick_bound (picks : List Int) (k n : Nat) (h : 0 < n) : -(n : Int) < rawPick picks k n ∧ rawPick picks k n < n := by
  unfold rawPick
  split
  · have h1 := Int.tmod_lt_of_pos (picks.getD k 0) (show (0 : Int) < n by omega)
    have h2 := Int.lt_tmod_of_pos (picks.getD k 0) (show (0 : Int) < n by omega)
    omega
  · omega
theorem pickN_lt (picks : List Int) (k n : Nat) (h : 0 < n) : pickN picks k n < n := by
  have := rawPick_bound picks k n h
  unfold pickN; split <;> omega
def crashK (d : DD) (picks : List Int) : Nat → List (List UInt8)
  | 0 => d.img
  | m + 1 => (crashK d picks m).set ((openL d.jr).getD m 0).toNat ((d.vers ((openL d.jr).getD m 0).toNat).getD (pickN picks m (d.vers ((openL d.jr).getD m 0).toNat).length) [])
def DD.crash (d : DD) (picks : List Int) : DD := ⟨crashK d picks (openL d.jr).length, [], -1, false⟩
theorem crashK_length (d : DD) (picks : List Int) (m : Nat) : (crashK d picks m).length = d.img.length := by
  induction m with
  | zero => rfl
  | succ m ih => rw [crashK, List.length_set, ih]
theorem mem_insAt (l : List Int) (i : Nat) (x y : Int) : y ∈ insAt l i x ↔ y = x ∨ y ∈ l := by
  unfold insAt
  rw [List.mem_append, List.mem_cons]
  have : y ∈ l ↔ y ∈ l.take i ∨ y ∈ l.drop i := by
    conv => lhs; rw [← List.take_append_drop i l]
    exact List.mem_append
  rw [this]
  constructor
  · rintro (h | h | h)
    · exact .inr (.inl h)
    · exact .inl h
    · exact .inr (.inr h)
  · rintro (h | h | h)
    · exact .inr (.inl h)
    · exact .inl h
    · exact .inr (.inr h)
theorem mem_addS (l : List Int) (x y : Int) : y ∈ addS l x ↔ y = x ∨ y ∈ l := by
  unfold addS
  split
  · rename_i h
    constructor
    · exact .inr
    · rintro (rfl | h')
      · have : l[lowI l y]? = some y := by simpa using h
        exact List.mem_of_getElem? this
      · exact h'
  · exact mem_insAt _ _ _ _
theorem mem_foldl (jr : List (Nat × List UInt8)) (y : Int) : ∀ l : List Int, y ∈ jr.foldl (fun l e => addS l e.1) l ↔ (∃ e ∈ jr, (e.1 : Int) = y) ∨ y ∈ l := by
  induction jr with
  | nil => intro l; simp
  | cons e jr ih =>
    intro l
    rw [List.foldl_cons, ih, mem_addS]
    constructor
    · rintro (⟨f, hf, h⟩ | h | h)
      · exact .inl ⟨f, by simp [hf], h⟩
      · exact .inl ⟨e, by simp, h.symm⟩
      · exact .inr h
    · rintro (⟨f, hf, h⟩ | h)
      · rcases List.mem_cons.1 hf with rfl | hf
        · exact .inr (.inl h.symm)
        · exact .inl ⟨f, hf, h⟩
      · exact .inr (.inr h)
theorem mem_openL (jr : List (Nat × List UInt8)) (y : Int) : y ∈ openL jr ↔ ∃ e ∈ jr, (e.1 : Int) = y := by
  unfold openL; rw [mem_foldl]; simp
theorem open_at (d : DD) (hg : DGood d) (k : Nat) (hk : k < (openL d.jr).length) : ∃ i : Nat, (openL d.jr)[k] = (i : Int) ∧ i < d.img.length ∧ 0 < (pastL d.jr i).length := by
  obtain ⟨e, he, hy⟩ := (mem_openL d.jr _).1 (List.getElem_mem hk)
  refine ⟨e.1, hy.symm, hg.inn e he, ?_⟩
  unfold pastL
  rw [List.length_map]
  exact List.length_pos_of_mem (List.mem_filter.2 ⟨he, by simp⟩)
theorem vers_all64 (d : DD) (hg : DGood d) (i : Nat) (hi : i < d.img.length) : All64 (d.vers i) := by
  intro s hs
  unfold DD.vers at hs
  split at hs
  · rcases List.mem_append.1 hs with h | h
    · unfold pastL at h
      obtain ⟨e, he, rfl⟩ := List.mem_map.1 h
      have := hg.ent e (List.mem_filter.1 he).1
      rw [entV_length] at this
      rw [s8_length]; omega
    · simp only [List.mem_singleton] at h
      subst h
      have : d.img.getD i [] = d.img[i] := by simp [List.getD, hi]
      rw [this]; exact hg.sec _ (List.getElem_mem hi)
  · cases hs
theorem all64_set {l : List (List UInt8)} (h : All64 l) (i : Nat) (s : List UInt8) (hs : s.length = 64) : All64 (l.set i s) := by
  intro x hx
  rcases List.mem_or_eq_of_mem_set hx with h' | rfl
  · exact h x h'
  · rw [s8_length]; exact hs
theorem vers_at_len (d : DD) (hg : DGood d) (i j : Nat) (hi : i < d.img.length) (hj : j < (d.vers i).length) : ((d.vers i).getD j []).length = 64 := by
  have : (d.vers i).getD j [] = (d.vers i)[j] := by simp [List.getD, hj]
  rw [this]; exact (vers_all64 d hg i hi).at j hj
theorem crashK_all64 (d : DD) (hg : DGood d) (picks : List Int) : ∀ m, m ≤ (openL d.jr).length → All64 (crashK d picks m)
  | 0, _ => hg.sec
  | m + 1, hm => by
    obtain ⟨i, hi, hil, hp⟩ := open_at d hg m (by omega)
    rw [crashK]
    have e : (openL d.jr).getD m 0 = (i : Int) := by rw [← hi]; simp [List.getD, show m < (openL d.jr).length by omega]
    rw [e]
    refine all64_set (crashK_all64 d hg picks m (by omega)) _ _ ?_
    have hv : 0 < (d.vers i).length := by unfold DD.vers; rw [if_pos hp]; simp
    exact vers_at_len d hg i _ hil (pickN_lt _ _ _ hv)
theorem crash_no (v x : Value) (w : World) (h : NoDisk w v) : Calls Try.prog 45 #[v, x] w fun e w' => e = .returned (.int .i64 1) ∧ w = w' := by
  have hs := sectors_no v w h
  go_enter Try.func45, Try.ntmps45
  go_wp2_with fail
  refine hs.mono ?_
  rintro e w2 ⟨rfl, rfl⟩
  go_wp2_with fail
  go_ret
  exact ⟨rfl, rfl⟩
set_option maxHeartbeats 8000000 in
set_option maxRecDepth 100000 in
theorem crash_any (p : Nat) (d : DD) (F : Nat → Prop) (pa : Option Addr) (picks : List Int) (pc : Nat) (w : World) (h : DiskAt w p d F) (hg : DGood d) (hj : d.jr.length ≤ 1000000) (hrp : Rd w pa (picks.map bI)) :
    Calls Try.prog 45 #[.pointer (some ⟨p, 0, none⟩), .slice pa picks.length pc] w fun e w' => e = .returned (.int .i64 0) ∧ Moved p (d.crash picks) F w w' := by
  have hz : ((d.img.length : Int) == 0) = false := by rw [beq_eq_false_iff_ne]; have := hg.some; omega
  have hs := sectors_any p d F w h
  have hop := dopen_any p d F w h hg hj
  have hver := fun u (hu : GB w u) (i : Nat) (hi : i < d.img.length) => versions_any p d F i u (h.gb hu) hg hi hj
  have hopen := fun k hk => open_at d hg k hk
  have h64 := fun m hm => crashK_all64 d hg picks m hm
  have hcl := crashK_length d picks
  have hol := openL_length d.jr
  have HV := Lib.hid hver
  have HO := Lib.hid hopen
  have H64 := Lib.hid h64
  have HCL := Lib.hid hcl
  have HG := Lib.hid hg
  obtain ⟨y, hd⟩ := h
  have hsome := hg.some
  have hfew := hg.few
  have HC : Hid (d.crash picks = ⟨crashK d picks (openL d.jr).length, [], -1, false⟩) := Lib.hid rfl
  generalize d.crash picks = dc at *
  generalize hOO : openL d.jr = O at *
  have HOO := Lib.hid hOO
  clear hver hopen h64 hcl hg hOO
  go_enter Try.func45, Try.ntmps45
  go_wp2_with fail
  refine hs.mono ?_
  rintro e w1 ⟨rfl, rfl⟩
  go_wp2_with fail
  refine hop.mono ?_
  rintro e w1 ⟨ov, rfl, hown, hb1⟩
  have hd1 := hd.gb hb1
  obtain ⟨c0, -, -, -⟩ := hd1.cells
  obtain ⟨oa, oc, rfl, -, -, -, -, -⟩ := Row.shape hown
  have hcln := clone59_any (some ⟨y.gi, 0, none⟩) d.img y.cap w1 (by omega) HG.out.sec (by
    have := (hd1.img.rd 0).take (secs d.img).length
    simpa using this)
  go_wp2_with fail
  refine hcln.mono ?_
  rintro e w2 ⟨nv, rfl, hnx, hb2⟩
  obtain ⟨nn, nc, rfl, -, -, -, -, -⟩ := Row.shape hnx
  have hnxl := hnx.lt
  have hownl := hown.lt
  have hsz1 := hb1.size
  obtain ⟨gn, rfl⟩ : ∃ gn, nn = some ⟨gn, 0, none⟩ := by
    rcases hnx.2 with ⟨h1, h0⟩ | ⟨g, cap, cur, h1, _⟩
    · omega
    · cases h1; exact ⟨g, rfl⟩
  have hgn := hnxl gn rfl
  have hown2 := Row.gb hown hb2
  have hg2 : GB w w2 := GB.trans _ _ _ hb1 hb2
  clear c0 hcln hs hop
  go_upto_block 0 with fail
  go_cut [23] (fun _ wx => wx.ownsRow w1.heap.size 59 64 (.slice (some ⟨gn, 0, none⟩) d.img.length nc) d.img.length (secs (crashK d picks O.length)) ∧ GB w wx)
  case first =>
    go_wp2_with fail
    go_loopw [23] (fun x wr => ∃ k : Nat, x = .int .i64 k ∧ k ≤ O.length ∧ wr.ownsRow w1.heap.size 59 64 (.slice (some ⟨gn, 0, none⟩) d.img.length nc) d.img.length (secs (crashK d picks k)) ∧ wr.ownsRow w.heap.size 3 1 (.slice oa O.length oc) O.length (O.map bI) ∧ GB w wr) (fun x _ => O.length - (intOf x).toNat)
    case atStart => exact ⟨0, rfl, by omega, hnx, hown2, hg2⟩
    case round =>
      obtain ⟨k, rfl, hk, hnr, hor, hb⟩ := hrel
      by_cases hlt : k < O.length
      · obtain ⟨i, hi, hil, hp⟩ := HO.out k hlt
        obtain ⟨ad, rfl, hc⟩ := (Row.rd hor).1 k (by simpa using hlt)
        simp only [List.getElem_map, bI, hi] at hc
        have hvl : 0 < (d.vers i).length := by unfold DD.vers; rw [if_pos hp]; simp
        have hpk := pickN_lt picks k (d.vers i).length hvl
        have hpb := rawPick_bound picks k (d.vers i).length hvl
        have hslen := vers_at_len d HG.out i _ hil hpk
        have hva := vers_all64 d HG.out i hil
        have hpl2 : (d.vers i).length ≤ 1000001 := by
          have := pastL_length d.jr i
          unfold DD.vers; split <;> simp <;> omega
        have hKs : crashK d picks (k + 1) = (crashK d picks k).set i ((d.vers i).getD (pickN picks k (d.vers i).length) []) := by
          have e : (openL d.jr).getD k 0 = (i : Int) := by rw [HOO.out, ← hi]; simp [List.getD, hlt]
          rw [crashK, e]; rfl
        have hvers := HV.out wr hb i hil
        have HKS := Lib.hid hKs
        clear hKs
        generalize d.vers i = V at *
        have hzv : ((V.length : Int) == 0) = false := by rw [beq_eq_false_iff_ne]; omega
        clear hi
        go_wp2_with fail
        refine hvers.mono ?_
        rintro e w4 ⟨vv, rfl, hvv, hb4⟩
        obtain ⟨vva, vvc, rfl, hvr, -, -, -, -⟩ := Row.shape hvv
        have hnr4 := Row.gb hnr hb4
        have hor4 := Row.gb hor hb4
        have hb5 := GB.trans _ _ _ hb hb4
        clear hvers hc
        go_upto_if 34 with fail
        go_cut [10] (fun x wx => x = .int .i64 (rawPick picks k V.length) ∧ w4 = wx)
        case first =>
          by_cases hkp : k < picks.length
          · obtain ⟨pd, rfl, hcp⟩ := (hrp.below hb5) k (by simpa using hkp)
            simp only [List.getElem_map, bI] at hcp
            have hraw : rawPick picks k V.length = (picks[k]).tmod V.length := by unfold rawPick; rw [if_pos hkp]; simp [List.getD, hkp]
            have hmodb : -(V.length : Int) < (picks[k]).tmod V.length ∧ (picks[k]).tmod V.length < V.length := by rw [← hraw]; exact hpb
            have HR := Lib.hid hraw
            have hwr : IntKind.i64.wrap ((picks[k]).tmod V.length) = (picks[k]).tmod V.length := wrapi _ (by omega) (by omega)
            clear hraw
            generalize picks[k] = pv at *
            go_wp2_with fail
            go_meet
            case rel => exact ⟨by rw [HR.out], rfl⟩
          · have HR : Hid (rawPick picks k V.length = 0) := Lib.hid (by unfold rawPick; rw [if_neg hkp])
            go_wp2_with fail
            go_meet
            case rel => exact ⟨by rw [HR.out], rfl⟩
        case rest =>
          obtain ⟨rfl, rfl⟩ := hcut
          have HPK : Hid (pickN picks k V.length = (if rawPick picks k V.length < 0 then rawPick picks k V.length + V.length else rawPick picks k V.length).toNat) := Lib.hid rfl
          generalize pickN picks k V.length = pk at *
          generalize rawPick picks k V.length = rp at *
          go_upto_if 43 with fail
          go_cut [10] (fun x wx => x = .int .i64 (pk : Int) ∧ w4 = wx)
          case first =>
            by_cases hneg : rp < 0
            · have e1 : IntKind.i64.wrap (rp + V.length) = rp + V.length := wrapi _ (by omega) (by omega)
              have e2 : (pk : Int) = rp + V.length := by rw [HPK.out, if_pos hneg]; omega
              have E := Lib.hid e2
              clear e2
              go_wp2_with fail
              go_meet
              case rel => exact ⟨by rw [E.out], rfl⟩
            · have e2 : (pk : Int) = rp := by rw [HPK.out, if_neg hneg]; omega
              have E := Lib.hid e2
              clear e2
              go_wp2_with fail
              go_meet
              case rel => exact ⟨by rw [E.out], rfl⟩
          case rest =>
            obtain ⟨rfl, rfl⟩ := hcut
            obtain ⟨gv, rfl⟩ : ∃ gv, vva = some ⟨gv, 0, none⟩ := by
              rcases hvv.2 with ⟨h1, h0⟩ | ⟨g, cap, cur, h1, _⟩
              · omega
              · cases h1; exact ⟨g, rfl⟩
            obtain ⟨vcur, hvB, -, -, -, hvcl, hvct⟩ := Row.blk hvv
            obtain ⟨ncur, hnB, hnb, hnn, hncm, hncl, hnct⟩ := Row.blk hnr4
            have hget : V.getD pk [] = V[pk] := by simp [List.getD, hpk]
            rw [hget] at hslen HKS
            have hvat : (vcur.drop (pk * 64)).take 64 = (V[pk]).map b8 := by
              have e : (vcur.drop (pk * 64)).take 64 = ((vcur.take (V.length * 64)).drop (pk * 64)).take 64 := by
                rw [List.drop_take, List.take_take, Nat.min_eq_left (by omega)]
              rw [e, hvct]; exact fm_at hva pk hpk
            have hvle : pk * 64 + 64 ≤ vcur.length := by
              have : vcur.length ≥ V.length * 64 := by
                have h1 := congrArg List.length hvct
                rw [List.length_take, secs_length hva] at h1; omega
              omega
            have hnle : i * 64 + 64 ≤ ncur.length := by
              have : ncur.length ≥ d.img.length * 64 := by rw [hncl]; exact Nat.mul_le_mul_right _ hnn
              omega
            have h64k := H64.out k hk
            have hset : (put ncur (i * 64) ((V[pk]).map b8)).take (d.img.length * 64) = secs (crashK d picks (k + 1)) := by
              have hfs := fm_set (f := s8) (n := 64) h64k i (by rw [HCL.out]; exact hil) V[pk] (by rw [s8_length]; exact hslen)
              rw [HKS.out]
              rw [show secs ((crashK d picks k).set i V[pk]) = ((crashK d picks k).set i V[pk]).flatMap s8 from rfl, ← hfs]
              rw [show ncur = secs (crashK d picks k) ++ ncur.drop (d.img.length * 64) by rw [← hnct, List.take_append_drop]]
              rw [put_app _ _ _ _ (by rw [List.length_map, hslen, secs_length h64k, HCL.out]; omega)]
              have hpl3 : (put (secs (crashK d picks k)) (i * 64) ((V[pk]).map b8)).length = d.img.length * 64 := by
                rw [put_length _ _ _ (by rw [List.length_map, hslen, secs_length h64k, HCL.out]; omega), secs_length h64k, HCL.out]
              rw [List.take_append_of_le_length (by omega), List.take_of_length_le (by omega)]
              rfl
            have hgvn : gv ≠ gn := by
              have h1 := (hvv.lt gv rfl).1
              have h2 := (hnr.lt gn rfl).2
              omega
            generalize V[pk] = sv at *
            have HSL := Lib.hid hslen
            have HVA := Lib.hid hvat
            have HSE := Lib.hid hset
            clear hget hslen hvat hset hnct hvct
            go_wp2_with (first | with_reducible refine halt_load 59 ?_ | with_reducible refine halt_store 59 ?_)
            refine L.val (by rfl) (X.loadAt (l := sv) rfl (by rfl) Try.underlying59 info59 hvB HVA.out hvle) ?_
            simp only [Act.put, List.setIfInBounds_toArray, List.set_cons_zero, List.set_cons_succ]
            go_wp2_with (first | with_reducible refine halt_load 59 ?_ | with_reducible refine halt_store 59 ?_)
            refine L.skip (by rfl) (X.store (off := i * 64) (l := sv) rfl (by rfl) (by rfl) info59 hnB HSL.out hnle) ?_
            have hnB6 := hnB.row (put ncur (i * 64) (sv.map b8))
            have hG6 := grown_row w4 gn (put ncur (i * 64) (sv.map b8)).toArray
            have f6 : Fr (· = gn) w4 (w4.setRow gn (put ncur (i * 64) (sv.map b8)).toArray) := Fr.of_grown hG6 (fun j hj => by cases hj; rfl)
            have hnr6 : (w4.setRow gn (put ncur (i * 64) (sv.map b8)).toArray).ownsRow w1.heap.size 59 64 (.slice (some ⟨gn, 0, none⟩) d.img.length nc) d.img.length (secs (crashK d picks (k + 1))) :=
              Row.mk hnB6 hnb hnn hncm (by rw [put_length _ _ _ (by rw [List.length_map, HSL.out]; omega)]; exact hncl) HSE.out
            have hor6 := f6.row hor4 (fun j hj e => by have := (hownl j hj).2; omega)
            have hb6 : GB w (w4.setRow gn (put ncur (i * 64) (sv.map b8)).toArray) := Below.trans hb5 (f6.below (B := w.heap.size) (fun j _ hj => by omega) hb5.size)
            generalize w4.setRow gn (put ncur (i * 64) (sv.map b8)).toArray = w6 at *
            simp only [Act.put]
            go_wp2_with fail
            go_roundw
            case rel => exact ⟨k + 1, by go_num, by omega, hnr6, hor6, hb6⟩
            case measure => simp [intOf]; omega
      · go_wp2_with fail
        go_meet
        case rel => rw [show k = O.length by omega] at hnr; exact ⟨hnr, hb⟩
  case rest =>
    obtain ⟨hnr, hb⟩ := hcut
    obtain ⟨ncur, hnB, hnb, hnn, hncm, hncl, hnct⟩ := Row.blk hnr
    have hdr := hd.gb hb
    obtain ⟨c0, c1, c2, c3⟩ := hdr.cells
    have nf := fun j => hdr.blk.frozen j
    have hpw := hd.bnd p hd.cov.1
    have hb4 := (((hdr.blk.set 0 (.slice (some ⟨gn, 0, none⟩) d.img.length nc)).set 1 (.slice none 0 0)).set 2 (.int .i64 (-1))).set 3 (.bool false)
    have f4 := ((((Fr.refl (· = p) wc).setCell p 0 (.slice (some ⟨gn, 0, none⟩) d.img.length nc) (.inl rfl)).setCell p 1 (.slice none 0 0) (.inl rfl)).setCell p 2 (.int .i64 (-1)) (.inl rfl)).setCell p 3 (.bool false) (.inl rfl)
    have hm : Moved p dc F w ((((wc.setCell ⟨p, 0, none⟩ (.slice (some ⟨gn, 0, none⟩) d.img.length nc)).setCell ⟨p, 1, none⟩ (.slice none 0 0)).setCell ⟨p, 2, none⟩ (.int .i64 (-1))).setCell ⟨p, 3, none⟩ (.bool false)) := by
      rw [HC.out]
      refine ⟨fun j => F j ∨ j = gn, ⟨⟨gn, nc, .slice none 0 0, ncur.drop (d.img.length * 64)⟩, ?_, ?_, ?_, World.ownsRow_nil _ _ _ _, ⟨?_, by simp [Value.ownBlock], by simp [Value.ownBlock]⟩, ⟨.inl hd.cov.1, .inr rfl, by simp [Value.ownBlock]⟩, ?_⟩, ?_, ?_⟩
      · show Blk _ p 52 [.slice (some ⟨gn, 0, none⟩) (crashK d picks O.length).length nc, .slice none 0 0, .int .i64 (-1), .bool false]
        rw [HCL.out]; exact hb4
      · show Blk _ gn 59 (secs (crashK d picks O.length) ++ ncur.drop (d.img.length * 64))
        have e : secs (crashK d picks O.length) ++ ncur.drop (d.img.length * 64) = ncur := by rw [← hnct, List.take_append_drop]
        rw [e]
        exact f4.blk hnB (by show ¬ gn = p; omega)
      · show (crashK d picks O.length).length ≤ nc ∧ nc ≤ maxLen
        rw [HCL.out]; exact ⟨hnn, hncm⟩
      · show gn ≠ p; omega
      · intro j hj'
        have h1 := f4.size
        have h2 := hb.size
        rcases hj' with h | h
        · have := hd.bnd j h; omega
        · have := hnB.lt; omega
      · exact (Fr.of_gb hb).trans (hdr.frp f4)
      · intro j hj'
        rcases hj' with h | h
        · exact .inl h
        · exact .inr (by omega)
    go_wp2_with fail
    go_ret
    exact ⟨rfl, hm⟩
end Go.Proofs.Ytiihllfjlgbfcaa
