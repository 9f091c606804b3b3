/- The walk of the reference's Of. -/
import Derived.Test.YtiihllfjlgbfcaaSOf
import Derived.Test.YtiihllfjlgbfcaaReg2
namespace Go.Proofs.Ytiihllfjlgbfcaa
open Go.RowKit
theorem rnumber_any (B : List UInt8) (x : Int) (a : Nat) (z : Int) (k : Nat) (hx : x = a) (hz : z = k) (hk : k ≤ 8) (hak : a + k ≤ 255) (hB : B.length = 256) (w : World) :
    Calls Try.prog 126 #[arr B, .int .i64 x, .int .i64 z] w fun e w' => e = .returned (.int .u64 (n64 (getN B a k))) ∧ GB w w' := by
  subst hx hz
  have HL := Lib.hid hB
  clear hB
  go_enter Try.func126, Try.ntmps126
  go_wp2_with (first | with_reducible refine halt_box 37 ?_)
  refine L.box rfl (by rfl) (by rfl) ?_
  intro w1 hB1 hG1
  simp only [Act.put, List.setIfInBounds_toArray, List.set_cons_zero, List.set_cons_succ]
  have hrd := (hB1.rd8 a).take k
  rw [← List.map_take] at hrd
  have hl : ((B.drop a).take k).length = k := by rw [List.length_take, List.length_drop, HL.out]; omega
  have hcut := cut_arr Try.underlying37 w1 w.heap.size 0 a (a + k) (a : Int) ((a : Int) + k) .i64 .i64 rfl (by omega) (by omega) (by omega) (by omega)
  rw [show a + k - a = k by omega, Nat.zero_add] at hcut
  have hcall := number_any (some ⟨w.heap.size, a, none⟩) ((B.drop a).take k) (256 - a) w1 (by rw [hl]; unfold maxLen; omega) hrd
  rw [hl] at hcall
  have HN : Hid (Num.num ((B.drop a).take k) = getN B a k) := Lib.hid rfl
  generalize Num.num ((B.drop a).take k) = v at *
  clear hrd hl
  go_wp2_with fail
  refine hcall.mono ?_
  rintro e w2 ⟨rfl, rfl⟩
  go_wp2_with fail
  go_ret
  exact ⟨by rw [← HN.out]; rfl, hG1⟩
section
variable {o : Oper} {w : World} {a : Act} {K : Act → World → Prop} {Q : Exit → Act → World → Prop}
theorem wp_skip5 {w' : World} (hr : (execOp a.eval o).run Try.prog w = .ok .skip w') (h : K (a.put o.dst undef) w') : o.wp Try.prog a w K Q := by
  unfold Oper.wp; rw [hr]; exact h
theorem wp_alloc82 (ho : o.op = .alloc 82) (h : ∀ w', Blk w' w.heap.size 82 (suC zeroS) → GB w w' → K (a.put o.dst (.pointer (some ⟨w.heap.size, 0, none⟩))) w') : o.wp Try.prog a w K Q := by
  refine wp_run (w' := w.alloc (.cells (suC zeroS).toArray 82)) (v := .pointer (some ⟨w.heap.size, 0, none⟩)) ?_ (h _ (Blk.new w (suC zeroS) 82) ((Below.refl _ _).alloc (Nat.le_refl _) _))
  unfold execOp; rw [ho]
  simp only [Instr.alloc, Sem.run_bind, run_zero zero82, Result.andThen_ok]
  rfl
theorem wp_storeS {U : TypeId} {T : TypeId} {g off n : Nat} {x y : Operand} {cs vs : List Value} (ho : o.op = .store U x y) (hs : (Try.prog.info? U).map (·.size) = some n) (hx : a.eval x = .pointer (some ⟨g, off, none⟩)) (v : Value) (hy : a.eval y = v) (hv : v.cells = vs.toArray) (hB : Blk w g T cs) (hc : off + n ≤ cs.length) (hl : vs.length = n) (h1 : ∀ u ∈ vs, u.oneCell' = true)
    (h : ∀ w', Blk w' g T (put cs off vs) → w.grownBy w' (some g) → K (a.put o.dst undef) w') : o.wp Try.prog a w K Q := by
  have hr := run_store_part (P := Try.prog) (o := off) hB v vs hv h1 hs hl (by omega)
  refine wp_skip5 ?_ (h _ (hB.row _) (grown_row _ _ _))
  unfold execOp; rw [ho]
  simp only [hx, hy, Sem.run_bind, hr, Result.andThen_ok, Sem.run_pure]
end
theorem put_one {α : Type} (cs : List α) (off : Nat) (v : α) (hc : off < cs.length) : put cs off [v] = cs.set off v := by
  unfold put
  rw [List.set_eq_take_append_cons_drop, if_pos hc]; simp
theorem getN_one (B : List UInt8) (a : Nat) (h : a < B.length) : (getN B a 1 == 1) = (n8 B[a] == 1) := by
  have e : getN B a 1 = B[a].toUInt64 := by
    unfold getN
    have h1 : (B.drop a).take 1 = [B[a]] := by rw [List.drop_eq_getElem_cons h]; rfl
    rw [h1]
    simp [Num.num]
  rw [e, Bool.eq_iff_iff, beq_iff_eq, beq_iff_eq]
  unfold n8
  constructor
  · intro h
    have := congrArg UInt64.toNat h
    rw [UInt8.toNat_toUInt64] at this
    rw [this]; rfl
  · intro h
    rw [← UInt64.toNat_inj, UInt8.toNat_toUInt64]
    have : B[a].toNat = 1 := by omega
    rw [this]; rfl
structure RofW (w u : World) (gB gS gR : Nat) (B : List UInt8) (s : Su) : Prop where
  hB : Blk u gB 37 (B.map b8)
  hS : Blk u gS 82 (suC s)
  hR : Blk u gR 82 (suC zeroS)
  hb : Below w.heap.size w u
  n1 : gB ≠ gS
  n2 : gR ≠ gS
  l1 : w.heap.size ≤ gS
  l2 : w.heap.size ≤ gR
theorem RofW.gb {w u x : World} {gB gS gR : Nat} {B : List UInt8} {s : Su} (h : RofW w u gB gS gR B s) (g : GB u x) : RofW w x gB gS gR B s :=
  ⟨h.hB.gb g, h.hS.gb g, h.hR.gb g, bgb h.hb g h.hb.size, h.n1, h.n2, h.l1, h.l2⟩
theorem RofW.store {w u x : World} {gB gS gR : Nat} {B : List UInt8} {s s' : Su} (h : RofW w u gB gS gR B s) (hS : Blk x gS 82 (suC s')) (hG : u.grownBy x (some gS)) : RofW w x gB gS gR B s' :=
  ⟨h.hB.grown hG (fun e => by injection e with e; exact h.n1 e), hS, h.hR.grown hG (fun e => by injection e with e; exact h.n2 e), h.hb.grown hG h.hb.size (fun k hk => by cases hk; exact h.l1), h.n1, h.n2, h.l1, h.l2⟩
set_option maxHeartbeats 8000000 in
set_option maxRecDepth 100000 in
theorem rof5_any (B : List UInt8) (w : World) (hB : B.length = 256) : Calls Try.prog 80 #[arr B] w fun e w' => e = .returned (.tuple #[suV (ofS B).1, .bool (decide ((ofS B).2 = 0))]) ∧ GB w w' := by
  have HL := Lib.hid hB
  have HOF : Hid (ofS B = if mayS (parseS B) && (blockS (parseS B) == B) then (parseS B, 0) else (zeroS, 4)) := Lib.hid rfl
  clear hB
  go_enter Try.func80, Try.ntmps80
  go_wp2_with (first | with_reducible refine halt_box 37 ?_)
  refine L.box rfl (by rfl) (by rfl) ?_
  intro w1 hB1 hG1
  simp only [Act.put, List.setIfInBounds_toArray, List.set_cons_zero, List.set_cons_succ]
  have hlt1 := hB1.lt
  go_wp2_with (first | with_reducible refine halt_alloc 82 ?_)
  refine L.alloc82 rfl (by rfl) ?_
  intro w2 hS2 hG2
  simp only [Act.put, List.setIfInBounds_toArray, List.set_cons_zero, List.set_cons_succ]
  have hlt2 := hS2.lt
  have hB2 := hB1.gb hG2
  have hg2 := GB.trans _ _ _ hG1 hG2
  have lw1 := w64_is _ (getN_lt B 16 4 (by omega))
  have lw2 := w64_is _ (getN_lt B 20 4 (by omega))
  have lw3 := w64_is _ (getN_lt B 60 4 (by omega))
  have lw4 := w64_32s
  go_upto_region 1 with fail
  go_cut [4] (fun s wx => ∃ g, s = .pointer (some ⟨g, 0, none⟩) ∧ w2.heap.size ≤ g ∧ Blk wx g 82 (suC { zeroS with tx := getN B 8 8, me := n64 (getN B 16 4), da := n64 (getN B 20 4) }) ∧ GB w2 wx)
  case first =>
    have hBd := Blk.gb hB2 (GB.drew w2)
    refine region_tree (F := fun _ => False) (.calm 0 (.calm 2 (.calm 5 (.fork 1 9 (.fork 3 9 (.calm 4 (.fork 6 9 (.calm 7 (.calm 8 (.act 9 (.last 10 .done)))) (.act 6 (.calm 7 (.calm 8 (.last 10 .done)))))) (.act 3 (.calm 4 (.act 6 (.calm 7 (.calm 8 (.last 10 .done))))))) (.act 1 (.act 3 (.calm 4 (.act 6 (.calm 7 (.calm 8 (.last 10 .done)))))))))) ) [10] (by kernel_rfl) ?_
    have hc : GB w2 w2.drew := GB.drew w2
    refine T0 (by rfl) (by rfl) (fun u hu => X.load rfl (by rfl) Try.underlying37 info37 (hu.blk hBd (fun h => h)) HL.out) ?_
    simp only [Act.put, List.setIfInBounds_toArray, List.set_cons_zero, List.set_cons_succ]
    refine T0 (by rfl) (by rfl) (fun u hu => X.load rfl (by rfl) Try.underlying37 info37 (hu.blk hBd (fun h => h)) HL.out) ?_
    simp only [Act.put, List.setIfInBounds_toArray, List.set_cons_zero, List.set_cons_succ]
    refine T0 (by rfl) (by rfl) (fun u hu => X.load rfl (by rfl) Try.underlying37 info37 (hu.blk hBd (fun h => h)) HL.out) ?_
    simp only [Act.put, List.setIfInBounds_toArray, List.set_cons_zero, List.set_cons_succ]
    refine T.fork (by rfl) (by rfl) (by rfl) (by rfl) (fun K hK => ?_) (fun K hK => ?_)
    · go_wp2_with fail
      refine (rnumber_any B 8 8 8 8 rfl rfl (by omega) (by omega) HL.out _).mono ?_
      rintro e y ⟨rfl, hby⟩
      refine hK _ _ (Fr.of_gb hby) ?_
      clear hK K
      replace hc := GB.trans _ _ _ hc hby
      clear hby
      refine T.fork (by rfl) (by rfl) (by rfl) (by rfl) (fun K hK => ?_) (fun K hK => ?_)
      · go_wp2_with fail
        refine (rnumber_any B 16 16 4 4 rfl rfl (by omega) (by omega) HL.out _).mono ?_
        rintro e y ⟨rfl, hby⟩
        refine hK _ _ (Fr.of_gb hby) ?_
        clear hK K
        replace hc := GB.trans _ _ _ hc hby
        clear hby
        (refine T0w (v := ?_) (by rfl) (by rfl) (fun u hu N hN => ?_) ?_; rotate_left; (go_simp; exact hN); simp only [Act.put, List.setIfInBounds_toArray, List.set_cons_zero, List.set_cons_succ])
        refine T.fork (by rfl) (by rfl) (by rfl) (by rfl) (fun K hK => ?_) (fun K hK => ?_)
        · go_wp2_with fail
          refine (rnumber_any B 20 20 4 4 rfl rfl (by omega) (by omega) HL.out _).mono ?_
          rintro e y ⟨rfl, hby⟩
          refine hK _ _ (Fr.of_gb hby) ?_
          clear hK K
          replace hc := GB.trans _ _ _ hc hby
          clear hby
          (refine T0w (v := ?_) (by rfl) (by rfl) (fun u hu N hN => ?_) ?_; rotate_left; (go_simp; exact hN); simp only [Act.put, List.setIfInBounds_toArray, List.set_cons_zero, List.set_cons_succ])
          refine T0 (by rfl) (by rfl) (fun u hu => X.build82v rfl (by rfl) (by rfl) (by rfl)) ?_
          simp only [Act.put, List.setIfInBounds_toArray, List.set_cons_zero, List.set_cons_succ]
          refine T1 (by rfl) (by rfl) (fun K hK => ?_)
          have hgz := Below.size hc
          refine wp_alloc82 rfl (fun z hA hGz => hK _ _ (Fr.of_gb hGz) ?_)
          clear hK K
          replace hc := GB.trans _ _ _ hc hGz
          clear hGz
          simp only [Act.put, List.setIfInBounds_toArray, List.set_cons_zero, List.set_cons_succ]
          refine T2 (by rfl) (by rfl) (fun K hK => ?_)
          refine wp_storeS (off := 0) rfl info82 (by rfl) (suV { zeroS with tx := getN B 8 8, me := n64 (getN B 16 4), da := n64 (getN B 20 4) }) (by rfl) rfl hA (by rw [suC_len _ (by rfl)]; decide) (by rfl) (suC_one _) (fun x hS hG => hK _ _ ?_)
          clear hK K
          rw [put_all _ _ (by rfl)] at hS
          refine T.done ?_
          go_wp2_with fail
          go_meet
          case rel => exact ⟨_, rfl, hgz, hS, hc.grown hG hc.size (fun k hk => by cases hk; exact hgz)⟩
        · have hgz := Below.size hc
          refine wp_alloc82 rfl (fun z hA hGz => hK _ _ (Fr.of_gb hGz) ?_)
          clear hK K
          replace hc := GB.trans _ _ _ hc hGz
          clear hGz
          simp only [Act.put, List.setIfInBounds_toArray, List.set_cons_zero, List.set_cons_succ]
          refine T1 (by rfl) (by rfl) (fun K hK => ?_)
          go_wp2_with fail
          refine (rnumber_any B 20 20 4 4 rfl rfl (by omega) (by omega) HL.out _).mono ?_
          rintro e y ⟨rfl, hby⟩
          refine hK _ _ (Fr.of_gb hby) ?_
          clear hK K
          replace hc := GB.trans _ _ _ hc hby
          replace hA := hA.gb hby
          clear hby
          (refine T0w (v := ?_) (by rfl) (by rfl) (fun u hu N hN => ?_) ?_; rotate_left; (go_simp; exact hN); simp only [Act.put, List.setIfInBounds_toArray, List.set_cons_zero, List.set_cons_succ])
          refine T0 (by rfl) (by rfl) (fun u hu => X.build82v rfl (by rfl) (by rfl) (by rfl)) ?_
          simp only [Act.put, List.setIfInBounds_toArray, List.set_cons_zero, List.set_cons_succ]
          refine T2 (by rfl) (by rfl) (fun K hK => ?_)
          refine wp_storeS (off := 0) rfl info82 (by rfl) (suV { zeroS with tx := getN B 8 8, me := n64 (getN B 16 4), da := n64 (getN B 20 4) }) (by rfl) rfl hA (by rw [suC_len _ (by rfl)]; decide) (by rfl) (suC_one _) (fun x hS hG => hK _ _ ?_)
          clear hK K
          rw [put_all _ _ (by rfl)] at hS
          refine T.done ?_
          go_wp2_with fail
          go_meet
          case rel => exact ⟨_, rfl, hgz, hS, hc.grown hG hc.size (fun k hk => by cases hk; exact hgz)⟩
      · have hgz := Below.size hc
        refine wp_alloc82 rfl (fun z hA hGz => hK _ _ (Fr.of_gb hGz) ?_)
        clear hK K
        replace hc := GB.trans _ _ _ hc hGz
        clear hGz
        simp only [Act.put, List.setIfInBounds_toArray, List.set_cons_zero, List.set_cons_succ]
        refine T1 (by rfl) (by rfl) (fun K hK => ?_)
        go_wp2_with fail
        refine (rnumber_any B 16 16 4 4 rfl rfl (by omega) (by omega) HL.out _).mono ?_
        rintro e y ⟨rfl, hby⟩
        refine hK _ _ (Fr.of_gb hby) ?_
        clear hK K
        replace hc := GB.trans _ _ _ hc hby
        replace hA := hA.gb hby
        clear hby
        (refine T0w (v := ?_) (by rfl) (by rfl) (fun u hu N hN => ?_) ?_; rotate_left; (go_simp; exact hN); simp only [Act.put, List.setIfInBounds_toArray, List.set_cons_zero, List.set_cons_succ])
        refine T1 (by rfl) (by rfl) (fun K hK => ?_)
        go_wp2_with fail
        refine (rnumber_any B 20 20 4 4 rfl rfl (by omega) (by omega) HL.out _).mono ?_
        rintro e y ⟨rfl, hby⟩
        refine hK _ _ (Fr.of_gb hby) ?_
        clear hK K
        replace hc := GB.trans _ _ _ hc hby
        replace hA := hA.gb hby
        clear hby
        (refine T0w (v := ?_) (by rfl) (by rfl) (fun u hu N hN => ?_) ?_; rotate_left; (go_simp; exact hN); simp only [Act.put, List.setIfInBounds_toArray, List.set_cons_zero, List.set_cons_succ])
        refine T0 (by rfl) (by rfl) (fun u hu => X.build82v rfl (by rfl) (by rfl) (by rfl)) ?_
        simp only [Act.put, List.setIfInBounds_toArray, List.set_cons_zero, List.set_cons_succ]
        refine T2 (by rfl) (by rfl) (fun K hK => ?_)
        refine wp_storeS (off := 0) rfl info82 (by rfl) (suV { zeroS with tx := getN B 8 8, me := n64 (getN B 16 4), da := n64 (getN B 20 4) }) (by rfl) rfl hA (by rw [suC_len _ (by rfl)]; decide) (by rfl) (suC_one _) (fun x hS hG => hK _ _ ?_)
        clear hK K
        rw [put_all _ _ (by rfl)] at hS
        refine T.done ?_
        go_wp2_with fail
        go_meet
        case rel => exact ⟨_, rfl, hgz, hS, hc.grown hG hc.size (fun k hk => by cases hk; exact hgz)⟩
    · have hgz := Below.size hc
      refine wp_alloc82 rfl (fun z hA hGz => hK _ _ (Fr.of_gb hGz) ?_)
      clear hK K
      replace hc := GB.trans _ _ _ hc hGz
      clear hGz
      simp only [Act.put, List.setIfInBounds_toArray, List.set_cons_zero, List.set_cons_succ]
      refine T1 (by rfl) (by rfl) (fun K hK => ?_)
      go_wp2_with fail
      refine (rnumber_any B 8 8 8 8 rfl rfl (by omega) (by omega) HL.out _).mono ?_
      rintro e y ⟨rfl, hby⟩
      refine hK _ _ (Fr.of_gb hby) ?_
      clear hK K
      replace hc := GB.trans _ _ _ hc hby
      replace hA := hA.gb hby
      clear hby
      refine T1 (by rfl) (by rfl) (fun K hK => ?_)
      go_wp2_with fail
      refine (rnumber_any B 16 16 4 4 rfl rfl (by omega) (by omega) HL.out _).mono ?_
      rintro e y ⟨rfl, hby⟩
      refine hK _ _ (Fr.of_gb hby) ?_
      clear hK K
      replace hc := GB.trans _ _ _ hc hby
      replace hA := hA.gb hby
      clear hby
      (refine T0w (v := ?_) (by rfl) (by rfl) (fun u hu N hN => ?_) ?_; rotate_left; (go_simp; exact hN); simp only [Act.put, List.setIfInBounds_toArray, List.set_cons_zero, List.set_cons_succ])
      refine T1 (by rfl) (by rfl) (fun K hK => ?_)
      go_wp2_with fail
      refine (rnumber_any B 20 20 4 4 rfl rfl (by omega) (by omega) HL.out _).mono ?_
      rintro e y ⟨rfl, hby⟩
      refine hK _ _ (Fr.of_gb hby) ?_
      clear hK K
      replace hc := GB.trans _ _ _ hc hby
      replace hA := hA.gb hby
      clear hby
      (refine T0w (v := ?_) (by rfl) (by rfl) (fun u hu N hN => ?_) ?_; rotate_left; (go_simp; exact hN); simp only [Act.put, List.setIfInBounds_toArray, List.set_cons_zero, List.set_cons_succ])
      refine T0 (by rfl) (by rfl) (fun u hu => X.build82v rfl (by rfl) (by rfl) (by rfl)) ?_
      simp only [Act.put, List.setIfInBounds_toArray, List.set_cons_zero, List.set_cons_succ]
      refine T2 (by rfl) (by rfl) (fun K hK => ?_)
      refine wp_storeS (off := 0) rfl info82 (by rfl) (suV { zeroS with tx := getN B 8 8, me := n64 (getN B 16 4), da := n64 (getN B 20 4) }) (by rfl) rfl hA (by rw [suC_len _ (by rfl)]; decide) (by rfl) (suC_one _) (fun x hS hG => hK _ _ ?_)
      clear hK K
      rw [put_all _ _ (by rfl)] at hS
      refine T.done ?_
      go_wp2_with fail
      go_meet
      case rel => exact ⟨_, rfl, hgz, hS, hc.grown hG hc.size (fun k hk => by cases hk; exact hgz)⟩
  case rest =>
    obtain ⟨gS, rfl, hg0, hS, hgc⟩ := hcut
    obtain ⟨Z0, hS0⟩ : ∃ Z0 : Su, Z0 = { zeroS with tx := getN B 8 8, me := n64 (getN B 16 4), da := n64 (getN B 20 4) } := ⟨_, rfl⟩
    have h0 : RofW w wc w.heap.size gS w1.heap.size B { Z0 with pg := pgUp B 0 } := by
      rw [hS0]
      exact ⟨hB2.gb hgc, hS, hS2.gb hgc, bgb hg2 hgc hg2.size, by omega, by omega, by omega, by omega⟩
    clear hS hB1 hB2 hS2 hG1 hG2 hg2 hgc
    generalize w1.heap.size = gR at *
    clear hlt1 hlt2 hg0
    go_wp2_with fail
    go_loopw [5] (fun x wr => ∃ i : Nat, i ≤ 6 ∧ x = .int .i64 i ∧ RofW w wr w.heap.size gS gR B { Z0 with pg := pgUp B i }) (fun x _ => 6 - (intOf x).toNat)
    case atStart => exact ⟨0, by omega, rfl, h0⟩
    case round =>
      obtain ⟨i, hi, rfl, h⟩ := hrel
      by_cases hlt : i < 6
      · have hpl : ({ Z0 with pg := pgUp B i } : Su).pg.length = 6 := pgUp_length B i hi
        have hpl2 : i < ({ Z0 with pg := pgUp B i } : Su).pg.length := by rw [hpl]; exact hlt
        go_wp2_with (first | with_reducible refine halt_load 37 ?_ | with_reducible refine halt_store 23 ?_)
        refine L.load rfl Try.underlying37 info37 (by rfl) h.hB HL.out (by rfl) ?_
        simp only [Act.put, List.setIfInBounds_toArray, List.set_cons_zero, List.set_cons_succ]
        go_wp2_with (first | with_reducible refine halt_load 37 ?_ | with_reducible refine halt_store 23 ?_)
        refine (rnumber_any B (24 + 4 * (i : Int)) (24 + 4 * i) 4 4 (by omega) rfl (by omega) (by omega) HL.out _).mono ?_
        rintro e y ⟨rfl, hby⟩
        replace h := h.gb hby
        clear hby
        go_wp2_with (first | with_reducible refine halt_load 37 ?_ | with_reducible refine halt_store 23 ?_)
        refine L5.store1 (off := 3 + i) (v := b32 (getN B (24 + 4 * i) 4).toUInt32) rfl info23'' (by rfl) (by rfl) h.hS (by rw [suC_len _ hpl]; omega) ⟨rfl, rfl⟩ (by rfl) ?_
        intro u' hS' hG'
        simp only [Act.put]
        rw [suC_sp _ i hpl2] at hS'
        replace h := h.store hS' hG'
        clear hS' hG'
        go_wp2_with fail
        go_roundw
        case rel => exact ⟨i + 1, by omega, by go_num, by have h2 := h; rw [show ({ Z0 with pg := pgUp B i } : Su).pg = pgUp B i from rfl, pgUp_set B i hlt] at h2; exact h2⟩
        case measure => simp [intOf]; omega
      · obtain rfl : i = 6 := by omega
        have hpl : ({ Z0 with pg := pgUp B 6 } : Su).pg.length = 6 := pgUp_length B 6 (by omega)
        obtain ⟨Z1, hS1⟩ : ∃ Z1 : Su, Z1 = { Z0 with pg := pgUp B 6 } := ⟨_, rfl⟩
        rw [← hS1] at h hpl
        clear h0
        go_upto_region 6 with fail
        replace h := h.gb (GB.drew wr)
        refine region_fr (F := (· = gS)) [(0,0),(3,0),(6,0),(9,0),(1,1),(2,0),(12,0),(4,1),(5,0),(7,1),(8,0),(10,1),(11,0),(13,1),(14,0),(15,1),(16,0),(17,1),(18,0),(19,1)] [] (by kernel_rfl) ?_
        refine S0 (by rfl) (by rfl) (fun u hu => X.load rfl (by rfl) Try.underlying37 info37 (hu.blk h.hB h.n1) HL.out) ?_
        simp only [Act.put, List.setIfInBounds_toArray, List.set_cons_zero, List.set_cons_succ]
        refine S0 (by rfl) (by rfl) (fun u hu => X.load rfl (by rfl) Try.underlying37 info37 (hu.blk h.hB h.n1) HL.out) ?_
        simp only [Act.put, List.setIfInBounds_toArray, List.set_cons_zero, List.set_cons_succ]
        refine S0 (by rfl) (by rfl) (fun u hu => X.load rfl (by rfl) Try.underlying37 info37 (hu.blk h.hB h.n1) HL.out) ?_
        simp only [Act.put, List.setIfInBounds_toArray, List.set_cons_zero, List.set_cons_succ]
        refine S0 (by rfl) (by rfl) (fun u hu => X.load rfl (by rfl) Try.underlying37 info37 (hu.blk h.hB h.n1) HL.out) ?_
        simp only [Act.put, List.setIfInBounds_toArray, List.set_cons_zero, List.set_cons_succ]
        refine S1 (by rfl) (by rfl) (fun K hK => ?_)
        go_wp2_with fail
        refine (rnumber_any B 48 48 4 4 rfl rfl (by omega) (by omega) HL.out _).mono ?_
        rintro e y ⟨rfl, hby⟩
        refine hK _ _ (Fr.of_gb hby) ?_
        clear hK K
        replace h := h.gb hby
        clear hby
        iterate 2 (refine S0w (v := ?_) (by rfl) (by rfl) (fun u hu N hN => ?_) ?_; rotate_left; (go_simp; exact hN); simp only [Act.put, List.setIfInBounds_toArray, List.set_cons_zero, List.set_cons_succ])
        refine S1 (by rfl) (by rfl) (fun K hK => ?_)
        go_wp2_with fail
        refine (rnumber_any B 52 52 4 4 rfl rfl (by omega) (by omega) HL.out _).mono ?_
        rintro e y ⟨rfl, hby⟩
        refine hK _ _ (Fr.of_gb hby) ?_
        clear hK K
        replace h := h.gb hby
        clear hby
        iterate 1 (refine S0w (v := ?_) (by rfl) (by rfl) (fun u hu N hN => ?_) ?_; rotate_left; (go_simp; exact hN); simp only [Act.put, List.setIfInBounds_toArray, List.set_cons_zero, List.set_cons_succ])
        refine S1 (by rfl) (by rfl) (fun K hK => ?_)
        go_wp2_with fail
        refine (rnumber_any B 56 56 4 4 rfl rfl (by omega) (by omega) HL.out _).mono ?_
        rintro e y ⟨rfl, hby⟩
        refine hK _ _ (Fr.of_gb hby) ?_
        clear hK K
        replace h := h.gb hby
        clear hby
        iterate 1 (refine S0w (v := ?_) (by rfl) (by rfl) (fun u hu N hN => ?_) ?_; rotate_left; (go_simp; exact hN); simp only [Act.put, List.setIfInBounds_toArray, List.set_cons_zero, List.set_cons_succ])
        refine S1 (by rfl) (by rfl) (fun K hK => ?_)
        go_wp2_with fail
        refine (rnumber_any B 60 60 4 4 rfl rfl (by omega) (by omega) HL.out _).mono ?_
        rintro e y ⟨rfl, hby⟩
        refine hK _ _ (Fr.of_gb hby) ?_
        clear hK K
        replace h := h.gb hby
        clear hby
        iterate 1 (refine S0w (v := ?_) (by rfl) (by rfl) (fun u hu N hN => ?_) ?_; rotate_left; (go_simp; exact hN); simp only [Act.put, List.setIfInBounds_toArray, List.set_cons_zero, List.set_cons_succ])
        refine S1 (by rfl) (by rfl) (fun K hK => ?_)
        refine wp_storeS (off := 9) (vs := [b32 (getN B 48 4).toUInt32]) rfl info23'' (by rfl) (b32 (getN B 48 4).toUInt32) (by rfl) rfl h.hS (by rw [suC_len _ (by exact hpl)]; omega) rfl (by intro u hu; simp only [List.mem_singleton] at hu; subst hu; rfl) (fun x hS hG => hK _ _ (Fr.of_grown hG (fun j hj => by cases hj; rfl)) ?_)
        clear hK K
        simp only [Act.put]
        rw [put_one _ _ _ (by rw [suC_len _ (by exact hpl)]; omega), suC_s9 _ (by exact hpl)] at hS
        replace h := h.store hS hG
        clear hS hG
        iterate 1 (refine S0w (v := ?_) (by rfl) (by rfl) (fun u hu N hN => ?_) ?_; rotate_left; (go_simp; exact hN); simp only [Act.put, List.setIfInBounds_toArray, List.set_cons_zero, List.set_cons_succ])
        refine S1 (by rfl) (by rfl) (fun K hK => ?_)
        refine wp_storeS (off := 10) (vs := [b32 (getN B 52 4).toUInt32]) rfl info23'' (by rfl) (b32 (getN B 52 4).toUInt32) (by rfl) rfl h.hS (by rw [suC_len _ (by exact hpl)]; omega) rfl (by intro u hu; simp only [List.mem_singleton] at hu; subst hu; rfl) (fun x hS hG => hK _ _ (Fr.of_grown hG (fun j hj => by cases hj; rfl)) ?_)
        clear hK K
        simp only [Act.put]
        rw [put_one _ _ _ (by rw [suC_len _ (by exact hpl)]; omega), suC_s10 _ (by exact hpl)] at hS
        replace h := h.store hS hG
        clear hS hG
        iterate 1 (refine S0w (v := ?_) (by rfl) (by rfl) (fun u hu N hN => ?_) ?_; rotate_left; (go_simp; exact hN); simp only [Act.put, List.setIfInBounds_toArray, List.set_cons_zero, List.set_cons_succ])
        refine S1 (by rfl) (by rfl) (fun K hK => ?_)
        refine wp_storeS (off := 11) (vs := [b32 (getN B 56 4).toUInt32]) rfl info23'' (by rfl) (b32 (getN B 56 4).toUInt32) (by rfl) rfl h.hS (by rw [suC_len _ (by exact hpl)]; omega) rfl (by intro u hu; simp only [List.mem_singleton] at hu; subst hu; rfl) (fun x hS hG => hK _ _ (Fr.of_grown hG (fun j hj => by cases hj; rfl)) ?_)
        clear hK K
        simp only [Act.put]
        rw [put_one _ _ _ (by rw [suC_len _ (by exact hpl)]; omega), suC_s11 _ (by exact hpl)] at hS
        replace h := h.store hS hG
        clear hS hG
        iterate 1 (refine S0w (v := ?_) (by rfl) (by rfl) (fun u hu N hN => ?_) ?_; rotate_left; (go_simp; exact hN); simp only [Act.put, List.setIfInBounds_toArray, List.set_cons_zero, List.set_cons_succ])
        refine S1 (by rfl) (by rfl) (fun K hK => ?_)
        refine wp_storeS (off := 12) (vs := [.int .i64 (n64 (getN B 60 4))]) rfl info3'' (by rfl) (.int .i64 (n64 (getN B 60 4))) (by rfl) rfl h.hS (by rw [suC_len _ (by exact hpl)]; omega) rfl (by intro u hu; simp only [List.mem_singleton] at hu; subst hu; rfl) (fun x hS hG => hK _ _ (Fr.of_grown hG (fun j hj => by cases hj; rfl)) ?_)
        clear hK K
        simp only [Act.put]
        rw [put_one _ _ _ (by rw [suC_len _ (by exact hpl)]; omega), suC_s12 _ (by exact hpl)] at hS
        replace h := h.store hS hG
        clear hS hG
        refine S.done ?_
        have h104 : 104 < B.length := by rw [HL.out]; omega
        have hmr := getN_one B 104 h104
        go_upto_region 7 with fail
        replace h := h.gb (GB.drew _)
        have hx := h.hB.get8 104 h104
        generalize B[104] = c104 at *
        have C0 : ∀ u, Fr (· = gS) _ u → u.cell? ⟨w.heap.size, 104, none⟩ = some (.int .u8 (n8 c104)) := fun u hu => by rw [← hx]; exact World.cell?_of_block (hu.block _ h.hB.lt h.n1)
        refine region_fr (F := (· = gS)) [(0,0),(2,0),(4,0),(6,0),(8,0),(10,0),(11,0),(12,0),(1,1),(3,1),(5,1),(7,1),(9,1),(13,0),(14,0),(15,1)] [] (by kernel_rfl) ?_
        have HMR := Lib.hid hmr
        refine S0 (by rfl) (by rfl) (fun u hu => X.load rfl (by rfl) Try.underlying37 info37 (hu.blk h.hB h.n1) HL.out) ?_
        simp only [Act.put, List.setIfInBounds_toArray, List.set_cons_zero, List.set_cons_succ]
        refine S0 (by rfl) (by rfl) (fun u hu => X.load rfl (by rfl) Try.underlying37 info37 (hu.blk h.hB h.n1) HL.out) ?_
        simp only [Act.put, List.setIfInBounds_toArray, List.set_cons_zero, List.set_cons_succ]
        refine S0 (by rfl) (by rfl) (fun u hu => X.load rfl (by rfl) Try.underlying37 info37 (hu.blk h.hB h.n1) HL.out) ?_
        simp only [Act.put, List.setIfInBounds_toArray, List.set_cons_zero, List.set_cons_succ]
        refine S0 (by rfl) (by rfl) (fun u hu => X.load rfl (by rfl) Try.underlying37 info37 (hu.blk h.hB h.n1) HL.out) ?_
        simp only [Act.put, List.setIfInBounds_toArray, List.set_cons_zero, List.set_cons_succ]
        refine S0 (by rfl) (by rfl) (fun u hu => X.load rfl (by rfl) Try.underlying37 info37 (hu.blk h.hB h.n1) HL.out) ?_
        simp only [Act.put, List.setIfInBounds_toArray, List.set_cons_zero, List.set_cons_succ]
        iterate 3 (refine S0w (v := ?_) (by rfl) (by rfl) (fun u hu N hN => ?_) ?_; rotate_left; (go_simp; exact hN); simp only [Act.put, List.setIfInBounds_toArray, List.set_cons_zero, List.set_cons_succ])
        clear C0
        have HEQ : Hid ([b64 (getN B 64 8), b64 (getN B 72 8), b64 (getN B 80 8), b64 (getN B 88 8), b64 (getN B 96 8), .bool (n8 c104 == 1)] = stC (parseS B)) := Lib.hid (by rw [← HMR.out]; rfl)
        refine S1 (by rfl) (by rfl) (fun K hK => ?_)
        go_wp2_with fail
        refine (rnumber_any B 64 64 8 8 rfl rfl (by omega) (by omega) HL.out _).mono ?_
        rintro e y ⟨rfl, hby⟩
        refine hK _ _ (Fr.of_gb hby) ?_
        clear hK K
        replace h := h.gb hby
        clear hby
        refine S1 (by rfl) (by rfl) (fun K hK => ?_)
        go_wp2_with fail
        refine (rnumber_any B 72 72 8 8 rfl rfl (by omega) (by omega) HL.out _).mono ?_
        rintro e y ⟨rfl, hby⟩
        refine hK _ _ (Fr.of_gb hby) ?_
        clear hK K
        replace h := h.gb hby
        clear hby
        refine S1 (by rfl) (by rfl) (fun K hK => ?_)
        go_wp2_with fail
        refine (rnumber_any B 80 80 8 8 rfl rfl (by omega) (by omega) HL.out _).mono ?_
        rintro e y ⟨rfl, hby⟩
        refine hK _ _ (Fr.of_gb hby) ?_
        clear hK K
        replace h := h.gb hby
        clear hby
        refine S1 (by rfl) (by rfl) (fun K hK => ?_)
        go_wp2_with fail
        refine (rnumber_any B 88 88 8 8 rfl rfl (by omega) (by omega) HL.out _).mono ?_
        rintro e y ⟨rfl, hby⟩
        refine hK _ _ (Fr.of_gb hby) ?_
        clear hK K
        replace h := h.gb hby
        clear hby
        refine S1 (by rfl) (by rfl) (fun K hK => ?_)
        go_wp2_with fail
        refine (rnumber_any B 96 96 8 8 rfl rfl (by omega) (by omega) HL.out _).mono ?_
        rintro e y ⟨rfl, hby⟩
        refine hK _ _ (Fr.of_gb hby) ?_
        clear hK K
        replace h := h.gb hby
        clear hby
        refine S0 (by rfl) (by rfl) (fun u hu => X.build77 rfl (by rfl) (by rfl) (by rfl) (by rfl) (by rfl) (by rfl)) ?_
        simp only [Act.put, List.setIfInBounds_toArray, List.set_cons_zero, List.set_cons_succ]
        iterate 1 (refine S0w (v := ?_) (by rfl) (by rfl) (fun u hu N hN => ?_) ?_; rotate_left; (go_simp; exact hN); simp only [Act.put, List.setIfInBounds_toArray, List.set_cons_zero, List.set_cons_succ])
        refine S1 (by rfl) (by rfl) (fun K hK => ?_)
        refine wp_storeS (off := 13) (vs := [b64 (getN B 64 8), b64 (getN B 72 8), b64 (getN B 80 8), b64 (getN B 88 8), b64 (getN B 96 8), .bool (n8 c104 == 1)]) rfl info77 (by rfl) (.agg #[b64 (getN B 64 8), b64 (getN B 72 8), b64 (getN B 80 8), b64 (getN B 88 8), b64 (getN B 96 8), .bool (n8 c104 == 1)]) (by rfl) rfl h.hS (by rw [suC_len _ (by exact hpl)]; decide) rfl (by rw [HEQ.out]; exact stC_one _) (fun xE hS hG => hK _ _ (Fr.of_grown hG (fun j hj => by cases hj; rfl)) ?_)
        clear hK K
        simp only [Act.put]
        rw [HEQ.out, suC_s13 _ _ (by exact hpl)] at hS
        replace h := h.store hS hG
        clear hS hG
        refine S.done ?_
        have h9 : RofW w xE w.heap.size gS gR B (parseS B) := by
          have e : parseS B = { Z1 with top := (getN B 48 4).toUInt32, base := (getN B 52 4).toUInt32, stage := (getN B 56 4).toUInt32, cur := n64 (getN B 60 4), ep := (parseS B).ep, la := (parseS B).la, sq := (parseS B).sq, bl := (parseS B).bl, bq := (parseS B).bq, mr := (parseS B).mr } := by
            rw [hS1, hS0]; rfl
          rw [e]; exact h
        have hpk := parse_ok B
        have HM := Lib.hid (fun u => rmay5_any (parseS B) hpk u)
        have HB5 := Lib.hid (fun hm u => rblock5_any (parseS B) hpk hm u)
        have hp6 := hpk.pg
        have HSL := Lib.hid (blockS_length (parseS B))
        clear h hS1 hS0 hpl lw1 lw2 lw3 lw4 HMR HEQ hmr h104 hx
        generalize parseS B = s at *
        go_upto_region 8 with fail
        replace h9 := h9.gb (GB.drew _)
        go_cut [67] (fun q wx => q = .bool (!(mayS s && (blockS s == B))) ∧ RofW w wx w.heap.size gS gR B s)
        case first =>
          cases hm : mayS s
          · have HM2 : Hid (∀ u, Calls Try.prog 76 #[suV s] u fun e w' => e = .returned (.bool false) ∧ GB u w') := Lib.hid (fun u => by have := HM.out u; rwa [hm] at this)
            have HQ : Hid ((mayS s && (blockS s == B)) = false) := Lib.hid (by rw [hm]; rfl)
            clear hm HM HB5
            refine region_gb [(0,0),(1,1),(2,0),(3,0),(4,0),(6,0),(5,1),(7,0),(8,0)] [] (by kernel_rfl) ?_
            refine S0 (by rfl) (by rfl) (fun u hu => X.load82 rfl (by rfl) (h9.hS.gb hu) hp6) ?_
            simp only [Act.put, List.setIfInBounds_toArray, List.set_cons_zero, List.set_cons_succ]
            refine S1 (by rfl) (by rfl) (fun K hK => ?_)
            go_wp2_with fail
            refine (HM2.out _).mono ?_
            rintro e y ⟨rfl, hby⟩
            refine hK _ _ hby ?_
            clear hK K
            replace h9 := h9.gb hby
            clear hby
            iterate 2 (refine S0w (v := ?_) (by rfl) (by rfl) (fun u hu N hN => ?_) ?_; rotate_left; (go_simp; exact hN); simp only [Act.put, List.setIfInBounds_toArray, List.set_cons_zero, List.set_cons_succ])
            iterate 2 (refine S0n (by rfl) (by rfl) ?_; simp only [Act.put, List.setIfInBounds_toArray, List.set_cons_zero, List.set_cons_succ])
            (refine S1n GB.refl (by rfl) (by rfl) ?_; simp only [Act.put, List.setIfInBounds_toArray, List.set_cons_zero, List.set_cons_succ])
            iterate 1 (refine S0n (by rfl) (by rfl) ?_; simp only [Act.put, List.setIfInBounds_toArray, List.set_cons_zero, List.set_cons_succ])
            iterate 1 (refine S0w (v := ?_) (by rfl) (by rfl) (fun u hu N hN => ?_) ?_; rotate_left; (go_simp; exact hN); simp only [Act.put, List.setIfInBounds_toArray, List.set_cons_zero, List.set_cons_succ])
            refine S.done ?_
            go_wp2_with fail
            go_meet
            case rel => exact ⟨by rw [HQ.out]; rfl, h9⟩
          · have HM2 : Hid (∀ u, Calls Try.prog 76 #[suV s] u fun e w' => e = .returned (.bool true) ∧ GB u w') := Lib.hid (fun u => by have := HM.out u; rwa [hm] at this)
            have HB6 := Lib.hid (HB5.out hm)
            have HQ : Hid ((mayS s && (blockS s == B)) = (blockS s == B)) := Lib.hid (by rw [hm]; rfl)
            clear hm HM HB5
            generalize blockS s = C at *
            refine region_gb [(0,0),(1,1),(2,0),(3,0),(4,0),(6,0),(5,1),(7,0),(8,0)] [] (by kernel_rfl) ?_
            refine S0 (by rfl) (by rfl) (fun u hu => X.load82 rfl (by rfl) (h9.hS.gb hu) hp6) ?_
            simp only [Act.put, List.setIfInBounds_toArray, List.set_cons_zero, List.set_cons_succ]
            refine S1 (by rfl) (by rfl) (fun K hK => ?_)
            go_wp2_with fail
            refine (HM2.out _).mono ?_
            rintro e y ⟨rfl, hby⟩
            refine hK _ _ hby ?_
            clear hK K
            replace h9 := h9.gb hby
            clear hby
            iterate 2 (refine S0w (v := ?_) (by rfl) (by rfl) (fun u hu N hN => ?_) ?_; rotate_left; (go_simp; exact hN); simp only [Act.put, List.setIfInBounds_toArray, List.set_cons_zero, List.set_cons_succ])
            refine S0 (by rfl) (by rfl) (fun u hu => X.load82 rfl (by rfl) (h9.hS.gb hu) hp6) ?_
            simp only [Act.put, List.setIfInBounds_toArray, List.set_cons_zero, List.set_cons_succ]
            refine S0 (by rfl) (by rfl) (fun u hu => X.load rfl (by rfl) Try.underlying37 info37 (h9.hB.gb hu) HL.out) ?_
            simp only [Act.put, List.setIfInBounds_toArray, List.set_cons_zero, List.set_cons_succ]
            refine S1 (by rfl) (by rfl) (fun K hK => ?_)
            go_wp2_with fail
            refine (HB6.out _).mono ?_
            rintro e y2 ⟨rfl, hby⟩
            refine hK _ _ hby ?_
            clear hK K
            replace h9 := h9.gb hby
            clear hby
            refine S0 (by rfl) (by rfl) (fun u hu => X.neq rfl (by rfl) (by rfl) Try.underlying37 guard37 HSL.out HL.out) ?_
            simp only [Act.put, List.setIfInBounds_toArray, List.set_cons_zero, List.set_cons_succ]
            obtain ⟨q, hq⟩ : ∃ q, (C == B) = q := ⟨_, rfl⟩
            replace HQ : Hid ((mayS s && (C == B)) = q) := Lib.hid (by rw [HQ.out, hq])
            rw [hq]
            clear hq
            cases q
            · iterate 1 (refine S0w (v := ?_) (by rfl) (by rfl) (fun u hu N hN => ?_) ?_; rotate_left; (go_simp; exact hN); simp only [Act.put, List.setIfInBounds_toArray, List.set_cons_zero, List.set_cons_succ])
              refine S.done ?_
              go_wp2_with fail
              go_meet
              case rel => exact ⟨by rw [HQ.out]; rfl, h9⟩
            · iterate 1 (refine S0w (v := ?_) (by rfl) (by rfl) (fun u hu N hN => ?_) ?_; rotate_left; (go_simp; exact hN); simp only [Act.put, List.setIfInBounds_toArray, List.set_cons_zero, List.set_cons_succ])
              refine S.done ?_
              go_wp2_with fail
              go_meet
              case rel => exact ⟨by rw [HQ.out]; rfl, h9⟩
        case rest =>
          obtain ⟨rfl, h⟩ := hcut
          cases hq : mayS s && (blockS s == B)
          · have HO : Hid (ofS B = (zeroS, 4)) := Lib.hid (by rw [HOF.out, hq]; rfl)
            clear HOF
            go_wp2_with (first | with_reducible refine halt_build 82 ?_ | with_reducible refine halt_store 82 ?_ | with_reducible refine halt_load 82 ?_)
            refine L.val (by rfl) (X.build82_0 rfl) ?_
            simp only [Act.put, List.setIfInBounds_toArray, List.set_cons_zero, List.set_cons_succ]
            go_wp2_with (first | with_reducible refine halt_build 82 ?_ | with_reducible refine halt_store 82 ?_ | with_reducible refine halt_load 82 ?_)
            refine L.store82 (s := zeroS) rfl (by rfl) (by rfl) h.hR (by rw [suC_len _ (by rfl)]) rfl (by rfl) ?_
            intro w9 hS9 hG9
            simp only [Act.put]
            go_wp2_with fail
            refine ret_su2 rfl (by rfl) hS9 rfl (by rfl) rfl ?_
            exact ⟨by rw [HO.out]; rfl, h.hb.grown hG9 h.hb.size (fun k hk => by cases hk; exact h.l2)⟩
          · have HO : Hid (ofS B = (s, 0)) := Lib.hid (by rw [HOF.out, hq]; rfl)
            clear HOF
            go_wp2_with (first | with_reducible refine halt_build 82 ?_ | with_reducible refine halt_store 82 ?_ | with_reducible refine halt_load 82 ?_)
            refine L.load82 rfl (by rfl) h.hS hp6 (by rfl) ?_
            simp only [Act.put, List.setIfInBounds_toArray, List.set_cons_zero, List.set_cons_succ]
            go_wp2_with (first | with_reducible refine halt_build 82 ?_ | with_reducible refine halt_store 82 ?_ | with_reducible refine halt_load 82 ?_)
            refine L.store82 (s := s) rfl (by rfl) (by rfl) h.hR (by rw [suC_len _ (by rfl)]) hp6 (by rfl) ?_
            intro w9 hS9 hG9
            simp only [Act.put]
            go_wp2_with fail
            refine ret_su2 rfl (by rfl) hS9 hp6 (by rfl) rfl ?_
            exact ⟨by rw [HO.out]; rfl, h.hb.grown hG9 h.hb.size (fun k hk => by cases hk; exact h.l2)⟩
end Go.Proofs.Ytiihllfjlgbfcaa
