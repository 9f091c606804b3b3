/- Arguments that are superblocks, opened. -/
import Derived.Test.YtiihllfjlgbfcaaSTools
import Derived.Test.YtiihllfjlgbfcaaArgs2
namespace Go.Proofs.Ytiihllfjlgbfcaa
open Go.RowKit Go.ChangeShapes Go.WideShapes
theorem words_of_cells : ∀ (cs : List Value), (∀ i, i < cs.length → ∃ c, cs[i]? = some (b32 c)) → ∃ B : List UInt32, cs = B.map b32
  | [], _ => ⟨[], rfl⟩
  | v :: cs, h => by
    obtain ⟨c, hc⟩ := h 0 (by simp)
    obtain ⟨B, rfl⟩ := words_of_cells cs fun i hi => h (i + 1) (by simpa using hi)
    simp at hc; subst hc
    exact ⟨c :: B, rfl⟩
theorem trod_words {H : Type} {enc : TypeId × Value → H} {P : Program} {w : World} {base : Nat} {spare : Nat → Bool} {held : Bool} {fuel : Nat} {T : TypeId} {n : Nat} {cs : List Value} {x : DataW H × List MemPlace}
    (ht : P.underlying T = some (.array n 23)) (h5 : P.underlying 23 = some (.int .u32)) (hc : P.cellsOf T = n) (hc5 : P.cellsOf 23 = 1)
    (h : DataW.trod enc P w base spare held fuel T cs = some x) : ∃ B : List UInt32, B.length = n ∧ cs = B.map b32 := by
  cases fuel with
  | zero => simp [DataW.trod] at h
  | succ m =>
    rw [DataW.trod_step] at h
    unfold DataW.trodStep at h
    simp only [ht, hc, hc5, Nat.mul_one] at h
    split at h
    · rename_i hn
      simp only [Option.map_eq_some_iff] at h
      obtain ⟨ys, hy, rfl⟩ := h
      obtain ⟨h1, -⟩ := mapM_each hy
      have hb : ∀ i, i < cs.length → ∃ c, cs[i]? = some (b32 c) := by
        intro i hi
        obtain ⟨y, hf⟩ := h1 i (by simp; omega)
        obtain ⟨z, hz, -, hw⟩ := DataW.trod_int h5 hf
        obtain ⟨c, rfl⟩ := n32_of hw
        refine ⟨c, ?_⟩
        have : ((cs.drop i).take 1)[0]? = some (b32 c) := by rw [hz]; rfl
        simpa [List.getElem?_take, List.getElem?_drop] using this
      obtain ⟨B, rfl⟩ := words_of_cells cs hb
      exact ⟨B, by simpa using hn, rfl⟩
    · cases h
theorem trod_i64 {H : Type} {enc : TypeId × Value → H} {W : World} {base : Nat} {sp : Nat → Bool} {held : Bool} {n : Nat} {v : Value} {o : Option (DataW H × List MemPlace)} (h : DataW.trod enc Try.prog W base sp held n 3 [v] = o) (ho : o.isSome = true) : ∃ i : Int, v = .int .i64 i ∧ -9223372036854775808 ≤ i ∧ i ≤ 9223372036854775807 := by
  obtain ⟨x, rfl⟩ := Option.isSome_iff_exists.1 ho
  obtain ⟨i, e, -, w⟩ := DataW.trod_int Try.underlying3 h
  simp at e
  have : -9223372036854775808 ≤ i ∧ i ≤ 9223372036854775807 := by simpa [Lit.wf, IntKind.min, IntKind.max, IntKind.bits, IntKind.signed] using w
  exact ⟨i, e, this⟩
theorem trod_u64 {H : Type} {enc : TypeId × Value → H} {W : World} {base : Nat} {sp : Nat → Bool} {held : Bool} {n : Nat} {v : Value} {o : Option (DataW H × List MemPlace)} (h : DataW.trod enc Try.prog W base sp held n 75 [v] = o) (ho : o.isSome = true) : ∃ i : UInt64, v = b64 i := by
  obtain ⟨x, rfl⟩ := Option.isSome_iff_exists.1 ho
  obtain ⟨i, e, -, w⟩ := DataW.trod_int Try.underlying75 h
  obtain ⟨c, rfl⟩ := n64_of w
  simp at e
  exact ⟨c, e⟩
theorem trod_u32 {H : Type} {enc : TypeId × Value → H} {W : World} {base : Nat} {sp : Nat → Bool} {held : Bool} {n : Nat} {v : Value} {o : Option (DataW H × List MemPlace)} (h : DataW.trod enc Try.prog W base sp held n 23 [v] = o) (ho : o.isSome = true) : ∃ i : UInt32, v = b32 i := by
  obtain ⟨x, rfl⟩ := Option.isSome_iff_exists.1 ho
  obtain ⟨i, e, -, w⟩ := DataW.trod_int Try.underlying23 h
  obtain ⟨c, rfl⟩ := n32_of w
  simp at e
  exact ⟨c, e⟩
theorem trod_bo {H : Type} {enc : TypeId × Value → H} {W : World} {base : Nat} {sp : Nat → Bool} {held : Bool} {n : Nat} {v : Value} {o : Option (DataW H × List MemPlace)} (h : DataW.trod enc Try.prog W base sp held n 4 [v] = o) (ho : o.isSome = true) : ∃ i : Bool, v = .bool i := by
  obtain ⟨x, rfl⟩ := Option.isSome_iff_exists.1 ho
  obtain ⟨i, e, -⟩ := DataW.trod_bool Try.underlying4 h
  simp at e
  exact ⟨i, e⟩
set_option maxRecDepth 100000 in
theorem state_of_cells {H : Type} {enc : TypeId × Value → H} {W : World} {base : Nat} {sp : Nat → Bool} {held : Bool} {n : Nat} {cs : List Value} {x : DataW H × List MemPlace} (h : DataW.trod enc Try.prog W base sp held n 77 cs = some x) :
    ∃ (e l q b c : UInt64) (m : Bool), cs = [b64 e, b64 l, b64 q, b64 b, b64 c, .bool m] := by
  obtain ⟨xs, k, -, -, hl, hlen, hf⟩ := DataW.trod_struct Try.underlying77 h
  rw [show Try.prog.cellsOf 77 = 6 by kernel_rfl] at hl
  have c75 : Try.prog.cellsOf 75 = 1 := by kernel_rfl
  have c4 : Try.prog.cellsOf 4 = 1 := by kernel_rfl
  have hs : ∀ i, i < 6 → (xs[i]?).isSome = true := fun i hi => by
    have : i < xs.length := by rw [hlen]; exact hi
    rw [List.getElem?_eq_getElem this]; rfl
  match cs, hl with
  | [v0, v1, v2, v3, v4, v5], _ =>
    have f0 : DataW.trod enc Try.prog W base sp held k 75 (([v0, v1, v2, v3, v4, v5].drop 0).take (Try.prog.cellsOf 75)) = xs[0]? := hf 0 _ rfl
    rw [c75] at f0
    simp only [List.drop, List.take] at f0
    have f1 : DataW.trod enc Try.prog W base sp held k 75 (([v0, v1, v2, v3, v4, v5].drop 1).take (Try.prog.cellsOf 75)) = xs[1]? := hf 1 _ rfl
    rw [c75] at f1
    simp only [List.drop, List.take] at f1
    have f2 : DataW.trod enc Try.prog W base sp held k 75 (([v0, v1, v2, v3, v4, v5].drop 2).take (Try.prog.cellsOf 75)) = xs[2]? := hf 2 _ rfl
    rw [c75] at f2
    simp only [List.drop, List.take] at f2
    have f3 : DataW.trod enc Try.prog W base sp held k 75 (([v0, v1, v2, v3, v4, v5].drop 3).take (Try.prog.cellsOf 75)) = xs[3]? := hf 3 _ rfl
    rw [c75] at f3
    simp only [List.drop, List.take] at f3
    have f4 : DataW.trod enc Try.prog W base sp held k 75 (([v0, v1, v2, v3, v4, v5].drop 4).take (Try.prog.cellsOf 75)) = xs[4]? := hf 4 _ rfl
    rw [c75] at f4
    simp only [List.drop, List.take] at f4
    have f5 : DataW.trod enc Try.prog W base sp held k 4 (([v0, v1, v2, v3, v4, v5].drop 5).take (Try.prog.cellsOf 4)) = xs[5]? := hf 5 _ rfl
    rw [c4] at f5
    simp only [List.drop, List.take] at f5
    obtain ⟨e, rfl⟩ := trod_u64 f0 (hs 0 (by omega))
    obtain ⟨l, rfl⟩ := trod_u64 f1 (hs 1 (by omega))
    obtain ⟨q, rfl⟩ := trod_u64 f2 (hs 2 (by omega))
    obtain ⟨b, rfl⟩ := trod_u64 f3 (hs 3 (by omega))
    obtain ⟨c, rfl⟩ := trod_u64 f4 (hs 4 (by omega))
    obtain ⟨m, rfl⟩ := trod_bo f5 (hs 5 (by omega))
    exact ⟨e, l, q, b, c, m, rfl⟩
set_option maxRecDepth 100000 in
theorem su_of_cells {H : Type} {enc : TypeId × Value → H} {W : World} {base : Nat} {sp : Nat → Bool} {held : Bool} {n : Nat} {cs : List Value} {x : DataW H × List MemPlace} (h : DataW.trod enc Try.prog W base sp held n 82 cs = some x) :
    ∃ s : Su, s.Ok ∧ cs = suC s := by
  obtain ⟨xs, k, -, -, hl, hlen, hf⟩ := DataW.trod_struct Try.underlying82 h
  rw [show Try.prog.cellsOf 82 = 19 by kernel_rfl] at hl
  have c75 : Try.prog.cellsOf 75 = 1 := by kernel_rfl
  have c3 : Try.prog.cellsOf 3 = 1 := by kernel_rfl
  have c23 : Try.prog.cellsOf 23 = 1 := by kernel_rfl
  have c80 : Try.prog.cellsOf 80 = 6 := by kernel_rfl
  have c77 : Try.prog.cellsOf 77 = 6 := by kernel_rfl
  have hs : ∀ i, i < 9 → ∃ y, xs[i]? = some y := fun i hi => by
    have : i < xs.length := by rw [hlen]; exact hi
    exact ⟨_, List.getElem?_eq_getElem this⟩
  have hs' : ∀ i, i < 9 → (xs[i]?).isSome = true := fun i hi => by obtain ⟨y, hy⟩ := hs i hi; rw [hy]; rfl
  match cs, hl with
  | [v0, v1, v2, v3, v4, v5, v6, v7, v8, v9, v10, v11, v12, v13, v14, v15, v16, v17, v18], _ =>
    have f0 : DataW.trod enc Try.prog W base sp held k 75 (([v0, v1, v2, v3, v4, v5, v6, v7, v8, v9, v10, v11, v12, v13, v14, v15, v16, v17, v18].drop 0).take (Try.prog.cellsOf 75)) = xs[0]? := hf 0 _ rfl
    rw [c75] at f0
    simp only [List.drop, List.take] at f0
    have f1 : DataW.trod enc Try.prog W base sp held k 3 (([v0, v1, v2, v3, v4, v5, v6, v7, v8, v9, v10, v11, v12, v13, v14, v15, v16, v17, v18].drop 1).take (Try.prog.cellsOf 3)) = xs[1]? := hf 1 _ rfl
    rw [c3] at f1
    simp only [List.drop, List.take] at f1
    have f2 : DataW.trod enc Try.prog W base sp held k 3 (([v0, v1, v2, v3, v4, v5, v6, v7, v8, v9, v10, v11, v12, v13, v14, v15, v16, v17, v18].drop 2).take (Try.prog.cellsOf 3)) = xs[2]? := hf 2 _ rfl
    rw [c3] at f2
    simp only [List.drop, List.take] at f2
    have f3 : DataW.trod enc Try.prog W base sp held k 80 (([v0, v1, v2, v3, v4, v5, v6, v7, v8, v9, v10, v11, v12, v13, v14, v15, v16, v17, v18].drop 3).take (Try.prog.cellsOf 80)) = xs[3]? := hf 3 _ rfl
    rw [c80] at f3
    simp only [List.drop, List.take] at f3
    have f4 : DataW.trod enc Try.prog W base sp held k 23 (([v0, v1, v2, v3, v4, v5, v6, v7, v8, v9, v10, v11, v12, v13, v14, v15, v16, v17, v18].drop 9).take (Try.prog.cellsOf 23)) = xs[4]? := hf 4 _ rfl
    rw [c23] at f4
    simp only [List.drop, List.take] at f4
    have f5 : DataW.trod enc Try.prog W base sp held k 23 (([v0, v1, v2, v3, v4, v5, v6, v7, v8, v9, v10, v11, v12, v13, v14, v15, v16, v17, v18].drop 10).take (Try.prog.cellsOf 23)) = xs[5]? := hf 5 _ rfl
    rw [c23] at f5
    simp only [List.drop, List.take] at f5
    have f6 : DataW.trod enc Try.prog W base sp held k 23 (([v0, v1, v2, v3, v4, v5, v6, v7, v8, v9, v10, v11, v12, v13, v14, v15, v16, v17, v18].drop 11).take (Try.prog.cellsOf 23)) = xs[6]? := hf 6 _ rfl
    rw [c23] at f6
    simp only [List.drop, List.take] at f6
    have f7 : DataW.trod enc Try.prog W base sp held k 3 (([v0, v1, v2, v3, v4, v5, v6, v7, v8, v9, v10, v11, v12, v13, v14, v15, v16, v17, v18].drop 12).take (Try.prog.cellsOf 3)) = xs[7]? := hf 7 _ rfl
    rw [c3] at f7
    simp only [List.drop, List.take] at f7
    have f8 : DataW.trod enc Try.prog W base sp held k 77 (([v0, v1, v2, v3, v4, v5, v6, v7, v8, v9, v10, v11, v12, v13, v14, v15, v16, v17, v18].drop 13).take (Try.prog.cellsOf 77)) = xs[8]? := hf 8 _ rfl
    rw [c77] at f8
    simp only [List.drop, List.take] at f8
    obtain ⟨tx, rfl⟩ := trod_u64 f0 (hs' 0 (by omega))
    obtain ⟨me, rfl, hme⟩ := trod_i64 f1 (hs' 1 (by omega))
    obtain ⟨da, rfl, hda⟩ := trod_i64 f2 (hs' 2 (by omega))
    obtain ⟨y3, hy3⟩ := hs 3 (by omega)
    rw [hy3] at f3
    obtain ⟨pg, hpl, hpg⟩ := trod_words Try.underlying80 Try.underlying23 c80 c23 f3
    obtain ⟨top, rfl⟩ := trod_u32 f4 (hs' 4 (by omega))
    obtain ⟨base, rfl⟩ := trod_u32 f5 (hs' 5 (by omega))
    obtain ⟨stage, rfl⟩ := trod_u32 f6 (hs' 6 (by omega))
    obtain ⟨cur, rfl, hcur⟩ := trod_i64 f7 (hs' 7 (by omega))
    obtain ⟨y8, hy8⟩ := hs 8 (by omega)
    rw [hy8] at f8
    obtain ⟨e, l, q, b, c, m, hst⟩ := state_of_cells f8
    match pg, hpl with
    | [p0, p1, p2, p3, p4, p5], _ =>
      simp only [List.map_cons, List.map_nil, List.cons.injEq, and_true] at hpg hst
      obtain ⟨rfl, rfl, rfl, rfl, rfl, rfl⟩ := hpg
      obtain ⟨rfl, rfl, rfl, rfl, rfl, rfl⟩ := hst
      exact ⟨⟨tx, me, da, [p0, p1, p2, p3, p4, p5], top, base, stage, cur, e, l, q, b, c, m⟩, ⟨rfl, hme, hda, hcur⟩, rfl⟩
set_option maxRecDepth 100000 in
theorem open_su {H : Type} {enc : TypeId × Value → H} {W : World} {base : Nat} {sp : Nat → Bool} {held : Bool} {v : Value} {d : DataW H} {ps : List MemPlace} {r : Reach} {b0 : Nat} (hok : Value.okWide Try.prog W r b0 82 v)
    (hd : DataW.Trod enc Try.prog W base sp held 82 v d ps) : ∃ s : Su, s.Ok ∧ v = suV s := by
  obtain ⟨cs, rfl, -⟩ := okWide_struct Try.underlying82 hok
  obtain ⟨fuel, hf⟩ := hd
  obtain ⟨s, hs, hcs⟩ := su_of_cells hf
  refine ⟨s, hs, ?_⟩
  simp only [Value.cells] at hcs
  unfold suV
  rw [← hcs]
end Go.Proofs.Ytiihllfjlgbfcaa
