/- Tools for superblocks: loads, stores and builds of structs, and when two are the same. -/
import Derived.Test.YtiihllfjlgbfcaaSPlain
import Derived.Test.YtiihllfjlgbfcaaROf
import Derived.Test.YtiihllfjlgbfcaaFr
import Derived.Deep.AppendSrc
namespace Go.Proofs.Ytiihllfjlgbfcaa
open Go.RowKit
def suV (s : Su) : Value := .agg (suC s).toArray
theorem info82 : (Try.prog.info? 82).map (·.size) = some 19 := by kernel_rfl
theorem zero82 : (Try.prog.info? 82).map (·.zero) = some (some (suV zeroS)) := by kernel_rfl
theorem guard82 : Try.prog.eqGuardType Try.prog.depth 82 = false := by kernel_rfl
theorem info77 : (Try.prog.info? 77).map (·.size) = some 6 := by kernel_rfl
theorem zero77 : (Try.prog.info? 77).map (·.zero) = some (some (.agg #[.int .u64 0, .int .u64 0, .int .u64 0, .int .u64 0, .int .u64 0, .bool false])) := by kernel_rfl
theorem info167' : (Try.prog.info? 167).map (fun i => (i.zero, i.size, i.bytes)) = some (some (.agg #[.int .u64 0, .int .u64 0]), 2, 16) := by kernel_rfl
theorem info167 : (Try.prog.info? 167).map (·.size) = some 2 := by kernel_rfl
theorem elem167 : Elem 165 167 2 16 (.agg #[.int .u64 0, .int .u64 0]) := by
  obtain ⟨i, hi, hz0, hz1, hz2⟩ := info_parts info167'
  exact ⟨Try.underlying165, ⟨i, hi, hz0, hz1, hz2⟩, rfl, by decide, by decide⟩
theorem info80 : (Try.prog.info? 80).map (·.size) = some 6 := by kernel_rfl
theorem info23' : (Try.prog.info? 23).map (fun i => (i.zero, i.size, i.bytes)) = some (some (.int .u32 0), 1, 4) := by kernel_rfl
theorem fields82 : Try.prog.underlying 82 = some (.struct (Try.prog.fieldsOf 82)) := by kernel_rfl
theorem fields77 : Try.prog.underlying 77 = some (.struct (Try.prog.fieldsOf 77)) := by kernel_rfl
theorem stood82 : Try.prog.stoodInHeld 82 = false := by kernel_rfl
theorem stood77 : Try.prog.stoodInHeld 77 = false := by kernel_rfl
/-- Arrays of numbers are the same if their numbers are. -/
theorem run_equal_words {T : TypeId} {n : Nat} {P : Program} (hT : P.underlying T = some (.array n 23)) (h5 : P.underlying 23 = some (.int .u32)) (hs : (P.info? 23).map (·.size) = some 1) (l m : List UInt32) (hl : l.length = n) (hm : m.length = n) (d : Nat) (w : World) :
    (Op.equalIn (d + 2) T (.agg (l.map b32).toArray) (.agg (m.map b32).toArray)).run P w = .ok (l == m) w := by
  obtain ⟨i5, hi5, hs5⟩ := Option.map_eq_some_iff.1 hs
  have hpart : ∀ (k : List UInt32) (j : Nat) (hj : j < k.length) (u : World), (part 23 (k.map b32).toArray (j * 1)).run P u = .ok (b32 k[j]) u := by
    intro k j hj u
    simp [part, isAgg, run_underlying h5, hj]
  have loop : ∀ (k : Nat) (j : Nat), j + k = n → l.take j = m.take j → ∀ u, (forIn (List.range' j k) ((none, ()) : Option Bool × Unit) fun i r => do
      if (!(← Op.equalIn (d + 1) 23 (← part 23 (l.map b32).toArray (i * 1)) (← part 23 (m.map b32).toArray (i * 1)))) = true then pure (ForInStep.done (some false, ())) else pure (ForInStep.yield (none, ()))).run P u =
      .ok (if l == m then (none, ()) else (some false, ())) u := by
    intro k
    induction k with
    | zero =>
      intro j hj ht u
      have : l = m := by rw [List.take_of_length_le (by omega), List.take_of_length_le (by omega)] at ht; exact ht
      subst this
      simp
    | succ k ih =>
      intro j hj ht u
      have hjl : j < l.length := by omega
      have hjm : j < m.length := by omega
      rw [List.range'_succ]
      simp only [List.forIn_cons, Sem.run_bind, hpart l j hjl, hpart m j hjm, Result.andThen_ok]
      rw [show (Op.equalIn (d + 1) 23 (b32 l[j]) (b32 m[j])).run P u = .ok (n32 l[j] == n32 m[j]) u from run_equalIn_int u d 23 .u32 .u32 _ _ h5]
      simp only [Result.andThen_ok, Sem.run_ite, Sem.run_pure]
      by_cases he : l[j] = m[j]
      · have hb : (n32 l[j] == n32 m[j]) = true := by simp [he]
        rw [hb]
        simp only [Bool.not_true, Bool.false_eq_true, if_false, Result.andThen_ok]
        exact ih (j + 1) (by omega) (by rw [List.take_succ_eq_append_getElem hjl, List.take_succ_eq_append_getElem hjm, ht, he]) u
      · have hb : (n32 l[j] == n32 m[j]) = false := by rw [beq_eq_false_iff_ne]; exact fun h => he (n32_inj h)
        have hlm : (l == m) = false := by rw [beq_eq_false_iff_ne]; rintro rfl; exact he rfl
        rw [hb, hlm]
        simp
  have h0 := loop n 0 (by omega) (by simp) w
  rw [Op.equalIn]
  simp only [Sem.run_bind, run_underlying hT, Result.andThen_ok, sizeOf, typeInfo, run_program, hi5, Sem.run_pure, hs5]
  rw [Std.Legacy.Range.forIn_eq_forIn_range']
  simp only [Std.Legacy.Range.size, Nat.sub_zero, Nat.add_sub_cancel, Nat.div_one]
  rw [h0]
  simp only [Result.andThen_ok]
  cases l == m <;> simp
def suEq (s t : Su) : Bool := s.tx == t.tx && (s.me == t.me && (s.da == t.da && (s.pg == t.pg && (s.top == t.top && (s.base == t.base && (s.stage == t.stage && (s.cur == t.cur && (s.ep == t.ep && (s.la == t.la && (s.sq == t.sq && (s.bl == t.bl && (s.bq == t.bq && s.mr == t.mr))))))))))))
theorem suEq_iff (s t : Su) : suEq s t = true ↔ s = t := by
  obtain ⟨a1, a2, a3, a4, a5, a6, a7, a8, a9, a10, a11, a12, a13, a14⟩ := s
  obtain ⟨c1, c2, c3, c4, c5, c6, c7, c8, c9, c10, c11, c12, c13, c14⟩ := t
  simp only [suEq, Bool.and_eq_true, beq_iff_eq, Su.mk.injEq]
theorem suEq_self (s : Su) : suEq s s = true := (suEq_iff s s).2 rfl
theorem eqF {P : Program} {d : Nat} {xs ys : Array Value} {f : Field} {fs : List Field} {u : World} {a b : Value} {r R : Bool} (hn : f.name ≠ "_") (ha : (part f.type xs f.offset).run P u = .ok a u) (hb : (part f.type ys f.offset).run P u = .ok b u)
    (hr : (Op.equalIn d f.type a b).run P u = .ok r u) (hR : (Op.eqFields d xs ys fs).run P u = .ok R u) : (Op.eqFields d xs ys (f :: fs)).run P u = .ok (r && R) u := by
  unfold Op.eqFields
  rw [if_pos hn]
  simp only [Sem.run_bind, ha, hb, hr, Result.andThen_ok, Sem.run_ite, Sem.run_pure]
  cases r
  · rfl
  · simpa using hR
theorem eqF0 {P : Program} {d : Nat} {xs ys : Array Value} {u : World} : (Op.eqFields d xs ys []).run P u = .ok true u := by simp [Op.eqFields]
set_option maxRecDepth 100000 in
theorem run_equal_su (s t : Su) (hs : s.pg.length = 6) (ht : t.pg.length = 6) (d : Nat) (w : World) : (Op.equalIn (d + 4) 82 (suV s) (suV t)).run Try.prog w = .ok (suEq s t) w := by
  obtain ⟨a1, a2, a3, a4, a5, a6, a7, a8, a9, a10, a11, a12, a13, a14⟩ := s
  obtain ⟨c1, c2, c3, c4, c5, c6, c7, c8, c9, c10, c11, c12, c13, c14⟩ := t
  simp only at hs ht
  have hpg := run_equal_words (P := Try.prog) Try.underlying80 Try.underlying23 (by kernel_rfl) a4 c4 hs ht (d + 1) w
  match a4, hs, c4, ht with
  | [p0, p1, p2, p3, p4, p5], _, [q0, q1, q2, q3, q4, q5], _ =>
    have n64b := n64_beq
    have n32b := n32_beq
    unfold suV
    rw [run_equalIn_struct w (d + 3) 82 _ _ fields82 stood82]
    rw [show (Try.prog.fieldsOf 82).toList = [{ name := "Tx", type := 75, offset := 0, embedded := false, tag := "", pkgPath := "", byteOffset := 0 }, { name := "Meta", type := 3, offset := 1, embedded := false, tag := "", pkgPath := "", byteOffset := 8 }, { name := "Data", type := 3, offset := 2, embedded := false, tag := "", pkgPath := "", byteOffset := 16 }, { name := "Pages", type := 80, offset := 3, embedded := false, tag := "", pkgPath := "", byteOffset := 24 }, { name := "Top", type := 23, offset := 9, embedded := false, tag := "", pkgPath := "", byteOffset := 48 }, { name := "Base", type := 23, offset := 10, embedded := false, tag := "", pkgPath := "", byteOffset := 52 }, { name := "Stage", type := 23, offset := 11, embedded := false, tag := "", pkgPath := "", byteOffset := 56 }, { name := "Cursor", type := 3, offset := 12, embedded := false, tag := "", pkgPath := "", byteOffset := 64 }, { name := "State", type := 77, offset := 13, embedded := false, tag := "", pkgPath := "", byteOffset := 72 }] by kernel_rfl]
    have P1 : ∀ (T : TypeId) (k : IntKind) (xs : Array Value) (j : Nat) (v : Value) (u : World), Try.prog.underlying T = some (.int k) → xs[j]? = some v → (part T xs j).run Try.prog u = .ok v u := fun T k xs j v u hT hv => by
      simp [part, isAgg, run_underlying hT, hv]
    have PB : ∀ (xs : Array Value) (j : Nat) (v : Value) (u : World), xs[j]? = some v → (part 4 xs j).run Try.prog u = .ok v u := fun xs j v u hv => by
      simp [part, isAgg, run_underlying Try.underlying4, hv]
    have P80 : ∀ (xs : Array Value) (u : World), (part 80 xs 3).run Try.prog u = .ok (.agg (xs.extract 3 9)) u := fun xs u => by
      obtain ⟨i, hi, hs⟩ := Option.map_eq_some_iff.1 info80
      simp [part, isAgg, run_underlying Try.underlying80, sizeOf, typeInfo, hi, hs]
    have P77 : ∀ (xs : Array Value) (u : World), (part 77 xs 13).run Try.prog u = .ok (.agg (xs.extract 13 19)) u := fun xs u => by
      obtain ⟨i, hi, hs⟩ := Option.map_eq_some_iff.1 info77
      simp [part, isAgg, run_underlying Try.underlying77, sizeOf, typeInfo, hi, hs]
    have f77 : (Try.prog.fieldsOf 77).toList = [{ name := "Epoch", type := 75, offset := 0, embedded := false, tag := "", pkgPath := "", byteOffset := 0 }, { name := "Last", type := 75, offset := 1, embedded := false, tag := "", pkgPath := "", byteOffset := 8 }, { name := "Seq", type := 75, offset := 2, embedded := false, tag := "", pkgPath := "", byteOffset := 16 }, { name := "BaseLast", type := 75, offset := 3, embedded := false, tag := "", pkgPath := "", byteOffset := 24 }, { name := "BaseSeq", type := 75, offset := 4, embedded := false, tag := "", pkgPath := "", byteOffset := 32 }, { name := "Marked", type := 4, offset := 5, embedded := false, tag := "", pkgPath := "", byteOffset := 40 }] := by kernel_rfl
    have hst : ∀ (xs ys : Array Value) (u : World), (Op.equalIn (d + 3) 77 (.agg xs) (.agg ys)).run Try.prog u = (Op.eqFields (d + 2) xs ys (Try.prog.fieldsOf 77).toList).run Try.prog u := fun xs ys u => run_equalIn_struct u (d + 2) 77 xs ys fields77 stood77
    rw [show suEq ⟨a1, a2, a3, [p0, p1, p2, p3, p4, p5], a5, a6, a7, a8, a9, a10, a11, a12, a13, a14⟩ ⟨c1, c2, c3, [q0, q1, q2, q3, q4, q5], c5, c6, c7, c8, c9, c10, c11, c12, c13, c14⟩ = ((n64 a1 == n64 c1) && ((a2 == c2) && ((a3 == c3) && (([p0, p1, p2, p3, p4, p5] == [q0, q1, q2, q3, q4, q5]) && ((n32 a5 == n32 c5) && ((n32 a6 == n32 c6) && ((n32 a7 == n32 c7) && ((a8 == c8) && (((n64 a9 == n64 c9) && ((n64 a10 == n64 c10) && ((n64 a11 == n64 c11) && ((n64 a12 == n64 c12) && ((n64 a13 == n64 c13) && ((a14 == c14) && true)))))) && true))))))))) by simp [suEq, n64_beq, n32_beq]]
    refine eqF (a := .int .u64 (n64 a1)) (b := .int .u64 (n64 c1)) (by decide) (P1 75 .u64 _ 0 _ w Try.underlying75 (by rfl)) (P1 75 .u64 _ 0 _ w Try.underlying75 (by rfl)) (run_equalIn_int w _ 75 .u64 .u64 _ _ Try.underlying75) ?_
    refine eqF (a := .int .i64 a2) (b := .int .i64 c2) (by decide) (P1 3 .i64 _ 1 _ w Try.underlying3 (by rfl)) (P1 3 .i64 _ 1 _ w Try.underlying3 (by rfl)) (run_equalIn_int w _ 3 .i64 .i64 _ _ Try.underlying3) ?_
    refine eqF (a := .int .i64 a3) (b := .int .i64 c3) (by decide) (P1 3 .i64 _ 2 _ w Try.underlying3 (by rfl)) (P1 3 .i64 _ 2 _ w Try.underlying3 (by rfl)) (run_equalIn_int w _ 3 .i64 .i64 _ _ Try.underlying3) ?_
    refine eqF (by decide) (P80 _ w) (P80 _ w) hpg ?_
    refine eqF (a := .int .u32 (n32 a5)) (b := .int .u32 (n32 c5)) (by decide) (P1 23 .u32 _ 9 _ w Try.underlying23 (by rfl)) (P1 23 .u32 _ 9 _ w Try.underlying23 (by rfl)) (run_equalIn_int w _ 23 .u32 .u32 _ _ Try.underlying23) ?_
    refine eqF (a := .int .u32 (n32 a6)) (b := .int .u32 (n32 c6)) (by decide) (P1 23 .u32 _ 10 _ w Try.underlying23 (by rfl)) (P1 23 .u32 _ 10 _ w Try.underlying23 (by rfl)) (run_equalIn_int w _ 23 .u32 .u32 _ _ Try.underlying23) ?_
    refine eqF (a := .int .u32 (n32 a7)) (b := .int .u32 (n32 c7)) (by decide) (P1 23 .u32 _ 11 _ w Try.underlying23 (by rfl)) (P1 23 .u32 _ 11 _ w Try.underlying23 (by rfl)) (run_equalIn_int w _ 23 .u32 .u32 _ _ Try.underlying23) ?_
    refine eqF (a := .int .i64 a8) (b := .int .i64 c8) (by decide) (P1 3 .i64 _ 12 _ w Try.underlying3 (by rfl)) (P1 3 .i64 _ 12 _ w Try.underlying3 (by rfl)) (run_equalIn_int w _ 3 .i64 .i64 _ _ Try.underlying3) ?_
    refine eqF (by decide) (P77 _ w) (P77 _ w) ((hst _ _ w).trans ?_) eqF0
    rw [f77]
    refine eqF (a := .int .u64 (n64 a9)) (b := .int .u64 (n64 c9)) (by decide) (P1 75 .u64 _ 0 _ w Try.underlying75 (by rfl)) (P1 75 .u64 _ 0 _ w Try.underlying75 (by rfl)) (run_equalIn_int w _ 75 .u64 .u64 _ _ Try.underlying75) ?_
    refine eqF (a := .int .u64 (n64 a10)) (b := .int .u64 (n64 c10)) (by decide) (P1 75 .u64 _ 1 _ w Try.underlying75 (by rfl)) (P1 75 .u64 _ 1 _ w Try.underlying75 (by rfl)) (run_equalIn_int w _ 75 .u64 .u64 _ _ Try.underlying75) ?_
    refine eqF (a := .int .u64 (n64 a11)) (b := .int .u64 (n64 c11)) (by decide) (P1 75 .u64 _ 2 _ w Try.underlying75 (by rfl)) (P1 75 .u64 _ 2 _ w Try.underlying75 (by rfl)) (run_equalIn_int w _ 75 .u64 .u64 _ _ Try.underlying75) ?_
    refine eqF (a := .int .u64 (n64 a12)) (b := .int .u64 (n64 c12)) (by decide) (P1 75 .u64 _ 3 _ w Try.underlying75 (by rfl)) (P1 75 .u64 _ 3 _ w Try.underlying75 (by rfl)) (run_equalIn_int w _ 75 .u64 .u64 _ _ Try.underlying75) ?_
    refine eqF (a := .int .u64 (n64 a13)) (b := .int .u64 (n64 c13)) (by decide) (P1 75 .u64 _ 4 _ w Try.underlying75 (by rfl)) (P1 75 .u64 _ 4 _ w Try.underlying75 (by rfl)) (run_equalIn_int w _ 75 .u64 .u64 _ _ Try.underlying75) ?_
    refine eqF (a := .bool a14) (b := .bool c14) (by decide) (PB _ 5 _ w (by rfl)) (PB _ 5 _ w (by rfl)) (run_equalIn_bool' w _ 4 _ _ Try.underlying4) ?_
    exact eqF0
theorem info75'' : (Try.prog.info? 75).map (·.size) = some 1 := by kernel_rfl
theorem info3'' : (Try.prog.info? 3).map (·.size) = some 1 := by kernel_rfl
theorem info23'' : (Try.prog.info? 23).map (·.size) = some 1 := by kernel_rfl
theorem info4'' : (Try.prog.info? 4).map (·.size) = some 1 := by kernel_rfl
theorem run_build82_0 (w : World) : (Instr.build 82 #[]).run Try.prog w = .ok (suV zeroS) w := by
  obtain ⟨i75, h75, s75⟩ := Option.map_eq_some_iff.1 info75''
  obtain ⟨i3, h3, s3⟩ := Option.map_eq_some_iff.1 info3''
  obtain ⟨i23, h23, s23⟩ := Option.map_eq_some_iff.1 info23''
  obtain ⟨i80, h80, s80⟩ := Option.map_eq_some_iff.1 info80
  obtain ⟨i77, h77, s77⟩ := Option.map_eq_some_iff.1 info77
  simp only [Instr.build, Sem.run_bind, run_zero zero82, Result.andThen_ok, run_underlying Try.underlying82]
  simp [sizeOf, typeInfo, h75, s75, h3, s3, h23, s23, h80, s80, h77, s77]
  rfl
theorem run_build82 (x : UInt64) (m d : Int) (w : World) : (Instr.build 82 #[(0, .int .u64 (n64 x)), (1, .int .i64 m), (2, .int .i64 d)]).run Try.prog w = .ok (suV { zeroS with tx := x, me := m, da := d }) w := by
  obtain ⟨i75, h75, s75⟩ := Option.map_eq_some_iff.1 info75''
  obtain ⟨i3, h3, s3⟩ := Option.map_eq_some_iff.1 info3''
  obtain ⟨i23, h23, s23⟩ := Option.map_eq_some_iff.1 info23''
  obtain ⟨i80, h80, s80⟩ := Option.map_eq_some_iff.1 info80
  obtain ⟨i77, h77, s77⟩ := Option.map_eq_some_iff.1 info77
  simp only [Instr.build, Sem.run_bind, run_zero zero82, Result.andThen_ok, run_underlying Try.underlying82]
  simp [sizeOf, typeInfo, h75, s75, h3, s3, h23, s23, h80, s80, h77, s77]
  rfl
theorem fill77 (a b c d e f : Value) (ha : a.cells = #[a]) (hb : b.cells = #[b]) (hc : c.cells = #[c]) (hd : d.cells = #[d]) (he : e.cells = #[e]) (hf : f.cells = #[f]) :
    Instr.fill (fun x => ([(0, 1), (1, 1), (2, 1), (3, 1), (4, 1), (5, 1)] : List (Nat × Nat))[x]?) #[.int .u64 0, .int .u64 0, .int .u64 0, .int .u64 0, .int .u64 0, .bool false] [(0, a), (1, b), (2, c), (3, d), (4, e), (5, f)] = some #[a, b, c, d, e, f] := by
  simp [Instr.fill, ha, hb, hc, hd, he, hf]
theorem run_build77 (a b c d e : UInt64) (f : Bool) (w : World) : (Instr.build 77 #[(0, b64 a), (1, b64 b), (2, b64 c), (3, b64 d), (4, b64 e), (5, .bool f)]).run Try.prog w = .ok (.agg #[b64 a, b64 b, b64 c, b64 d, b64 e, .bool f]) w := by
  obtain ⟨i75, h75, s75⟩ := Option.map_eq_some_iff.1 info75''
  obtain ⟨i4, h4, s4⟩ := Option.map_eq_some_iff.1 info4''
  unfold b64
  generalize n64 a = a
  generalize n64 b = b
  generalize n64 c = c
  generalize n64 d = d
  generalize n64 e = e
  simp only [Instr.build, Sem.run_bind, run_zero zero77, Result.andThen_ok, run_underlying Try.underlying77]
  simp [sizeOf, typeInfo, h75, s75, h4, s4]
  rw [show (Value.agg #[.int .u64 0, .int .u64 0, .int .u64 0, .int .u64 0, .int .u64 0, .bool false]).cells = #[.int .u64 0, .int .u64 0, .int .u64 0, .int .u64 0, .int .u64 0, .bool false] from rfl, fill77 (.int .u64 a) (.int .u64 b) (.int .u64 c) (.int .u64 d) (.int .u64 e) (.bool f) rfl rfl rfl rfl rfl rfl]
  simp only [Sem.run_pure]
theorem fill167 (a b c d : Value) (ha : a.cells = #[a]) (hb : b.cells = #[b]) : Instr.fill (fun i => some (i * 1, 1)) #[c, d] [(0, a), (1, b)] = some #[a, b] := by
  simp [Instr.fill, ha, hb]
theorem run_build167 (a b : UInt64) (w : World) : (Instr.build 167 #[(0, b64 a), (1, b64 b)]).run Try.prog w = .ok (.agg #[b64 a, b64 b]) w := by
  obtain ⟨i75, h75, s75⟩ := Option.map_eq_some_iff.1 info75''
  obtain ⟨i, hi, hz0, hz1, hz2⟩ := info_parts info167'
  simp only [Instr.build, Sem.run_bind, zeroValue, typeInfo, run_program, hi, hz0, Sem.run_pure, Result.andThen_ok, run_underlying Try.underlying167, sizeOf, h75, s75]
  have := fill167 (b64 a) (b64 b) (.int .u64 0) (.int .u64 0) rfl rfl
  simp only [Value.cells, this, Sem.run_pure]
section
variable {ρ : Operand → Value} {o : Oper} {w : World} {ops : Array Oper} {rest : List Oper} {a : Act} {Q : Exit → Act → World → Prop}
theorem X.build82v {x y z : Operand} {u : UInt64} {m d : Int} (ho : o.op = .build 82 #[(0, x), (1, y), (2, z)]) (hx : ρ x = .int .u64 (n64 u)) (hy : ρ y = .int .i64 m) (hz : ρ z = .int .i64 d) : (execOp ρ o).run Try.prog w = .ok (.value (suV { zeroS with tx := u, me := m, da := d })) w := by
  unfold execOp; rw [ho]
  simp [hx, hy, hz, run_build82]
theorem X.build82_0 (ho : o.op = .build 82 #[]) : (execOp ρ o).run Try.prog w = .ok (.value (suV zeroS)) w := by
  unfold execOp; rw [ho]
  simp [run_build82_0]
theorem X.load82 {T : TypeId} {g : Nat} {x : Operand} {s : Su} (ho : o.op = .load 82 x) (hx : ρ x = .pointer (some ⟨g, 0, none⟩)) (hB : Blk w g T (suC s)) (hp : s.pg.length = 6) : (execOp ρ o).run Try.prog w = .ok (.value (suV s)) w := by
  have hl : (suC s).length = 19 := by simp [suC, hp]
  have := run_load_part (P := Try.prog) (o := 0) hB Try.underlying82 rfl info82 (by omega)
  rw [List.drop_zero, List.take_of_length_le (by omega)] at this
  unfold execOp; rw [ho]
  simp only [hx, Sem.run_bind, this, Result.andThen_ok, Sem.run_pure]
  rfl
theorem suC_one (s : Su) : ∀ u ∈ suC s, u.oneCell' = true := by
  intro u hu
  simp only [suC, List.mem_append, List.mem_cons, List.mem_map, List.not_mem_nil, or_false, b64, b32] at hu
  rcases hu with (rfl | rfl | rfl) | ⟨p, -, rfl⟩ | rfl | rfl | rfl | rfl | rfl | rfl | rfl | rfl | rfl | rfl <;> rfl
theorem L.load82 {T : TypeId} {g : Nat} {x : Operand} {s : Su} (ho : o.op = .load 82 x) (hx : a.eval x = .pointer (some ⟨g, 0, none⟩)) (hB : Blk w g T (suC s)) (hp : s.pg.length = 6) (hw : Region.wanted o (yielded ops a.tmps) = true)
    (h : wpList Try.prog ops Q rest (a.put o.dst (suV s)) w) : wpList Try.prog ops Q (o :: rest) a w := L.val hw (X.load82 ho hx hB hp) h
theorem L.store82 {T : TypeId} {g : Nat} {x y : Operand} {cs : List Value} {s : Su} (ho : o.op = .store 82 x y) (hx : a.eval x = .pointer (some ⟨g, 0, none⟩)) (hy : a.eval y = suV s) (hB : Blk w g T cs) (hc : cs.length = 19) (hp : s.pg.length = 6) (hw : Region.wanted o (yielded ops a.tmps) = true)
    (h : ∀ w', Blk w' g T (suC s) → w.grownBy w' (some g) → wpList Try.prog ops Q rest (a.put o.dst undef) w') : wpList Try.prog ops Q (o :: rest) a w := by
  have hl : (suC s).length = 19 := by simp [suC, hp]
  have hr := run_store_part (P := Try.prog) (o := 0) hB (suV s) (suC s) rfl (suC_one s) info82 hl (by omega)
  rw [put_all _ _ (by omega)] at hr
  refine L.skip hw ?_ (h _ (hB.row _) (grown_row _ _ _))
  unfold execOp; rw [ho]
  simp only [hx, hy, Sem.run_bind, hr, Result.andThen_ok, Sem.run_pure]
theorem L.alloc82 (ho : o.op = .alloc 82) (hw : Region.wanted o (yielded ops a.tmps) = true)
    (h : ∀ w', Blk w' w.heap.size 82 (suC zeroS) → GB w w' → wpList Try.prog ops Q rest (a.put o.dst (.pointer (some ⟨w.heap.size, 0, none⟩))) w') : wpList Try.prog ops Q (o :: rest) a w := by
  refine L.val (w' := w.alloc (.cells (suC zeroS).toArray 82)) (v := .pointer (some ⟨w.heap.size, 0, none⟩)) hw ?_ (h _ (Blk.new w (suC zeroS) 82) ((Below.refl _ _).alloc (Nat.le_refl _) _))
  unfold execOp; rw [ho]
  simp only [Instr.alloc, Sem.run_bind, run_zero zero82, Result.andThen_ok]
  rfl
theorem L.box82 {x : Operand} {s : Su} (ho : o.op = .box 82 x) (hx : a.eval x = suV s) (hw : Region.wanted o (yielded ops a.tmps) = true)
    (h : ∀ w', Blk w' w.heap.size 82 (suC s) → GB w w' → wpList Try.prog ops Q rest (a.put o.dst (.pointer (some ⟨w.heap.size, 0, none⟩))) w') : wpList Try.prog ops Q (o :: rest) a w := by
  refine L.val (w' := w.alloc (.cells (suC s).toArray 82)) (v := .pointer (some ⟨w.heap.size, 0, none⟩)) hw ?_ (h _ (Blk.new w (suC s) 82) ((Below.refl _ _).alloc (Nat.le_refl _) _))
  unfold execOp; rw [ho]
  simp only [hx]
  rfl
theorem X.eql82 {ty : TypeId} {x y : Operand} {s t : Su} (ho : o.op = .binOp .eql 82 x y ty) (hx : ρ x = suV s) (hy : ρ y = suV t) (hs : s.pg.length = 6) (ht : t.pg.length = 6) : (execOp ρ o).run Try.prog w = .ok (.value (.bool (suEq s t))) w := by
  have h1 : (eqGuard .eql 82 x y (suV s) (suV t)).run Try.prog w = .ok () w := run_eqGuard_agg w .eql 82 x y _ _ guard82
  have h2 : (binOp .eql 82 (suV s) (suV t)).run Try.prog w = .ok (.bool (suEq s t)) w := by
    unfold suV
    rw [run_eql_struct]
    rw [show (Op.equalIn 10000 82 (.agg (suC s).toArray) (.agg (suC t).toArray)).run Try.prog w = .ok (suEq s t) w from run_equal_su s t hs ht 9996 w]; rfl
  unfold execOp; rw [ho]
  simp only [hx, hy, Sem.run_bind, h1, h2, Result.andThen_ok, Sem.run_pure]
theorem X.neq82 {ty : TypeId} {x y : Operand} {s t : Su} (ho : o.op = .binOp .neq 82 x y ty) (hx : ρ x = suV s) (hy : ρ y = suV t) (hs : s.pg.length = 6) (ht : t.pg.length = 6) : (execOp ρ o).run Try.prog w = .ok (.value (.bool (!suEq s t))) w := by
  have h1 : (eqGuard .neq 82 x y (suV s) (suV t)).run Try.prog w = .ok () w := run_eqGuard_agg w .neq 82 x y _ _ guard82
  have h2 : (binOp .neq 82 (suV s) (suV t)).run Try.prog w = .ok (.bool (!suEq s t)) w := by
    unfold suV
    rw [run_neq_struct]
    rw [show (Op.equalIn 10000 82 (.agg (suC s).toArray) (.agg (suC t).toArray)).run Try.prog w = .ok (suEq s t) w from run_equal_su s t hs ht 9996 w]; rfl
  unfold execOp; rw [ho]
  simp only [hx, hy, Sem.run_bind, h1, h2, Result.andThen_ok, Sem.run_pure]
end
section
variable {fn : Func} {R : Ending → World → Prop} {a : Act} {w : World} {p t g : Nat} {T : TypeId} {s : Su} {v : Value}
theorem ret_su2 (hr : fn.results = #[.cell p 82, .tmp t]) (hp : a.tmps.getD p undef = .pointer (some ⟨g, 0, none⟩)) (hB : Blk w g T (suC s)) (hn : s.pg.length = 6) (hv : a.tmps.getD t undef = v) (hdf : a.defers = [])
    (h : R (.returned (.tuple #[suV s, v])) w) : bodyPost Try.prog fn R .ret a w := by
  have hl : (suC s).length = 19 := by simp [suC, hn]
  refine bodyPost_ret ?_ hdf h
  have := run_load_part (P := Try.prog) (o := 0) hB Try.underlying82 rfl info82 (by omega)
  rw [List.drop_zero, List.take_of_length_le (by omega)] at this
  have h2 : (loadVar 82 ⟨g, 0, none⟩).run Try.prog w = .ok (.agg (suC s).toArray) w := by
    simpa [Instr.loadAt, Instr.sureAddr] using this
  unfold suV at h
  have hp' : a.tmps[p]?.getD undef = .pointer (some ⟨g, 0, none⟩) := by simpa using hp
  have hv' : a.tmps[t]?.getD undef = v := by simpa using hv
  simp [results, hr, hp', hv', asAddr, h2]
  rfl
theorem ret_su1 (hr : fn.results = #[.cell p 82]) (hp : a.tmps.getD p undef = .pointer (some ⟨g, 0, none⟩)) (hB : Blk w g T (suC s)) (hn : s.pg.length = 6) (hdf : a.defers = [])
    (h : R (.returned (suV s)) w) : bodyPost Try.prog fn R .ret a w := by
  have hl : (suC s).length = 19 := by simp [suC, hn]
  refine bodyPost_ret ?_ hdf h
  have := run_load_part (P := Try.prog) (o := 0) hB Try.underlying82 rfl info82 (by omega)
  rw [List.drop_zero, List.take_of_length_le (by omega)] at this
  have h2 : (loadVar 82 ⟨g, 0, none⟩).run Try.prog w = .ok (.agg (suC s).toArray) w := by
    simpa [Instr.loadAt, Instr.sureAddr] using this
  unfold suV at h
  have hp' : a.tmps[p]?.getD undef = .pointer (some ⟨g, 0, none⟩) := by simpa using hp
  simp [results, hr, hp', asAddr, h2]
  rfl
end
end Go.Proofs.Ytiihllfjlgbfcaa
