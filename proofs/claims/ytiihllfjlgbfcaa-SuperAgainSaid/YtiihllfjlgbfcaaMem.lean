/- Laws on memory over this program: bytes that a slice reads as, own bytes, append, conversion to a string; regions that draw their order, at the relation 'old blocks are as they were'. -/
import Derived.Test.YtiihllfjlgbfcaaProg
import Derived.Test.YtiihllfjlgbfcaaReg
import Derived.Laws.BytesArg
import Derived.Lib.SlBytesConst
namespace Go.Proofs.Ytiihllfjlgbfcaa
open Go.RowKit

/-! ### The relation between two worlds: all old blocks are as they were -/
def GB (w u : World) : Prop := Below w.heap.size w u
theorem GB.refl (w : World) : GB w w := Below.refl _ _
theorem GB.trans (a b c : World) (h : GB a b) (k : GB b c) : GB a c := Below.trans h (k.mono h.size)
theorem GB.of {w u : World} (h : Below w.heap.size w u) : GB w u := h
theorem GB.drew (w : World) : GB w w.drew := (Below.refl _ _).drew
theorem GB.cell {w u : World} {p : Addr} {v : Value} (h : GB w u) (hc : w.cell? p = some v) : u.cell? p = some v :=
  (Below.cell h (World.block_lt_of_cell? _ _ hc)).trans hc
theorem GB.rd {w u : World} {a : Option Addr} {cs : List Value} (h : GB w u) (hr : Rd w a cs) : Rd u a cs := hr.below h
theorem bgb {B : Nat} {a b c : World} (h : Below B a b) (k : GB b c) (hB : B ≤ b.heap.size) : Below B a c := h.trans (Below.mono k hB)
theorem mixed : Try.prog.follows .mixedOrders = true := by kernel_rfl
theorem region_gb {id : Nat} {ops : Array Oper} {Q : Exit → Act → World → Prop} {a : Act} {w : World} (σ : List (Nat × Nat)) (tails : List Nat)
    (hok : (Region.noSelect ops && σ.length == ops.size && schedOk ops tails σ (Array.replicate ops.size false)) = true)
    (h : runS Try.prog ops (NP Q) GB σ a w.drew) : (Code.region id ops true).wp Try.prog Q a w :=
  wp_region_sched σ tails mixed GB.refl GB.trans hok h

/-! ### An operation whose run is known -/
theorem wp_run {P : Program} {o : Oper} {a : Act} {w w' : World} {v : Value} {K : Act → World → Prop} {Q : Exit → Act → World → Prop}
    (hr : (execOp a.eval o).run P w = .ok (.value v) w') (h : K (a.put o.dst v) w') : o.wp P a w K Q := by
  unfold Oper.wp; rw [hr]; exact h

/-! ### Reading -/
theorem Rd.cells {w : World} {a : Addr} {cs : List Value} (h : Rd w (some a) cs) : ∀ j v, cs[j]? = some v → w.cell? (a.add j) = some v := by
  intro j v hv
  obtain ⟨hj, he⟩ := List.getElem?_eq_some_iff.1 hv
  obtain ⟨ad, had, hc⟩ := h j hj
  obtain rfl := Option.some.inj had
  rw [hc, he]
theorem Rd.of_cells {w : World} {a : Addr} {cs : List Value} (h : ∀ j v, cs[j]? = some v → w.cell? (a.add j) = some v) : Rd w (some a) cs :=
  fun i hi => ⟨a, rfl, h i _ (List.getElem?_eq_getElem hi)⟩
theorem Rd.none {w : World} {cs : List Value} (h : Rd w none cs) : cs = [] := by
  cases cs with
  | nil => rfl
  | cons c cs => obtain ⟨ad, had, _⟩ := h 0 (by simp); cases had
theorem Rd.alloc_new (w : World) (cs : List Value) (e : TypeId) : Rd (w.alloc (.cells cs.toArray e)) (some ⟨w.heap.size, 0, Option.none⟩) cs := by
  refine Rd.of_cells fun j v hv => ?_
  rw [Addr.add_lit, Nat.zero_add, World.cell?_alloc_new]
  simpa using hv
theorem Rd.alloc_mark (w : World) (cs : List Value) (e : TypeId) (fr : Nat × Nat) : Rd (w.alloc (.cells cs.toArray e fr)) (some ⟨w.heap.size, 0, Option.none⟩) cs := by
  refine Rd.of_cells fun j v hv => ?_
  rw [Addr.add_lit, Nat.zero_add, World.cell?_alloc_mark]
  simpa using hv
theorem Rd.take {w : World} {a : Option Addr} {cs : List Value} (h : Rd w a cs) (n : Nat) : Rd w a (cs.take n) := by
  intro i hi
  have hi' : i < cs.length := by simp at hi; omega
  obtain ⟨ad, ha, hc⟩ := h i hi'
  exact ⟨ad, ha, by rw [hc]; simp⟩
/-- The bytes of a list, as a string. -/
def bs (l : List UInt8) : ByteArray := ⟨l.toArray⟩
theorem bs_toList (l : List UInt8) : (bs l).toList = l := by rw [ByteArray.toList_eq]; simp [bs]
theorem bs_size (l : List UInt8) : (bs l).size = l.length := by simp [bs, ByteArray.size]
theorem bytes_string {w : World} (a : Option Addr) (l : List UInt8) (c : Nat) (h : Rd w a (l.map b8)) :
    (convert 22 9 (.slice a l.length c)).run Try.prog w = .ok (.string (bs l)) w := by
  rw [run_convert_bytes_string w 22 9 5 a l.length c Try.underlying22 Try.underlying5 Try.underlying9]
  cases a with
  | none =>
    have : l = [] := by simpa using h.none
    subst this
    simp [Conv.bytesToString, bs]
    rfl
  | some ad =>
    have hl : (loadCells ad l.length).run Try.prog w = .ok ((l.map n8).map (Value.int .u8)).toArray w := by
      have := run_loadCells_list (P := Try.prog) w ad (l.map b8) h.cells
      rw [List.length_map] at this
      rw [this, List.map_map]; rfl
    rw [run_bytesToString w ad l.length c _ hl, foldl_push_bytes]
    simp [bs, ByteArray.empty, ByteArray.emptyWithCapacity]
    have e : l.map (fun x => UInt8.ofNat (n8 x).toNat) = l := by
      conv => rhs; rw [← List.map_id l]
      refine List.map_congr_left fun x _ => ?_
      simp [n8]
    first | exact e | (simpa using e)

/-! ### Cuts of a slice -/
theorem Addr.add_add (a : Addr) (m n : Nat) : (a.add m).add n = a.add (m + n) := by
  unfold Addr.add
  by_cases hm : m = 0
  · subst hm; simp
  · by_cases hn : n = 0
    · subst hn; simp [hm]
    · simp [hm, hn]; omega
theorem Addr.add_zero (a : Addr) : a.add 0 = a := rfl
/-- The address of 's[n:]', elements of 'size' cells: behind an array's end Go does not point. -/
def cutAt (a : Option Addr) (n cap size : Nat) : Option Addr := if cap = n then a else a.map (·.add (n * size))
section
variable {P : Program} {T e : TypeId} {i : TypeInfo}
theorem sliceAt_slice (h1 : P.underlying T = some (.slice e)) (w : World) (x : Value) (lo hi mx : Option Value) : (Instr.sliceAt T x lo hi mx).run P w = (Instr.slice T x lo hi mx).run P w := by
  simp [Instr.sliceAt, run_underlying h1]
theorem run_cut_from (h1 : P.underlying T = some (.slice e)) (h2 : P.info? e = some i) (w : World) (a : Option Addr) (len cap n : Nat) (k : IntKind) (hn : n ≤ len) :
    (Instr.sliceAt T (.slice a len cap) (some (.int k n)) none none).run P w = .ok (.slice (cutAt a n cap i.size) (len - n) (cap - n)) w := by
  simp [Instr.sliceAt, Instr.slice, Instr.sliceBounds, Instr.sliceBound, asIntOf, run_underlying h1, sizeOf, typeInfo, h2, cutAt, hn]
theorem run_cut_to (h1 : P.underlying T = some (.slice e)) (h2 : P.info? e = some i) (w : World) (a : Option Addr) (len cap n : Nat) (k : IntKind) (hn : n ≤ cap) :
    (Instr.sliceAt T (.slice a len cap) none (some (.int k n)) none).run P w = .ok (.slice a n cap) w := by
  simp [Instr.sliceAt, Instr.slice, Instr.sliceBounds, Instr.sliceBound, asIntOf, run_underlying h1, sizeOf, typeInfo, h2, hn, Addr.add_zero]
theorem run_cut_full (h1 : P.underlying T = some (.slice e)) (h2 : P.info? e = some i) (w : World) (a : Option Addr) (len cap n : Nat) (k k' : IntKind) (hn : n ≤ cap) :
    (Instr.sliceAt T (.slice a len cap) none (some (.int k n)) (some (.int k' n))).run P w = .ok (.slice a n n) w := by
  simp [Instr.sliceAt, Instr.slice, Instr.sliceBounds, Instr.sliceBound, asIntOf, run_underlying h1, sizeOf, typeInfo, h2, hn, Addr.add_zero]
end
/-- The cuts of a []byte, in the two words that the walk has for them. -/
theorem info5_size : ∃ i, Try.prog.info? 5 = some i ∧ i.size = 1 := by
  obtain ⟨i, hi, _, h1, _⟩ := info_parts (show (Try.prog.info? 5).map (fun i => (i.zero, i.size, i.bytes)) = some (some (.int .u8 0), 1, 1) by kernel_rfl)
  exact ⟨i, hi, h1⟩
theorem cut8_from (a : Option Addr) (len cap n : Nat) (k : IntKind) (x : Int) (hx : x = n) (hn : n ≤ len) (w : World) :
    (Instr.sliceAt 22 (.slice a len cap) (some (.int k x)) none none).run Try.prog w = .ok (.slice (cutAt a n cap 1) (len - n) (cap - n)) w ∧
    (Instr.slice 22 (.slice a len cap) (some (.int k x)) none none).run Try.prog w = .ok (.slice (cutAt a n cap 1) (len - n) (cap - n)) w := by
  subst hx
  obtain ⟨i, hi, h1⟩ := info5_size
  have h := run_cut_from (P := Try.prog) Try.underlying22 hi w a len cap n k hn
  rw [h1] at h
  exact ⟨h, by rw [← sliceAt_slice Try.underlying22]; exact h⟩
theorem cut8_to (a : Option Addr) (len cap n : Nat) (k : IntKind) (x : Int) (hx : x = n) (hn : n ≤ cap) (w : World) :
    (Instr.sliceAt 22 (.slice a len cap) none (some (.int k x)) none).run Try.prog w = .ok (.slice a n cap) w ∧
    (Instr.slice 22 (.slice a len cap) none (some (.int k x)) none).run Try.prog w = .ok (.slice a n cap) w := by
  subst hx
  obtain ⟨i, hi, h1⟩ := info5_size
  have h := run_cut_to (P := Try.prog) Try.underlying22 hi w a len cap n k hn
  exact ⟨h, by rw [← sliceAt_slice Try.underlying22]; exact h⟩
theorem cut8_full (a : Option Addr) (len cap n : Nat) (k k' : IntKind) (x : Int) (hx : x = n) (hn : n ≤ cap) (w : World) :
    (Instr.sliceAt 22 (.slice a len cap) none (some (.int k x)) (some (.int k' x))).run Try.prog w = .ok (.slice a n n) w ∧
    (Instr.slice 22 (.slice a len cap) none (some (.int k x)) (some (.int k' x))).run Try.prog w = .ok (.slice a n n) w := by
  subst hx
  obtain ⟨i, hi, h1⟩ := info5_size
  have h := run_cut_full (P := Try.prog) Try.underlying22 hi w a len cap n k k' hn
  exact ⟨h, by rw [← sliceAt_slice Try.underlying22]; exact h⟩
theorem Rd.cut {w : World} {a : Option Addr} {cs : List Value} (h : Rd w a cs) (n cap size : Nat) (hc : cs.length ≤ cap * size) : Rd w (cutAt a n cap size) (cs.drop (n * size)) := by
  intro j hj
  have hj' : n * size + j < cs.length := by simp at hj; omega
  obtain ⟨ad, rfl, hcell⟩ := h _ hj'
  have hne : ¬ cap = n := by rintro rfl; omega
  refine ⟨ad.add (n * size), by simp [cutAt, hne], ?_⟩
  rw [Addr.add_add, hcell]
  simp

/-! ### Own bytes -/
def Own8 (base : Nat) (w : World) (v : Value) (l : List UInt8) : Prop := w.ownsRow base 5 1 v l.length (l.map b8)
theorem info5 : (Try.prog.info? 5).map (fun i => (i.zero, i.size, i.bytes)) = some (some (.int .u8 0), 1, 1) := by kernel_rfl
theorem Own8.shape {base : Nat} {w : World} {v : Value} {l : List UInt8} (h : Own8 base w v l) :
    ∃ a c, v = .slice a l.length c ∧ Rd w a (l.map b8) ∧ l.length ≤ c ∧ c ≤ maxLen ∧ (a = none → c = 0) ∧ (∀ g, v.ownBlock = some g → base ≤ g ∧ g < w.heap.size) := by
  have hlt := h.lt
  have hcells := fun g hg => World.ownsRow.cells h (g := g) hg
  obtain ⟨_, h2⟩ := h
  rcases h2 with ⟨rfl, h0⟩ | ⟨g, cap, cur, rfl, hb, hg, hnc, hcm, _, _⟩
  · have : l = [] := List.eq_nil_of_length_eq_zero h0
    subst this
    exact ⟨none, 0, rfl, Rd.nil _ _, Nat.le_refl _, Nat.zero_le _, fun _ => rfl, hlt⟩
  · exact ⟨some ⟨g, 0, none⟩, cap, rfl, Rd.of_cells (hcells g rfl), hnc, hcm, (fun h => by cases h), hlt⟩
theorem Own8.rd {base : Nat} {w : World} {a : Option Addr} {n c : Nat} {l : List UInt8} (h : Own8 base w (.slice a n c) l) : Rd w a (l.map b8) ∧ n = l.length ∧ l.length ≤ maxLen := by
  obtain ⟨a', c', hv, hr, h1, h2, _⟩ := h.shape
  simp only [Value.slice.injEq] at hv
  obtain ⟨rfl, rfl, rfl⟩ := hv
  exact ⟨hr, rfl, by omega⟩
theorem Own8.nil (base : Nat) (w : World) : Own8 base w (.slice none 0 0) [] := World.ownsRow_nil _ _ _ _
/-- Own bytes stay own behind whatever leaves the old blocks as they were. -/
theorem Own8.gb {base : Nat} {w u : World} {v : Value} {l : List UInt8} (h : Own8 base w v l) (hg : GB w u) : Own8 base u v l :=
  World.ownsRow.kept (row := none) h ⟨hg.os, hg.tape, hg.output, hg.size, fun k hk _ => hg.block k hk⟩ (by cases v.ownBlock <;> simp)
theorem Own8.mono {base base' : Nat} {w : World} {v : Value} {l : List UInt8} (h : Own8 base w v l) (hb : base' ≤ base) : Own8 base' w v l := by
  refine ⟨h.1, ?_⟩
  rcases h.2 with h2 | ⟨g, cap, cur, hv, hbg, r⟩
  · exact .inl h2
  · exact .inr ⟨g, cap, cur, hv, Nat.le_trans hb hbg, r⟩
theorem Own8.lit (w : World) (l : List UInt8) (h : l.length ≤ maxLen) : Own8 w.heap.size (w.alloc (.cells (l.map b8).toArray 5)) (.slice (some ⟨w.heap.size, 0, none⟩) l.length l.length) l := by
  have := World.ownsRow_lit (base := w.heap.size) (e := 5) (size := 1) w (l.map b8).toArray l.length (Nat.le_refl _) h (by simp)
  simpa [Own8] using this
/-- Own bytes that are not none lie at a block's head. -/
theorem Own8.head {base : Nat} {w : World} {v : Value} {l : List UInt8} (h : Own8 base w v l) (hne : 0 < l.length) :
    ∃ g c, v = .slice (some ⟨g, 0, none⟩) l.length c ∧ base ≤ g ∧ g < w.heap.size ∧ l.length ≤ c ∧ c ≤ maxLen := by
  rcases h.2 with ⟨_, h0⟩ | ⟨g, cap, cur, rfl, hb, hg, hnc, hcm, _, _⟩
  · omega
  · exact ⟨g, cap, rfl, hb, (Array.getElem?_eq_some_iff.1 hg).1, hnc, hcm⟩
theorem Own8.cell {base : Nat} {w : World} {g n c : Nat} {l : List UInt8} (h : Own8 base w (.slice (some ⟨g, 0, none⟩) n c) l) (hn : n = l.length) (j : Nat) (hj : j < l.length) :
    w.cell? ⟨g, j, none⟩ = some (.int .u8 (n8 (l.getD j 0))) ∧ w.frozen? ⟨g, j, none⟩ = false := by
  subst hn
  refine ⟨?_, World.ownsRow.frozenAt h j⟩
  rw [World.ownsRow.cellAt h j (by omega)]
  simp [List.getD, hj, b8]
theorem Own8.set {base : Nat} {w : World} {g n c : Nat} {l : List UInt8} (h : Own8 base w (.slice (some ⟨g, 0, none⟩) n c) l) (hn : n = l.length) (j : Nat) (x : UInt8) :
    Own8 base (w.setCell ⟨g, j, none⟩ (.int .u8 (n8 x))) (.slice (some ⟨g, 0, none⟩) n c) (l.set j x) := by
  subst hn
  have h2 := (World.ownsRow.stored h j (b8 x)).1
  unfold Own8
  rw [List.length_set, List.map_set]
  exact h2
theorem b8_oneCell (l : List UInt8) : ∀ u ∈ l.map b8, u.oneCell' = true := by
  intro u hu
  obtain ⟨_, _, rfl⟩ := List.mem_map.1 hu
  rfl
theorem run_append8 {w : World} {base : Nat} {v : Value} {l : List UInt8} (ty : TypeId) (hown : Own8 base w v l) (xa : Option Addr) (m : List UInt8) (c : Nat) (hrd : Rd w xa (m.map b8))
    (hb : l.length + m.length ≤ 1099511627776) (hbase : base ≤ w.heap.size) :
    ∃ v' w', (Builtin.append_ #[22, 22] ty #[v, .slice xa m.length c]).run Try.prog w = .ok v' w' ∧ Own8 base w' v' (l ++ m) ∧ w.grownBy w' v.ownBlock := by
  obtain ⟨i, hi, hz0, hz1, hz2⟩ := info_parts info5
  cases xa with
  | none =>
    have : m = [] := by simpa using hrd.none
    subst this
    refine ⟨v, w, ?_, by simpa using hown, World.grownBy.refl _ _⟩
    rcases hown.2 with ⟨rfl, h0⟩ | ⟨g, cap, cur, rfl, _, _, hnc, _⟩
    · simp [Builtin.append_, run_underlying Try.underlying22, sizeOf, typeInfo, hi, Builtin.lenOf, Builtin.firstCells]
    · simp [Builtin.append_, run_underlying Try.underlying22, sizeOf, typeInfo, hi, Builtin.lenOf, Builtin.firstCells, hnc, storeCells]
  | some ad =>
    obtain ⟨v', w', hr, h2, h3, _⟩ := run_append_own (P := Try.prog) w base 22 ty 5 i (.int .u8 0) 1 1 Try.underlying22 hi hz0 hz1 hz2 rfl (by decide) v l.length (l.map b8) hown
      ad m.length c (m.map b8) (by simp) hrd.cells (b8_oneCell m) (by unfold maxLen; omega) (by omega) hbase
    refine ⟨v', w', hr, ?_, h3⟩
    unfold Own8
    rw [List.length_append, List.map_append]
    exact h2
theorem wp_append8 {w : World} {o : Oper} {a : Act} {K : Act → World → Prop} {Q : Exit → Act → World → Prop} (s x : Operand)
    (ho : o.op = .call { callee := .builtin .append, args := #[s, x], argTypes := #[22, 22] })
    {base : Nat} {v : Value} {l : List UInt8} (hs : a.eval s = v) (hown : Own8 base w v l) {xa : Option Addr} {m : List UInt8} {c : Nat} (hx : a.eval x = .slice xa m.length c) (hrd : Rd w xa (m.map b8))
    (hb : l.length + m.length ≤ 1099511627776) (hbase : base ≤ w.heap.size)
    (h : ∀ v' w', Own8 base w' v' (l ++ m) → w.grownBy w' v.ownBlock → K (a.put o.dst v') w') : o.wp Try.prog a w K Q := by
  obtain ⟨v', w', hr, h2, h3⟩ := run_append8 o.type hown xa m c hrd hb hbase
  refine wp_run ?_ (h v' w' h2 h3)
  simp only [execOp, ho, resolve, invoke, builtin, Sem.run_bind, Sem.run_pure, Result.andThen_ok, List.map_toArray, List.map_cons, List.map_nil, hs, hx, hr]
theorem wpList_append8 {w : World} {ops : Array Oper} {rest : List Oper} {o : Oper} {a : Act} {Q : Exit → Act → World → Prop} (hgd : o.guard = none) (s x : Operand)
    (ho : o.op = .call { callee := .builtin .append, args := #[s, x], argTypes := #[22, 22] })
    {base : Nat} {v : Value} {l : List UInt8} (hs : a.eval s = v) (hown : Own8 base w v l) {xa : Option Addr} {m : List UInt8} {c : Nat} (hx : a.eval x = .slice xa m.length c) (hrd : Rd w xa (m.map b8))
    (hb : l.length + m.length ≤ 1099511627776) (hbase : base ≤ w.heap.size)
    (h : ∀ v' w', Own8 base w' v' (l ++ m) → w.grownBy w' v.ownBlock → wpList Try.prog ops Q rest (a.put o.dst v') w') : wpList Try.prog ops Q (o :: rest) a w :=
  wpList_plain hgd fun _ hK => wp_append8 s x ho hs hown hx hrd hb hbase fun v' w' h2 h3 => hK _ _ (h v' w' h2 h3)
end Go.Proofs.Ytiihllfjlgbfcaa
