/- Footprints: all but what F names is kept; append, and where what it yields lies. -/
import Derived.Test.YtiihllfjlgbfcaaRow
import Derived.Test.YtiihllfjlgbfcaaHalt
namespace Go.Proofs.Ytiihllfjlgbfcaa
open Go.RowKit

/-- u is w with new blocks, and of the old ones all are kept but those that F names. -/
structure Fr (F : Nat → Prop) (w u : World) : Prop where
  os : u.os = w.os
  tape : u.tape = w.tape
  output : u.output = w.output
  size : w.heap.size ≤ u.heap.size
  block : ∀ k, k < w.heap.size → ¬ F k → u.heap[k]? = w.heap[k]?
section
variable {F : Nat → Prop} {w u v : World}
theorem Fr.refl (F : Nat → Prop) (w : World) : Fr F w w := ⟨rfl, rfl, rfl, Nat.le_refl _, fun _ _ _ => rfl⟩
theorem Fr.trans (h : Fr F w u) (k : Fr F u v) : Fr F w v :=
  ⟨k.os.trans h.os, k.tape.trans h.tape, k.output.trans h.output, Nat.le_trans h.size k.size, fun i hi hf => (k.block i (Nat.lt_of_lt_of_le hi h.size) hf).trans (h.block i hi hf)⟩
theorem Fr.of_gb (h : GB w u) : Fr F w u := ⟨h.os, h.tape, h.output, h.size, fun k hk _ => h.block k hk⟩
theorem Fr.gb (h : Fr F w u) (k : GB u v) : Fr F w v := h.trans (Fr.of_gb k)
theorem Fr.drew (h : Fr F w u) : Fr F w u.drew := h.gb (GB.drew _)
theorem Fr.alloc (h : Fr F w u) (o : Obj) : Fr F w (u.alloc o) := h.gb ((Below.refl _ _).alloc (Nat.le_refl _) o)
theorem Fr.of_grown {g : Option Nat} (h : w.grownBy u g) (hg : ∀ k, g = some k → F k) : Fr F w u :=
  ⟨h.os, h.tape, h.output, h.size, fun k hk hf => h.block k hk (fun e => hf (hg k e.symm))⟩
/-- A write to what is named, or to what is new. -/
theorem Fr.grown {g : Option Nat} (h : Fr F w u) (k : u.grownBy v g) (hg : ∀ j, g = some j → F j ∨ w.heap.size ≤ j) : Fr F w v :=
  ⟨k.os.trans h.os, k.tape.trans h.tape, k.output.trans h.output, Nat.le_trans h.size k.size, fun i hi hf => (k.block i (Nat.lt_of_lt_of_le hi h.size) (fun e => by
    rcases hg i e.symm with h' | h'
    · exact hf h'
    · omega)).trans (h.block i hi hf)⟩
theorem Fr.setCell (h : Fr F w u) (g j : Nat) (x : Value) (hg : F g ∨ w.heap.size ≤ g) : Fr F w (u.setCell ⟨g, j, none⟩ x) :=
  h.grown (grown_cell u g j x) (fun k hk => by cases hk; exact hg)
theorem Fr.mono {F' : Nat → Prop} (h : Fr F w u) (hF : ∀ k, k < w.heap.size → F k → F' k) : Fr F' w u := ⟨h.os, h.tape, h.output, h.size, fun k hk hf => h.block k hk (fun e => hf (hF k hk e))⟩
theorem Fr.blk (h : Fr F w u) {g : Nat} {T : TypeId} {cs : List Value} (hB : Blk w g T cs) (hg : ¬ F g) : Blk u g T cs := (h.block g hB.lt hg).trans hB
theorem Fr.rd (h : Fr F w u) {a : Option Addr} {cs : List Value} (hr : Rd w a cs) (hg : ∀ ad, a = some ad → ¬ F ad.block) : Rd u a cs := by
  intro i hi
  obtain ⟨ad, he, hc⟩ := hr i hi
  have hb := World.block_lt_of_cell? _ _ hc
  rw [Addr.block_add] at hb
  exact ⟨ad, he, (World.cell?_of_block (w := w) (by rw [Addr.block_add]; exact h.block _ hb (hg ad he))).trans hc⟩
theorem Fr.row (h : Fr F w u) {base e sz n : Nat} {x : Value} {cs : List Value} (hr : w.ownsRow base e sz x n cs) (hg : ∀ k, x.ownBlock = some k → ¬ F k) : u.ownsRow base e sz x n cs := by
  rcases hr with ⟨h1, h2 | ⟨g, cap, cur, rfl, hb, hgg, r⟩⟩
  · exact ⟨h1, .inl h2⟩
  · exact ⟨h1, .inr ⟨g, cap, cur, rfl, hb, (h.block g (Array.getElem?_eq_some_iff.1 hgg).1 (hg g rfl)).trans hgg, r⟩⟩
theorem Fr.below {B : Nat} (h : Fr F w u) (hB : ∀ k, k < w.heap.size → F k → B ≤ k) (hs : B ≤ w.heap.size) : Below B w u :=
  ⟨h.os, h.tape, h.output, h.size, fun k hk => h.block k (by omega) (fun hf => by have := hB k (by omega) hf; omega)⟩
end
theorem region_fr {F : Nat → Prop} {id : Nat} {ops : Array Oper} {Q : Exit → Act → World → Prop} {a : Act} {w : World} (σ : List (Nat × Nat)) (tails : List Nat)
    (hok : (Region.noSelect ops && σ.length == ops.size && schedOk ops tails σ (Array.replicate ops.size false)) = true)
    (h : runS Try.prog ops (NP Q) (Fr F) σ a w.drew) : (Code.region id ops true).wp Try.prog Q a w :=
  wp_region_sched σ tails mixed (Fr.refl F) (fun _ _ _ => Fr.trans) hok h

/-- append, and: what it yields lies where it lay, or in a new block. -/
theorem run_appendW {T e : TypeId} {sz bytes : Nat} {z : Value} (hE : Elem T e sz bytes z) {w : World} {base n : Nat} {v : Value} {cs : List Value} (ty : TypeId) (hown : w.ownsRow base e sz v n cs) (xa : Option Addr) (ms : List Value) (m c : Nat)
    (hm : ms.length = m * sz) (hrd : Rd w xa ms) (h1 : ∀ u ∈ ms, u.oneCell' = true) (hb : n + m ≤ 1099511627776) (hbase : base ≤ w.heap.size) :
    ∃ v' w', (Builtin.append_ #[T, T] ty #[v, .slice xa m c]).run Try.prog w = .ok v' w' ∧ w'.ownsRow base e sz v' (n + m) (cs ++ ms) ∧ w.grownBy w' v.ownBlock ∧ (∀ k, v'.ownBlock = some k → v.ownBlock = some k ∨ w.heap.size ≤ k) := by
  obtain ⟨v', w', hr, h2, h3⟩ := run_appendV hE ty hown xa ms m c hm hrd h1 hb hbase
  refine ⟨v', w', hr, h2, h3, ?_⟩
  have hE' := hE
  obtain ⟨hT, ⟨i, hi, hz0, hz1, hz2⟩, hz3, hz4, hz5⟩ := hE'
  rcases hown.2 with ⟨rfl, h0⟩ | ⟨g, cap, cur, rfl, hbg, hg, hnc, hcm, hcs, htake⟩
  · have hown' : w.ownsRow w.heap.size e sz (.slice none 0 0) n cs := ⟨hown.1, .inl ⟨rfl, h0⟩⟩
    obtain ⟨v2, w2, hr2, h4, -⟩ := run_appendV hE ty hown' xa ms m c hm hrd h1 hb (Nat.le_refl _)
    rw [hr] at hr2
    cases hr2
    exact fun k hk => .inr (h4.lt k hk).1
  · cases xa with
    | none =>
      have : ms = [] := by simpa using hrd.none
      subst this
      have hm0 : m = 0 := by
        rcases Nat.eq_zero_or_pos m with h | h
        · exact h
        · have := Nat.mul_pos h hz4; simp at hm; omega
      subst hm0
      have : (Builtin.append_ #[T, T] ty #[.slice (some ⟨g, 0, none⟩) n cap, .slice none 0 c]).run Try.prog w = .ok (.slice (some ⟨g, 0, none⟩) n cap) w := by
        simp [Builtin.append_, run_underlying hT, sizeOf, typeInfo, hi, Builtin.lenOf, Builtin.firstCells, hnc, storeCells]
      rw [hr] at this
      cases this
      exact fun k hk => .inl hk
    | some ad =>
      by_cases hroom : n + m ≤ cap
      · have := run_append_room (P := Try.prog) w T ty e i hT hi g n cap cur hg ad m c ms (by rw [hz1]; exact hm) hrd.cells h1 hroom (by rw [hz1, hm, hcs, ← Nat.add_mul]; exact Nat.mul_le_mul_right _ hroom)
        rw [hr] at this
        cases this
        exact fun k hk => .inl hk
      · have holds : ∀ j u, cs[j]? = some u → w.cell? ((⟨g, 0, none⟩ : Addr).add j) = some u := hown.cells (g := g) rfl
        have := run_append_grow (P := Try.prog) w T ty e i z hT hi hz0 ⟨g, 0, none⟩ n cap cs (by rw [hz1]; exact hown.1) holds ad m c ms (by rw [hz1]; exact hm) hrd.cells (by omega) (by omega) (growslice_fits (by omega) (by
          rw [hz2]
          have : (n + m) * bytes ≤ 1099511627776 * 128 := Nat.mul_le_mul hb hz5
          omega))
        rw [hr] at this
        cases this
        intro k hk
        simp [Value.ownBlock] at hk
        exact .inr (by omega)
theorem wp_appendW {T e : TypeId} {sz bytes : Nat} {z : Value} (hE : Elem T e sz bytes z) {w : World} {o : Oper} {a : Act} {K : Act → World → Prop} {Q : Exit → Act → World → Prop} (s x : Operand)
    (ho : o.op = .call { callee := .builtin .append, args := #[s, x], argTypes := #[T, T] })
    {base n : Nat} {v : Value} {cs : List Value} (hs : a.eval s = v) (hown : w.ownsRow base e sz v n cs) {xa : Option Addr} {ms : List Value} {m c : Nat} (hx : a.eval x = .slice xa m c) (hm : ms.length = m * sz) (hrd : Rd w xa ms)
    (h1 : ∀ u ∈ ms, u.oneCell' = true) (hb : n + m ≤ 1099511627776) (hbase : base ≤ w.heap.size)
    (h : ∀ v' w', w'.ownsRow base e sz v' (n + m) (cs ++ ms) → w.grownBy w' v.ownBlock → (∀ k, v'.ownBlock = some k → v.ownBlock = some k ∨ w.heap.size ≤ k) → K (a.put o.dst v') w') : o.wp Try.prog a w K Q := by
  obtain ⟨v', w', hr, h2, h3, h4⟩ := run_appendW hE o.type hown xa ms m c hm hrd h1 hb hbase
  refine wp_run ?_ (h v' w' h2 h3 h4)
  simp only [execOp, ho, resolve, invoke, builtin, Sem.run_bind, Sem.run_pure, Result.andThen_ok, List.map_toArray, List.map_cons, List.map_nil, hs, hx, hr]
theorem wpList_appendW {T e : TypeId} {sz bytes : Nat} {z : Value} (hE : Elem T e sz bytes z) {w : World} {ops : Array Oper} {rest : List Oper} {o : Oper} {a : Act} {Q : Exit → Act → World → Prop} (hgd : o.guard = none) (s x : Operand)
    (ho : o.op = .call { callee := .builtin .append, args := #[s, x], argTypes := #[T, T] })
    {base n : Nat} {v : Value} {cs : List Value} (hs : a.eval s = v) (hown : w.ownsRow base e sz v n cs) {xa : Option Addr} {ms : List Value} {m c : Nat} (hx : a.eval x = .slice xa m c) (hm : ms.length = m * sz) (hrd : Rd w xa ms)
    (h1 : ∀ u ∈ ms, u.oneCell' = true) (hb : n + m ≤ 1099511627776) (hbase : base ≤ w.heap.size)
    (h : ∀ v' w', w'.ownsRow base e sz v' (n + m) (cs ++ ms) → w.grownBy w' v.ownBlock → (∀ k, v'.ownBlock = some k → v.ownBlock = some k ∨ w.heap.size ≤ k) → wpList Try.prog ops Q rest (a.put o.dst v') w') : wpList Try.prog ops Q (o :: rest) a w :=
  wpList_plain hgd fun _ hK => wp_appendW hE s x ho hs hown hx hm hrd h1 hb hbase fun v' w' h2 h3 h4 => hK _ _ (h v' w' h2 h3 h4)
end Go.Proofs.Ytiihllfjlgbfcaa
