/- A region whose order Go leaves open, by ONE walk: what only reads (and reads the same whatever the region's other operations do) is taken as soon as it may come up; what acts stands alone when its turn comes. -/
import Derived.Test.YtiihllfjlgbfcaaBase
import Derived.RegionTactic
namespace Go.Proofs.Ytiihllfjlgbfcaa
open Go.RowKit
section
variable {P : Program} {ops : Array Oper} {Q : Exit → Act → World → Prop} {G : World → World → Prop}

/-- Operation 'oi' finds the same at frame a' as at a. -/
def Same (ops : Array Oper) (oi : Oper) (a a' : Act) : Prop :=
  execOp a'.eval oi = execOp a.eval oi ∧ Region.wanted oi (yielded ops a'.tmps) = Region.wanted oi (yielded ops a.tmps)

theorem exch {j : Nat} {oi oj : Oper} {v : Value} (hj : ops[j]? = some oj) (hap : oi.apart ops oj = true)
    (hsi : ∀ cs b, oi.op ≠ .select cs b) (hsj : ∀ cs b, oj.op ≠ .select cs b)
    (hQ : ∀ c a w, Q (.panic c) (a.put oi.dst v) w → Q (.panic c) a w) {K : Act → World → Prop} {a : Act} {w : World}
    (h : wpOp P ops Q j K (a.put oi.dst v) w) : wpOp P ops Q j (fun a' w' => Same ops oi a a' ∧ K (a'.put oi.dst v) w') a w := by
  obtain ⟨h1, h2, h3⟩ := Oper.apart_spec hap
  have keep : ∀ (b : Act) u, Same ops oi b (b.put oj.dst u) := fun b u => ⟨execOp_put oi hsi b oj.dst u h3, wanted_put oi b oj.dst u h3⟩
  unfold wpOp at *
  simp only [hj] at *
  rw [wanted_put oj a oi.dst v h1] at h
  by_cases hw : Region.wanted oj (yielded ops a.tmps) = true
  · rw [if_pos hw] at h
    rw [if_pos hw]
    rcases h with h | ⟨hasks, hlets⟩
    · left
      unfold Oper.wp at *
      rw [execOp_put oj hsj a oi.dst v h1] at h
      generalize (execOp a.eval oj).run P w = r at *
      cases r with
      | halt x w' => cases x <;> simp only [Oper.upon] at h ⊢; exact hQ _ _ _ h
      | ok n w' =>
        cases n <;> simp only [Oper.upon] at h ⊢
        case value u => exact ⟨keep a u, by rw [← Act.put_comm a v u h2]; exact h⟩
        case skip => exact ⟨keep a _, by rw [← Act.put_comm a v undef h2]; exact h⟩
        case defer d => exact ⟨keep _ _, by rw [← Act.put_comm _ v undef h2, ← Act.put_defers]; exact h⟩
        case row row args => exact Rows.mono h fun u w'' he => ⟨keep a u, by rw [← Act.put_comm a v u h2]; exact he⟩
        case enter f args =>
          refine Calls.mono h fun e w'' he => ?_
          cases e with
          | returned u => exact ⟨keep a u, by rw [← Act.put_comm a v u h2]; exact he⟩
          | panicked c => exact hQ _ _ _ he
          | outgrown => exact he
    · exact .inr ⟨by unfold Oper.asks at *; rw [execOp_put oj hsj a oi.dst v h1] at hasks; exact hasks, hlets⟩
  · rw [if_neg hw] at h
    rw [if_neg hw]
    exact ⟨keep a _, by rw [← Act.put_comm a v undef h2]; exact h⟩

/-- 'wpAny', and every operation outside T leaves a world that G joins to the one ahead of it. -/
def wpG (P : Program) (ops : Array Oper) (Q : Exit → Act → World → Prop) (G : World → World → Prop) (T : Nat → Bool) : Nat → Array Bool → Act → World → Prop
  | 0, listed, a, w => Region.ready .any ops listed = [] ∧ Q .normal a w
  | fuel + 1, listed, a, w =>
    (Region.ready .any ops listed = [] → Q .normal a w) ∧
    ∀ i ∈ Region.ready .any ops listed, wpOp P ops Q i (fun a' w' => (T i = false → G w w') ∧ wpG P ops Q G T fuel (listed.setIfInBounds i true) a' w') a w

theorem wpG_any {T : Nat → Bool} : ∀ (fuel : Nat) (listed : Array Bool) (a : Act) (w : World), wpG P ops Q G T fuel listed a w → wpAny P .any ops Q fuel listed a w
  | 0, _, _, _, h => h
  | fuel + 1, _, _, _, h => ⟨h.1, fun i hi => wpOp_mono (fun a' w' h' => wpG_any fuel _ a' w' h'.2) (h.2 i hi)⟩

/-- Whatever is listed, all that binds it ahead is. -/
def Closed (ops : Array Oper) (listed : Array Bool) : Prop :=
  ∀ j o, ops[j]? = some o → listed.getD j false = true → ∀ e ∈ o.after, Region.binds .any e = true → listed.getD e.on false = true

/-- Is i bound ahead of t, by at most n edges? -/
def reach (ops : Array Oper) : Nat → Nat → Nat → Bool
  | 0, _, _ => false
  | n + 1, t, i => match ops[t]? with
    | none => false
    | some o => o.after.any fun e => Region.binds .any e && (e.on == i || reach ops n e.on i)

theorem reach_listed {listed : Array Bool} (hc : Closed ops listed) (i : Nat) : ∀ (n t : Nat), reach ops n t i = true → listed.getD t false = true → listed.getD i false = true := by
  intro n
  induction n with
  | zero => intro t h; simp [reach] at h
  | succ n ih =>
    intro t h ht
    unfold reach at h
    cases ho : ops[t]? with
    | none => simp [ho] at h
    | some o =>
      simp only [ho] at h
      obtain ⟨e, he, hb⟩ := Array.any_eq_true'.1 h
      simp only [Bool.and_eq_true, Bool.or_eq_true, beq_iff_eq] at hb
      have hl := hc t o ho ht e he hb.1
      rcases hb.2 with h' | h'
      · rw [← h']; exact hl
      · exact ih _ h' hl

theorem reach_ready {listed : Array Bool} (hc : Closed ops listed) {i n t : Nat} (h : reach ops n t i = true) (ht : t ∈ Region.ready .any ops listed) : listed.getD i false = true := by
  obtain ⟨_, o, ho, hall⟩ := mem_ready.1 ht
  cases n with
  | zero => simp [reach] at h
  | succ n =>
    unfold reach at h
    simp only [ho] at h
    obtain ⟨e, he, hb⟩ := Array.any_eq_true'.1 h
    simp only [Bool.and_eq_true, Bool.or_eq_true, beq_iff_eq] at hb
    have hl := hall e he hb.1
    rcases hb.2 with h' | h'
    · rw [← h']; exact hl
    · exact reach_listed hc i n _ h' hl

theorem closed_set {listed : Array Bool} (hc : Closed ops listed) {i : Nat} (hi : i ∈ Region.ready .any ops listed) : Closed ops (listed.setIfInBounds i true) := by
  intro j o ho hj e he hb
  by_cases hij : i = j
  · subst hij
    obtain ⟨_, o', ho', hall⟩ := mem_ready.1 hi
    obtain rfl : o' = o := Option.some.inj (ho'.symm.trans ho)
    exact getD_set_true (hall e he hb)
  · rw [getD_set_ne false hij] at hj
    exact getD_set_true (hc j o ho hj e he hb)

/-- What operation 'oi' yields in every world that G joins to w (or it is passed over). -/
def YieldsG (P : Program) (ops : Array Oper) (G : World → World → Prop) (oi : Oper) (v : Value) (a : Act) (w : World) : Prop :=
  (Region.wanted oi (yielded ops a.tmps) = true ∧ ∀ u, G w u → (execOp a.eval oi).run P u = .ok (.value v) u) ∨
  (Region.wanted oi (yielded ops a.tmps) = false ∧ v = undef)

theorem YieldsG.op {T : Nat → Bool} {i : Nat} {o : Oper} {v : Value} {a : Act} {w : World} (hr : ∀ w, G w w) (hi : ops[i]? = some o) (hy : YieldsG P ops G o v a w)
    {K : Act → World → Prop} (h : K (a.put o.dst v) w) : wpOp P ops Q i (fun a' w' => (T i = false → G w w') ∧ K a' w') a w := by
  unfold wpOp
  simp only [hi]
  rcases hy with ⟨hw, hv⟩ | ⟨hw, rfl⟩
  · rw [if_pos hw]; left; unfold Oper.wp; rw [hv w (hr w)]; exact ⟨fun _ => hr w, h⟩
  · rw [if_neg (by simp [hw])]; exact ⟨fun _ => hr w, h⟩

theorem wpG_first {T : Nat → Bool} (hr : ∀ w, G w w) (ht : ∀ a b c, G a b → G b c → G a c) {i : Nat} {oi : Oper} {v : Value} (hi : ops[i]? = some oi)
    (hsel : Region.noSelect ops = true) (hQ : ∀ c a w, Q (.panic c) (a.put oi.dst v) w → Q (.panic c) a w) (N : Nat) (hT : ∀ t, T t = true → reach ops N t i = true) :
    ∀ (fuel : Nat) (listed : Array Bool) (a : Act) (w : World), Closed ops listed →
      (∀ j oj, ops[j]? = some oj → j ≠ i → listed.getD j true = false → (∀ e ∈ oj.after, Region.binds .any e = true → e.on ≠ i) → oi.apart ops oj = true) →
      i ∈ Region.ready .any ops listed → YieldsG P ops G oi v a w →
      wpG P ops Q G T fuel (listed.setIfInBounds i true) (a.put oi.dst v) w → wpG P ops Q G T (fuel + 1) listed a w := by
  intro fuel
  induction fuel with
  | zero =>
    intro listed a w _ _ hrd hy H
    refine ⟨fun h => (by rw [h] at hrd; cases hrd), fun j hj => ?_⟩
    by_cases hji : j = i
    · subst hji; exact hy.op hr hi H
    · have := ready_mono hj hji
      rw [H.1] at this
      cases this
  | succ fuel ih =>
    intro listed a w hc hfree hrd hy H
    refine ⟨fun h => (by rw [h] at hrd; cases hrd), fun j hj => ?_⟩
    by_cases hji : j = i
    · subst hji; exact hy.op hr hi H
    · have hun : listed.getD i true = false := (mem_ready.1 hrd).1
      have hun' : listed.getD i false ≠ true := by
        intro h
        rcases Nat.lt_or_ge i listed.size with h' | h'
        · simp [h'] at h hun; rw [h] at hun; cases hun
        · simp [Array.getElem?_eq_none h'] at hun
      have hTj : T j = false := by
        cases hTj : T j with
        | false => rfl
        | true => exact absurd (reach_ready hc (hT j hTj) hj) hun'
      obtain ⟨hjun, oj, hoj, hall⟩ := mem_ready.1 hj
      have hnot : ∀ e ∈ oj.after, Region.binds .any e = true → e.on ≠ i := fun e he hb heq => hun' (heq ▸ hall e he hb)
      have h1 := H.2 j (ready_mono hj hji)
      have h2 := exch hoj (hfree j oj hoj hji hjun hnot) (fun cs b => Region.noSelect_spec hsel i oi cs b hi) (fun cs b => Region.noSelect_spec hsel j oj cs b hoj) hQ h1
      refine wpOp_mono (fun a' w' h3 => ⟨h3.2.1, ?_⟩) h2
      have hG := h3.2.1 hTj
      refine ih (listed.setIfInBounds j true) a' w' (closed_set hc hj) (fun k ok hk hki hunk hno => ?_) (ready_mono hrd (Ne.symm hji)) ?_ ?_
      · refine hfree k ok hk hki ?_ hno
        by_cases hjk : j = k
        · subst hjk; exact hjun
        · rw [getD_set_ne true hjk] at hunk; exact hunk
      · rcases hy with ⟨hw, hv⟩ | ⟨hw, hv⟩
        · exact .inl ⟨by rw [h3.1.2]; exact hw, fun u hu => by rw [h3.1.1]; exact hv u (ht _ _ _ hG hu)⟩
        · exact .inr ⟨by rw [h3.1.2]; exact hw, hv⟩
      · rw [Array.setIfInBounds_comm _ _ hji]
        exact h3.2.2

/-- THE WALK of a region in an order of ours: kind 0: it only reads · kind 1: it acts, and G joins the worlds · kind 2: it acts behind all that reads. -/
def runS (P : Program) (ops : Array Oper) (Q : Exit → Act → World → Prop) (G : World → World → Prop) : List (Nat × Nat) → Act → World → Prop
  | [], a, w => Q .normal a w
  | (i, k) :: r, a, w => match ops[i]? with
    | none => False
    | some o => match k with
      | 0 => ∃ v, YieldsG P ops G o v a w ∧ runS P ops Q G r (a.put o.dst v) w
      | 1 => wpOp P ops Q i (fun a' w' => G w w' ∧ runS P ops Q G r a' w') a w
      | _ => wpOp P ops Q i (runS P ops Q G r) a w

/-- May the region be walked in that order? -/
def schedOk (ops : Array Oper) (tails : List Nat) : List (Nat × Nat) → Array Bool → Bool
  | [], listed => (Region.ready .any ops listed).isEmpty
  | (i, k) :: r, listed =>
    (match k with
      | 0 => (Region.ready .any ops listed).contains i && Region.free .any ops listed i && tails.all fun t => reach ops ops.size t i
      | 1 => (Region.ready .any ops listed) == [i] && !tails.contains i
      | _ => (Region.ready .any ops listed) == [i] && tails.contains i) &&
    schedOk ops tails r (listed.setIfInBounds i true)

theorem wpG_of_runS (hr : ∀ w, G w w) (ht : ∀ a b c, G a b → G b c → G a c) (hsel : Region.noSelect ops = true)
    (hQ : ∀ c a w d v, Q (.panic c) (a.put d v) w → Q (.panic c) a w) (tails : List Nat) :
    ∀ (σ : List (Nat × Nat)) (listed : Array Bool) (a : Act) (w : World), Closed ops listed → schedOk ops tails σ listed = true → runS P ops Q G σ a w →
      wpG P ops Q G (fun t => tails.contains t) σ.length listed a w := by
  intro σ
  induction σ with
  | nil => intro listed a w _ hs h; exact ⟨by simpa [schedOk] using hs, h⟩
  | cons x r ih =>
    obtain ⟨i, k⟩ := x
    intro listed a w hc hs h
    unfold schedOk at hs
    rw [Bool.and_eq_true] at hs
    obtain ⟨hs1, hs2⟩ := hs
    unfold runS at h
    cases ho : ops[i]? with
    | none => simp [ho] at h
    | some o =>
      simp only [ho] at h
      match k with
      | 0 =>
        simp only [Bool.and_eq_true, List.contains_iff_mem, List.all_eq_true] at hs1
        obtain ⟨v, hy, hrest⟩ := h
        exact wpG_first hr ht ho hsel (fun c a w => hQ c a w _ _) ops.size (fun t hT => hs1.2 t (by simpa using hT)) r.length listed a w hc
          (Region.free_spec ho hs1.1.2) hs1.1.1 hy (ih _ _ _ (closed_set hc hs1.1.1) hs2 hrest)
      | 1 =>
        simp only [Bool.and_eq_true, beq_iff_eq, Bool.not_eq_true'] at hs1
        have hmem : i ∈ Region.ready .any ops listed := by rw [hs1.1]; simp
        refine ⟨fun h0 => absurd (h0.symm.trans hs1.1) (by simp), fun j hj => ?_⟩
        rw [hs1.1, List.mem_singleton] at hj
        subst hj
        exact wpOp_mono (fun a' w' h' => ⟨fun _ => h'.1, ih _ _ _ (closed_set hc hmem) hs2 h'.2⟩) h
      | k + 2 =>
        simp only [Bool.and_eq_true, beq_iff_eq] at hs1
        have hmem : i ∈ Region.ready .any ops listed := by rw [hs1.1]; simp
        refine ⟨fun h0 => absurd (h0.symm.trans hs1.1) (by simp), fun j hj => ?_⟩
        rw [hs1.1, List.mem_singleton] at hj
        subst hj
        refine wpOp_mono (fun a' w' h' => ⟨fun hf => ?_, ih _ _ _ (closed_set hc hmem) hs2 h'⟩) h
        have hf' : tails.contains j = false := hf
        rw [hs1.2] at hf'; cases hf'

theorem closed_none (n : Nat) : Closed ops (Array.replicate n false) := by
  intro j o _ h
  rw [Array.getD_eq_getD_getElem?, Array.getElem?_replicate] at h
  split at h <;> simp at h

/-- 'Q', and no way out by a panic. -/
def NP (Q : Exit → Act → World → Prop) : Exit → Act → World → Prop
  | .panic _, _, _ => False
  | e, a, w => Q e a w
theorem NP.imp : ∀ e a w, NP Q e a w → Q e a w := fun e a w h => by cases e <;> first | exact h | exact False.elim h

theorem wp_region_sched {id : Nat} {a : Act} {w : World} (σ : List (Nat × Nat)) (tails : List Nat) (hm : P.follows .mixedOrders = true) (hr : ∀ w, G w w) (ht : ∀ a b c, G a b → G b c → G a c)
    (hok : (Region.noSelect ops && σ.length == ops.size && schedOk ops tails σ (Array.replicate ops.size false)) = true)
    (h : runS P ops (NP Q) G σ a w.drew) : (Code.region id ops true).wp P Q a w := by
  simp only [Bool.and_eq_true, beq_iff_eq] at hok
  obtain ⟨⟨h1, h2⟩, h3⟩ := hok
  refine Code.wp_mono NP.imp (wp_region_any hm (wpG_any (G := G) (T := fun t => tails.contains t) _ _ _ _ ?_))
  rw [← h2]
  rw [← h2] at h3
  exact wpG_of_runS hr ht h1 (fun c a w d v h => h) tails σ _ _ _ (closed_none _) h3 h

/-! ### The steps -/
def nthO : List Oper → Nat → Option Oper
  | [], _ => none
  | o :: _, 0 => some o
  | _ :: l, n + 1 => nthO l n
theorem nthO_get : ∀ (l : List Oper) (i : Nat), nthO l i = l[i]?
  | [], _ => by simp [nthO]
  | _ :: _, 0 => by simp [nthO]
  | _ :: l, n + 1 => by simp [nthO, nthO_get l n]
theorem nthO_ops {i : Nat} {o : Oper} (h : nthO ops.toList i = some o) : ops[i]? = some o := by
  rw [nthO_get] at h; simpa using h
theorem NP.n {a : Act} {w : World} (h : Q .normal a w) : NP Q .normal a w := h
theorem S.done {a : Act} {w : World} (h : Q .normal a w) : runS P ops (NP Q) G [] a w := h

theorem S0 {i : Nat} {o : Oper} {r : List (Nat × Nat)} {a : Act} {w : World} {v : Value} (ho : nthO ops.toList i = some o) (hw : Region.wanted o (yielded ops a.tmps) = true)
    (hv : ∀ u, G w u → (execOp a.eval o).run P u = .ok (.value v) u) (h : runS P ops Q G r (a.put o.dst v) w) : runS P ops Q G ((i, 0) :: r) a w := by
  unfold runS; simp only [nthO_ops ho]; exact ⟨v, .inl ⟨hw, hv⟩, h⟩
theorem S0n {i : Nat} {o : Oper} {r : List (Nat × Nat)} {a : Act} {w : World} (ho : nthO ops.toList i = some o) (hw : Region.wanted o (yielded ops a.tmps) = false)
    (h : runS P ops Q G r (a.put o.dst undef) w) : runS P ops Q G ((i, 0) :: r) a w := by
  unfold runS; simp only [nthO_ops ho]; exact ⟨undef, .inr ⟨hw, rfl⟩, h⟩
theorem S1 {i : Nat} {o : Oper} {r : List (Nat × Nat)} {a : Act} {w : World} (ho : nthO ops.toList i = some o) (hw : Region.wanted o (yielded ops a.tmps) = true)
    (h : ∀ K : Act → World → Prop, (∀ a' w', G w w' → runS P ops Q G r a' w' → K a' w') → o.wp P a w K Q) : runS P ops Q G ((i, 1) :: r) a w := by
  unfold runS; simp only [nthO_ops ho]; unfold wpOp; simp only [nthO_ops ho, hw, if_true]; exact .inl (h _ fun a' w' h1 h2 => ⟨h1, h2⟩)
theorem S1n {i : Nat} {o : Oper} {r : List (Nat × Nat)} {a : Act} {w : World} (hr : ∀ w, G w w) (ho : nthO ops.toList i = some o) (hw : Region.wanted o (yielded ops a.tmps) = false)
    (h : runS P ops Q G r (a.put o.dst undef) w) : runS P ops Q G ((i, 1) :: r) a w := by
  unfold runS; simp only [nthO_ops ho]; unfold wpOp; simp only [nthO_ops ho, hw, Bool.false_eq_true, if_false]; exact ⟨hr w, h⟩
theorem S2 {i : Nat} {o : Oper} {r : List (Nat × Nat)} {a : Act} {w : World} (ho : nthO ops.toList i = some o) (hw : Region.wanted o (yielded ops a.tmps) = true)
    (h : ∀ K : Act → World → Prop, (∀ a' w', runS P ops Q G r a' w' → K a' w') → o.wp P a w K Q) : runS P ops Q G ((i, 2) :: r) a w := by
  unfold runS; simp only [nthO_ops ho]; unfold wpOp; simp only [nthO_ops ho, hw, if_true]; exact .inl (h _ fun a' w' h2 => h2)
/-- A calm operation: it is run at EVERY world that G joins to this one; the frame is out of sight: only what its operands hold is. -/
theorem S0w {i : Nat} {o : Oper} {r : List (Nat × Nat)} {a : Act} {w : World} {v : Value} (ho : nthO ops.toList i = some o) (hw : Region.wanted o (yielded ops a.tmps) = true)
    (hv : ∀ u, G w u → ∀ N : Value → World → Prop, N v u → (match (execOp a.eval o).run P u with | .ok (.value x) u' => N x u' | _ => False))
    (h : runS P ops Q G r (a.put o.dst v) w) : runS P ops Q G ((i, 0) :: r) a w := by
  refine S0 ho hw (fun u hu => ?_) h
  have := hv u hu (fun x u' => x = v ∧ u' = u) ⟨rfl, rfl⟩
  split at this
  · rename_i x u' he; obtain ⟨rfl, rfl⟩ := this; exact he
  · exact this.elim
/-- 'move', 'assign', by looking. -/
theorem S0m {i : Nat} {o : Oper} {r : List (Nat × Nat)} {a : Act} {w : World} {x : Operand} (ho : nthO ops.toList i = some o) (hop : o.op = .move x ∨ o.op = .assign x) (hw : Region.wanted o (yielded ops a.tmps) = true)
    (h : runS P ops Q G r (a.put o.dst (a.eval x)) w) : runS P ops Q G ((i, 0) :: r) a w := by
  refine S0 ho hw (fun u _ => ?_) h
  rcases hop with hop | hop <;> (unfold execOp; rw [hop]; rfl)
end
end Go.Proofs.Ytiihllfjlgbfcaa
