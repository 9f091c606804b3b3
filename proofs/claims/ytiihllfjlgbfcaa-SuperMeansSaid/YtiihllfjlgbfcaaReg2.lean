/- The regions of Reg, walked along a tree: where two operations that act may come up at once, both orders are walked. -/
import Derived.Test.YtiihllfjlgbfcaaFr
namespace Go.Proofs.Ytiihllfjlgbfcaa
open Go.RowKit
inductive Tr where
  | done : Tr
  | calm : Nat → Tr → Tr
  | act : Nat → Tr → Tr
  | last : Nat → Tr → Tr
  | fork : Nat → Nat → Tr → Tr → Tr
def Tr.depth : Tr → Nat
  | .done => 0
  | .calm _ t => t.depth + 1
  | .act _ t => t.depth + 1
  | .last _ t => t.depth + 1
  | .fork _ _ t _ => t.depth + 1
section
variable {P : Program} {ops : Array Oper} {Q : Exit → Act → World → Prop} {G : World → World → Prop}
def runT (P : Program) (ops : Array Oper) (Q : Exit → Act → World → Prop) (G : World → World → Prop) : Tr → Act → World → Prop
  | .done, a, w => Q .normal a w
  | .calm i t, a, w => ∃ o v, ops[i]? = some o ∧ YieldsG P ops G o v a w ∧ runT P ops Q G t (a.put o.dst v) w
  | .act i t, a, w => wpOp P ops Q i (fun a' w' => G w w' ∧ runT P ops Q G t a' w') a w
  | .last i t, a, w => wpOp P ops Q i (runT P ops Q G t) a w
  | .fork i j t u, a, w => wpOp P ops Q i (fun a' w' => G w w' ∧ runT P ops Q G t a' w') a w ∧ wpOp P ops Q j (fun a' w' => G w w' ∧ runT P ops Q G u a' w') a w
def treeOk (ops : Array Oper) (tails : List Nat) : Tr → Array Bool → Bool
  | .done, listed => (Region.ready .any ops listed).isEmpty
  | .calm i t, listed => (Region.ready .any ops listed).contains i && Region.free .any ops listed i && (tails.all fun t => reach ops ops.size t i) && treeOk ops tails t (listed.setIfInBounds i true)
  | .act i t, listed => (Region.ready .any ops listed) == [i] && !tails.contains i && treeOk ops tails t (listed.setIfInBounds i true)
  | .last i t, listed => (Region.ready .any ops listed) == [i] && tails.contains i && treeOk ops tails t (listed.setIfInBounds i true)
  | .fork i j t u, listed => (Region.ready .any ops listed) == [i, j] && t.depth == u.depth && treeOk ops tails t (listed.setIfInBounds i true) && treeOk ops tails u (listed.setIfInBounds j true)
theorem wpG_of_runT (hr : ∀ w, G w w) (ht : ∀ a b c, G a b → G b c → G a c) (hsel : Region.noSelect ops = true)
    (hQ : ∀ c a w d v, Q (.panic c) (a.put d v) w → Q (.panic c) a w) (tails : List Nat) :
    ∀ (σ : Tr) (listed : Array Bool) (a : Act) (w : World), Closed ops listed → treeOk ops tails σ listed = true → runT P ops Q G σ a w →
      wpG P ops Q G (fun t => tails.contains t) σ.depth listed a w := by
  intro σ
  induction σ with
  | done => intro listed a w _ hs h; exact ⟨by simpa [treeOk] using hs, h⟩
  | calm i t ih =>
    intro listed a w hc hs h
    simp only [treeOk, Bool.and_eq_true, List.contains_iff_mem, List.all_eq_true] at hs
    obtain ⟨o, v, ho, hy, hrest⟩ := h
    exact wpG_first hr ht ho hsel (fun c a w => hQ c a w _ _) ops.size (fun t hT => hs.1.2 t (by simpa using hT)) t.depth listed a w hc
      (Region.free_spec ho hs.1.1.2) hs.1.1.1 hy (ih _ _ _ (closed_set hc hs.1.1.1) hs.2 hrest)
  | act i t ih =>
    intro listed a w hc hs h
    simp only [treeOk, Bool.and_eq_true, beq_iff_eq, Bool.not_eq_true'] at hs
    have hmem : i ∈ Region.ready .any ops listed := by rw [hs.1.1]; simp
    refine ⟨fun h0 => absurd (h0.symm.trans hs.1.1) (by simp), fun j hj => ?_⟩
    rw [hs.1.1, List.mem_singleton] at hj
    subst hj
    exact wpOp_mono (fun a' w' h' => ⟨fun _ => h'.1, ih _ _ _ (closed_set hc hmem) hs.2 h'.2⟩) h
  | last i t ih =>
    intro listed a w hc hs h
    simp only [treeOk, Bool.and_eq_true, beq_iff_eq] at hs
    have hmem : i ∈ Region.ready .any ops listed := by rw [hs.1.1]; simp
    refine ⟨fun h0 => absurd (h0.symm.trans hs.1.1) (by simp), fun j hj => ?_⟩
    rw [hs.1.1, List.mem_singleton] at hj
    subst hj
    refine wpOp_mono (fun a' w' h' => ⟨fun hf => ?_, ih _ _ _ (closed_set hc hmem) hs.2 h'⟩) h
    have hf' : tails.contains j = false := hf
    rw [hs.1.2] at hf'; cases hf'
  | fork i j t u iht ihu =>
    intro listed a w hc hs h
    simp only [treeOk, Bool.and_eq_true, beq_iff_eq] at hs
    obtain ⟨⟨⟨h1, h2⟩, h3⟩, h4⟩ := hs
    have hi : i ∈ Region.ready .any ops listed := by rw [h1]; simp
    have hj : j ∈ Region.ready .any ops listed := by rw [h1]; simp
    refine ⟨fun h0 => absurd (h0.symm.trans h1) (by simp), fun k hk => ?_⟩
    rw [h1] at hk
    simp only [List.mem_cons, List.not_mem_nil, or_false] at hk
    rcases hk with rfl | rfl
    · exact wpOp_mono (fun a' w' h' => ⟨fun _ => h'.1, iht _ _ _ (closed_set hc hi) h3 h'.2⟩) h.1
    · exact wpOp_mono (fun a' w' h' => ⟨fun _ => h'.1, by show wpG P ops Q G _ t.depth _ _ _; rw [h2]; exact ihu _ _ _ (closed_set hc hj) h4 h'.2⟩) h.2
theorem wp_region_tree {id : Nat} {a : Act} {w : World} (σ : Tr) (tails : List Nat) (hm : P.follows .mixedOrders = true) (hr : ∀ w, G w w) (ht : ∀ a b c, G a b → G b c → G a c)
    (hok : (Region.noSelect ops && σ.depth == ops.size && treeOk ops tails σ (Array.replicate ops.size false)) = true)
    (h : runT P ops (NP Q) G σ a w.drew) : (Code.region id ops true).wp P Q a w := by
  simp only [Bool.and_eq_true, beq_iff_eq] at hok
  obtain ⟨⟨h1, h2⟩, h3⟩ := hok
  refine Code.wp_mono NP.imp (wp_region_any hm (wpG_any (G := G) (T := fun t => tails.contains t) _ _ _ _ ?_))
  rw [← h2]
  rw [← h2] at h3
  exact wpG_of_runT hr ht h1 (fun c a w d v h => h) tails σ _ _ _ (closed_none _) h3 h
theorem T.done {a : Act} {w : World} (h : Q .normal a w) : runT P ops (NP Q) G .done a w := h
theorem T0 {i : Nat} {o : Oper} {r : Tr} {a : Act} {w : World} {v : Value} (ho : nthO ops.toList i = some o) (hw : Region.wanted o (yielded ops a.tmps) = true)
    (hv : ∀ u, G w u → (execOp a.eval o).run P u = .ok (.value v) u) (h : runT P ops Q G r (a.put o.dst v) w) : runT P ops Q G (.calm i r) a w := ⟨o, v, nthO_ops ho, .inl ⟨hw, hv⟩, h⟩
theorem T0n {i : Nat} {o : Oper} {r : Tr} {a : Act} {w : World} (ho : nthO ops.toList i = some o) (hw : Region.wanted o (yielded ops a.tmps) = false)
    (h : runT P ops Q G r (a.put o.dst undef) w) : runT P ops Q G (.calm i r) a w := ⟨o, undef, nthO_ops ho, .inr ⟨hw, rfl⟩, h⟩
theorem T0w {i : Nat} {o : Oper} {r : Tr} {a : Act} {w : World} {v : Value} (ho : nthO ops.toList i = some o) (hw : Region.wanted o (yielded ops a.tmps) = true)
    (hv : ∀ u, G w u → ∀ N : Value → World → Prop, N v u → (match (execOp a.eval o).run P u with | .ok (.value x) u' => N x u' | _ => False))
    (h : runT P ops Q G r (a.put o.dst v) w) : runT P ops Q G (.calm i r) a w := by
  refine T0 ho hw (fun u hu => ?_) h
  have := hv u hu (fun x u' => x = v ∧ u' = u) ⟨rfl, rfl⟩
  split at this
  · rename_i x u' he; obtain ⟨rfl, rfl⟩ := this; exact he
  · exact this.elim
theorem opAct {i : Nat} {o : Oper} {R : Act → World → Prop} {a : Act} {w : World} (ho : nthO ops.toList i = some o) (hw : Region.wanted o (yielded ops a.tmps) = true)
    (h : ∀ K : Act → World → Prop, (∀ a' w', R a' w' → K a' w') → o.wp P a w K Q) : wpOp P ops Q i R a w := by
  unfold wpOp; simp only [nthO_ops ho, hw, if_true]; exact .inl (h _ fun _ _ h => h)
theorem T1 {i : Nat} {o : Oper} {r : Tr} {a : Act} {w : World} (ho : nthO ops.toList i = some o) (hw : Region.wanted o (yielded ops a.tmps) = true)
    (h : ∀ K : Act → World → Prop, (∀ a' w', G w w' → runT P ops Q G r a' w' → K a' w') → o.wp P a w K Q) : runT P ops Q G (.act i r) a w :=
  opAct ho hw fun K hK => h K fun a' w' h1 h2 => hK a' w' ⟨h1, h2⟩
theorem T1n {i : Nat} {o : Oper} {r : Tr} {a : Act} {w : World} (hr : ∀ w, G w w) (ho : nthO ops.toList i = some o) (hw : Region.wanted o (yielded ops a.tmps) = false)
    (h : runT P ops Q G r (a.put o.dst undef) w) : runT P ops Q G (.act i r) a w := by
  unfold runT wpOp; simp only [nthO_ops ho, hw, Bool.false_eq_true, if_false]; exact ⟨hr w, h⟩
theorem T2 {i : Nat} {o : Oper} {r : Tr} {a : Act} {w : World} (ho : nthO ops.toList i = some o) (hw : Region.wanted o (yielded ops a.tmps) = true)
    (h : ∀ K : Act → World → Prop, (∀ a' w', runT P ops Q G r a' w' → K a' w') → o.wp P a w K Q) : runT P ops Q G (.last i r) a w := opAct ho hw h
theorem T.fork {i j : Nat} {o p : Oper} {r s : Tr} {a : Act} {w : World} (ho : nthO ops.toList i = some o) (hw : Region.wanted o (yielded ops a.tmps) = true) (hp : nthO ops.toList j = some p) (hwp : Region.wanted p (yielded ops a.tmps) = true)
    (h : ∀ K : Act → World → Prop, (∀ a' w', G w w' → runT P ops Q G r a' w' → K a' w') → o.wp P a w K Q)
    (k : ∀ K : Act → World → Prop, (∀ a' w', G w w' → runT P ops Q G s a' w' → K a' w') → p.wp P a w K Q) : runT P ops Q G (.fork i j r s) a w :=
  ⟨opAct ho hw fun K hK => h K fun a' w' h1 h2 => hK a' w' ⟨h1, h2⟩, opAct hp hwp fun K hK => k K fun a' w' h1 h2 => hK a' w' ⟨h1, h2⟩⟩
end
theorem region_tree {F : Nat → Prop} {id : Nat} {ops : Array Oper} {Q : Exit → Act → World → Prop} {a : Act} {w : World} (σ : Tr) (tails : List Nat)
    (hok : (Region.noSelect ops && σ.depth == ops.size && treeOk ops tails σ (Array.replicate ops.size false)) = true)
    (h : runT Try.prog ops (NP Q) (Fr F) σ a w.drew) : (Code.region id ops true).wp Try.prog Q a w :=
  wp_region_tree σ tails mixed (Fr.refl F) (fun _ _ _ => Fr.trans) hok h
end Go.Proofs.Ytiihllfjlgbfcaa
