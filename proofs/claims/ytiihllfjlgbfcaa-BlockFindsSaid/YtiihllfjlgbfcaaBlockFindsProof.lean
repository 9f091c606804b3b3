/- BlockFinds: whatever comes in, the law answers true, and what came in reads as before. No condition. -/
import Derived.Test.YtiihllfjlgbfcaaRows
import Derived.WalkKit
import Derived.ProofKit
import Derived.OpenShut
import Derived.ShutString
import Derived.ChangeOld
import Derived.Below
import Derived.Test.YtiihllfjlgbfcaaFindLaw
import Derived.Test.YtiihllfjlgbfcaaArgs
import Derived.Test.YtiihllfjlgbfcaaArgs2
import Derived.Test.YtiihllfjlgbfcaaArgs3
namespace Go.Proofs.Ytiihllfjlgbfcaa.blockFinds
open Go.ChangeShapes Go.WideShapes Go.ChangeAt Go.RowKit
open Go.ChangeMaps (open_string shut_string)
set_option linter.unusedVariables false

theorem own : ownKnob Try.prog.godebug = none := by kernel_rfl
theorem laidOut : laidOutB Try.prog = true := by kernel_rfl

/-- The walk, told of its arguments as they were opened. -/
theorem walk (v0 : Value) (v1 : Value) (a2 : Int) (w : World) (w0 : OpenedNode w v0) (w1 : OpenedNode w v1) (w2 : (Lit.int .u64 a2).wf = true) :
    Calls Try.prog 11 #[v0, v1, .int .u64 a2] w fun e w' => e = .returned (.bool true) ∧ Below w.heap.size w w' := by
  obtain ⟨k, b, ka, kn, kc, kz, va, vn, vc, vz, rfl, -, hb, hk, hv⟩ := w0
  obtain ⟨birth, rfl⟩ := n64_of hb
  obtain ⟨ks, rfl, hkl, hrk, -⟩ := rd64_of hk
  obtain ⟨vs, rfl, hvl, hrv, -⟩ := rd64_of hv
  obtain ⟨k2, b2, ka2, kn2, kc2, kz2, va2, vn2, vc2, vz2, rfl, -, hb2, hk2, hv2⟩ := w1
  obtain ⟨birth2, rfl⟩ := n64_of hb2
  obtain ⟨ks2, rfl, hkl2, hrk2, -⟩ := rd64_of hk2
  obtain ⟨vs2, rfl, hvl2, hrv2, -⟩ := rd64_of hv2
  obtain ⟨key, rfl⟩ := n64_of w2
  exact blockFinds_walk k birth ka ks kc va vs vc k2 birth2 ka2 ks2 kc2 va2 vs2 vc2 key w hkl hvl hkl2 hvl2 hrk hrv hrk2 hrv2

set_option maxRecDepth 100000 in
theorem lifted (os : Os) (started : os.Started) (H : Type) (enc : TypeId × Value → H) :
    ReturnsInHanded {} Try.checked os 11 .any (Rows.blockFindsSpec.pre6 enc Try.prog Try.f11 Rows.blockFindsRow.domain false) (Rows.blockFindsSpec.post enc Try.prog Try.f11 false true false false) := by
  refine returnsInHanded_of_change (C := Try.checked) own started (by kernel_rfl) Try.func11
    (ChangeSpec.witness6 (enc := enc) (C := Try.checked) false ⟨#[], #[.agg #[.int .i64 0, .int .u64 0, .slice none 0 0, .slice none 0 0], .agg #[.int .i64 0, .int .u64 0, .slice none 0 0, .slice none 0 0], .int .u64 0], []⟩ 8 (by kernel_rfl) (by kernel_rfl) (by kernel_rfl) (by kernel_rfl)) ?_
  intro W base args ds gs before hval0 hW hcnd _
  have hval : ∀ (j : Nat) t v, Try.f11.params[j]? = some t → args[j]? = some v → Value.okWide Try.prog W .any base t v := hval0
  have hW' := hW
  obtain ⟨p, q, hA0, hV, rfl, hfz, hnd⟩ := hW
  have hA : DataW.TrodAll enc Try.prog W 0 (fun _ => true) true Try.f11.params.toList args.toList ds p := hA0
  rw [Try.params11] at hA hval
  obtain ⟨v0, vs0, d0, ds0, p0, q0, hargs, rfl, rfl, h0, r0⟩ := trodAll_cons hA
  obtain ⟨v1, vs1, d1, ds1, p1, q1, rfl, rfl, rfl, h1, r1⟩ := trodAll_cons r0
  obtain ⟨v2, vs2, d2, ds2, p2, q2, rfl, rfl, rfl, h2, r2⟩ := trodAll_cons r1
  obtain ⟨rfl, rfl, rfl⟩ := trodAll_nil r2
  obtain rfl : args = #[v0, v1, v2] := by cases args; simp_all
  obtain ⟨rfl, rfl⟩ := trodVars_none hV
  have k0 := h0
  have lt0 : ∀ x ∈ p0, x.block < W.heap.size := by obtain ⟨m, hm⟩ := k0; exact DataW.trod_lt m _ _ _ hm
  have w0 := open_node (hval 0 95 v0 rfl rfl) h0
  have k1 := h1
  have lt1 : ∀ x ∈ p1, x.block < W.heap.size := by obtain ⟨m, hm⟩ := k1; exact DataW.trod_lt m _ _ _ hm
  have w1 := open_node (hval 1 95 v1 rfl rfl) h1
  obtain ⟨a2, rfl, rfl, rfl, w2⟩ := open_int Try.underlying75 (hval 2 75 v2 rfl rfl) h2
  clear hA0 hval0
  refine (walk v0 v1 a2 W w0 w1 w2).mono fun e W' ⟨he, bel⟩ => ?_
  subst he
  exact ⟨_, rfl, _, _, _, [], _, [], hW', trodAll_mk1 (shut_bool Try.underlying4 _), (trodAll_cons_mk (Below.trod laidOut (by kernel_rfl) (of_decide_eq_true (by kernel_rfl)) k0 bel lt0) (trodAll_cons_mk (Below.trod laidOut (by kernel_rfl) (of_decide_eq_true (by kernel_rfl)) k1 bel lt1) (trodAll_cons_mk (shut_int Try.underlying75 w2) trodAll_mk0))), rfl, bel.frame _, fun h => by cases h⟩

theorem over : Rows.blockFindsRow.holds Try.pinned (OpenSpec.ofChange Rows.blockFindsSpec) :=
  OpenClaim.holds_of_wide 11 Try.f11 rfl rfl rfl rfl rfl rfl rfl ⟨rfl, rfl, rfl, rfl, rfl⟩ rfl rfl rfl rfl rfl (by kernel_rfl) Try.func11 (by kernel_rfl)
    (of_decide_eq_true (by kernel_rfl)) (by unfold Func.isWrapper; first | (rw [if_pos (by decide +kernel)]; kernel_rfl) | (rw [if_neg (by decide +kernel)]; exact ⟨rfl, rfl⟩))
    (fun os started H enc _ => lifted os started H enc)

theorem proved : Rows.BlockFindsSaid := over
#print axioms proved
end Go.Proofs.Ytiihllfjlgbfcaa.blockFinds
