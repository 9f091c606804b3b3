/- Arguments that are arrays of bytes, opened. -/
import Derived.Test.YtiihllfjlgbfcaaArr
import Derived.Test.YtiihllfjlgbfcaaArgs
import Derived.OpenShut
import Derived.ChangeArms
namespace Go.Proofs.Ytiihllfjlgbfcaa
open Go.RowKit Go.ChangeShapes Go.WideShapes
theorem mapM_each {α β : Type} {f : α → Option β} : ∀ {L : List α} {xs : List β}, L.mapM f = some xs → (∀ i ∈ L, ∃ y, f i = some y) ∧ ∀ y ∈ xs, ∃ i ∈ L, f i = some y
  | [], xs, h => by
    simp at h; subst h
    exact ⟨fun i hi => (List.not_mem_nil hi).elim, fun i hi => (List.not_mem_nil hi).elim⟩
  | a :: L, xs, h => by
    rw [List.mapM_cons] at h
    simp only [bind, Option.bind_eq_some_iff, pure, Option.some.injEq] at h
    obtain ⟨y, hy, ys, hys, rfl⟩ := h
    obtain ⟨h1, h2⟩ := mapM_each hys
    refine ⟨fun i hi => ?_, fun z hz => ?_⟩
    · rcases List.mem_cons.1 hi with rfl | hi
      · exact ⟨y, hy⟩
      · exact h1 i hi
    · rcases List.mem_cons.1 hz with rfl | hz
      · exact ⟨a, by simp, hy⟩
      · obtain ⟨i, hi, hf⟩ := h2 z hz
        exact ⟨i, by simp [hi], hf⟩
theorem bytes_of_cells : ∀ (cs : List Value), (∀ i, i < cs.length → ∃ c, cs[i]? = some (b8 c)) → ∃ B : List UInt8, cs = B.map b8
  | [], _ => ⟨[], rfl⟩
  | v :: cs, h => by
    obtain ⟨c, hc⟩ := h 0 (by simp)
    obtain ⟨B, rfl⟩ := bytes_of_cells cs fun i hi => h (i + 1) (by simpa using hi)
    simp at hc; subst hc
    exact ⟨c :: B, rfl⟩
theorem trod_bytes {H : Type} {enc : TypeId × Value → H} {P : Program} {w : World} {base : Nat} {spare : Nat → Bool} {held : Bool} {fuel : Nat} {T : TypeId} {n : Nat} {cs : List Value} {x : DataW H × List MemPlace}
    (ht : P.underlying T = some (.array n 5)) (h5 : P.underlying 5 = some (.int .u8)) (hc : P.cellsOf T = n) (hc5 : P.cellsOf 5 = 1)
    (h : DataW.trod enc P w base spare held fuel T cs = some x) : ∃ B : List UInt8, B.length = n ∧ cs = B.map b8 ∧ x.2 = [] := by
  cases fuel with
  | zero => simp [DataW.trod] at h
  | succ m =>
    rw [DataW.trod_step] at h
    unfold DataW.trodStep at h
    simp only [ht, hc, hc5, Nat.mul_one] at h
    split at h
    · rename_i hn
      simp only [Option.map_eq_some_iff] at h
      obtain ⟨ys, hy, rfl⟩ := h
      obtain ⟨h1, h2⟩ := mapM_each hy
      have hb : ∀ i, i < cs.length → ∃ c, cs[i]? = some (b8 c) := by
        intro i hi
        obtain ⟨y, hf⟩ := h1 i (by simp; omega)
        obtain ⟨z, hz, -, hw⟩ := DataW.trod_int h5 hf
        obtain ⟨c, rfl⟩ := n8_of hw
        refine ⟨c, ?_⟩
        have : ((cs.drop i).take 1)[0]? = some (b8 c) := by rw [hz]; rfl
        simpa [List.getElem?_take, List.getElem?_drop] using this
      obtain ⟨B, rfl⟩ := bytes_of_cells cs hb
      refine ⟨B, by simpa using hn, rfl, ?_⟩
      simp only [List.flatMap_eq_nil_iff]
      intro y hyy
      obtain ⟨i, hi, hf⟩ := h2 y hyy
      obtain ⟨z, hz, rfl, hw⟩ := DataW.trod_int h5 hf
      rfl
    · cases h
set_option maxRecDepth 100000 in
theorem open_arr37 {H : Type} {enc : TypeId × Value → H} {W : World} {base : Nat} {sp : Nat → Bool} {held : Bool} {v : Value} {d : DataW H} {ps : List MemPlace} {r : Reach} {b0 : Nat} (hok : Value.okWide Try.prog W r b0 37 v)
    (hd : DataW.Trod enc Try.prog W base sp held 37 v d ps) : ∃ B : List UInt8, B.length = 256 ∧ v = arr B ∧ ps = [] := by
  simp only [Value.okWide, Try.underlying37] at hok
  obtain ⟨cs, rfl, h2, _⟩ := hok
  obtain ⟨fuel, hf⟩ := hd
  obtain ⟨B, hB, hcs, hp⟩ := trod_bytes Try.underlying37 Try.underlying5 (by kernel_rfl) (by kernel_rfl) hf
  refine ⟨B, hB, ?_, hp⟩
  simp only [Value.cells] at hcs
  unfold arr
  rw [← hcs]
end Go.Proofs.Ytiihllfjlgbfcaa
