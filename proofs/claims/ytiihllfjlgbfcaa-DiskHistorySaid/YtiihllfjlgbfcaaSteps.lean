/- Rows of steps that came in; the walk of Much. -/
import Derived.Test.YtiihllfjlgbfcaaDPlain
namespace Go.Proofs.Ytiihllfjlgbfcaa
open Go.RowKit
structure SArg where
  x : Step
  pa : Option Addr
  pc : Nat
def SArg.cells (s : SArg) : List Value := [.int .i64 s.x.kind, .int .i64 s.x.n, .int .u8 (n8 s.x.fill), .slice s.pa s.x.picks.length s.pc]
/-- What the walk is told of a row of steps. -/
structure StepsAt (w : World) (sa : Option Addr) (xs : List SArg) : Prop where
  rd : Rd w sa (xs.flatMap SArg.cells)
  picks : ∀ s ∈ xs, Rd w s.pa (s.x.picks.map bI) ∧ s.x.picks.length ≤ maxLen ∧ s.x.n ≤ 9223372036854775807
theorem StepsAt.gb {w u : World} {sa : Option Addr} {xs : List SArg} (h : StepsAt w sa xs) (g : GB w u) : StepsAt u sa xs :=
  ⟨g.rd h.rd, fun s hs => ⟨g.rd (h.picks s hs).1, (h.picks s hs).2⟩⟩
theorem spot_none {w : World} {a : Addr} {v : Value} (h : w.cell? a = some v) : a.spot = none := by
  unfold World.cell? at h
  split at h
  · split at h
    · cases h
    · rename_i hs; simpa using hs
  · cases h
theorem Rd.flat {w : World} {a : Option Addr} {cs : List Value} (h : Rd w a cs) (h0 : 0 < cs.length) : ∃ g o, a = some ⟨g, o, Option.none⟩ := by
  obtain ⟨ad, rfl, hc⟩ := h 0 h0
  have hs := spot_none (show w.cell? ad = _ from hc)
  obtain ⟨g, o, sp⟩ := ad
  simp only at hs
  subst hs
  exact ⟨g, o, rfl⟩
theorem StepsAt.at {w : World} {sa : Option Addr} {xs : List SArg} (h : StepsAt w sa xs) (i : Nat) (hi : i < xs.length) :
    ∃ g o, sa = some ⟨g, o, none⟩ ∧ w.cell? ⟨g, o + i * 4, none⟩ = some (.int .i64 (xs[i]).x.kind) ∧ w.cell? ⟨g, o + i * 4 + 1, none⟩ = some (.int .i64 (xs[i]).x.n) ∧ w.cell? ⟨g, o + i * 4 + 2, none⟩ = some (.int .u8 (n8 (xs[i]).x.fill)) ∧ w.cell? ⟨g, o + i * 4 + 3, none⟩ = some (.slice (xs[i]).pa (xs[i]).x.picks.length (xs[i]).pc) := by
  have h4 : ∀ s ∈ xs, (SArg.cells s).length = 4 := fun s _ => rfl
  have hl := fm_length h4
  have hat := fm_at h4 i hi
  have hget : ∀ j, j < 4 → (xs.flatMap SArg.cells)[i * 4 + j]? = (SArg.cells xs[i])[j]? := fun j hj => by
    rw [← hat, List.getElem?_take, if_pos hj, List.getElem?_drop]
  obtain ⟨g, o, rfl⟩ := h.rd.flat (by rw [hl]; omega)
  have hc : ∀ j v, (xs.flatMap SArg.cells)[j]? = some v → w.cell? ⟨g, o + j, none⟩ = some v := fun j v hj => by
    have := h.rd.cells j v hj
    rwa [Addr.add_lit] at this
  exact ⟨g, o, rfl, hc _ _ ((hget 0 (by omega)).trans rfl), hc _ _ ((hget 1 (by omega)).trans rfl), hc _ _ ((hget 2 (by omega)).trans rfl), hc _ _ ((hget 3 (by omega)).trans rfl)⟩
def MuchPost (xs : List SArg) (most : Nat) (w : World) (e : Ending) (w' : World) : Prop := ∃ b, e = .returned (.bool b) ∧ w = w' ∧ (b = false → xs.length ≤ most ∧ ∀ s ∈ xs, s.x.picks.length ≤ 1000)
set_option maxHeartbeats 4000000 in
set_option maxRecDepth 100000 in
theorem much_any (sa : Option Addr) (xs : List SArg) (sc : Nat) (most : Nat) (w : World) (h : StepsAt w sa xs) (hm : most ≤ 1000) :
    Calls Try.prog 81 #[.slice sa xs.length sc, .int .i64 most] w (MuchPost xs most w) := by
  go_enter Try.func81, Try.ntmps81
  go_wp2_with fail
  go_loop [5] (fun x => ∃ i : Nat, x = .int .i64 i ∧ i ≤ xs.length ∧ i ≤ most + 1 ∧ Hid (∀ k (hk : k < xs.length), k < i → (xs[k]).x.picks.length ≤ 1000)) (fun x => xs.length - (intOf x).toNat)
  case atStart => exact ⟨0, rfl, by omega, by omega, Lib.hid (fun k _ h => absurd h (by omega))⟩
  case round =>
    obtain ⟨i, rfl, hi, him, HI⟩ := hrel
    by_cases hlt : i < xs.length ∧ i ≤ most
    · obtain ⟨h1, h2⟩ := hlt
      obtain ⟨g, o, rfl, hc0, hc1, -, hc3⟩ := h.at i h1
      obtain ⟨s, hs⟩ : ∃ s, xs[i] = s := ⟨_, rfl⟩
      rw [hs] at hc0 hc1 hc3
      have HS := Lib.hid hs
      clear hs
      obtain ⟨⟨kind, n, c, ps⟩, pa, pc⟩ := s
      simp only at hc0 hc1 hc3
      by_cases hbig : 1000 < ps.length
      · go_wp2_with fail
        go_ret
        exact ⟨true, rfl, rfl, fun h => by cases h⟩
      · have hle : ps.length ≤ 1000 := by omega
        have hrel2 : Hid (∀ k (hk : k < xs.length), k < i + 1 → (xs[k]).x.picks.length ≤ 1000) := Lib.hid (fun k hk hki => by
          by_cases e : k = i
          · subst e; rw [HS.out]; exact hle
          · exact HI.out k hk (by omega))
        by_cases hkind : kind = 5
        · have hq : (kind == 5) = true := by simpa using hkind
          have HK := Lib.hid hkind
          clear hkind
          by_cases h60 : 60 < n
          · by_cases h8 : n ≤ 8192
            · go_wp2_with fail
              go_ret
              exact ⟨true, rfl, rfl, fun h => by cases h⟩
            · go_wp2_with fail
              refine ⟨⟨i + 1, by go_num, by omega, by omega, hrel2⟩, by simp [intOf]; omega⟩
          · go_wp2_with fail
            refine ⟨⟨i + 1, by go_num, by omega, by omega, hrel2⟩, by simp [intOf]; omega⟩
        · have hq : (kind == 5) = false := by simpa using hkind
          clear hkind
          go_wp2_with fail
          refine ⟨⟨i + 1, by go_num, by omega, by omega, hrel2⟩, by simp [intOf]; omega⟩
    · by_cases h1 : i < xs.length
      · have h2 : ¬ i ≤ most := by omega
        have h3 : most < xs.length := by omega
        go_wp2_with fail
        go_ret
        exact ⟨true, rfl, rfl, fun h => by cases h⟩
      · by_cases h3 : most < xs.length
        · go_wp2_with fail
          go_ret
          exact ⟨true, rfl, rfl, fun h => by cases h⟩
        · go_wp2_with fail
          go_ret
          refine ⟨false, rfl, rfl, fun _ => ⟨by omega, fun s hs => ?_⟩⟩
          obtain ⟨k, hk, rfl⟩ := List.getElem_of_mem hs
          exact HI.out k hk (by omega)
end Go.Proofs.Ytiihllfjlgbfcaa
