/- Rows of steps that came in; the walks of Much and of pair. -/
import Derived.Test.YtiihllfjlgbfcaaDKnown
namespace Go.Proofs.Ytiihllfjlgbfcaa
open Go.RowKit
structure SArg where
  x : Step
  pa : Option Addr
  pc : Nat
def SArg.cells (s : SArg) : List Value := [.int .i64 s.x.kind, .int .i64 s.x.n, .int .u8 (n8 s.x.fill), .slice s.pa s.x.picks.length s.pc]
/-- What the walk is told of a row of steps. -/
structure StepsAt (w : World) (sa : Option Addr) (xs : List SArg) : Prop where
  rd : Rd w sa (xs.flatMap SArg.cells)
  picks : ∀ s ∈ xs, Rd w s.pa (s.x.picks.map bI) ∧ s.x.picks.length ≤ maxLen ∧ s.x.n ≤ 9223372036854775807
theorem StepsAt.gb {w u : World} {sa : Option Addr} {xs : List SArg} (h : StepsAt w sa xs) (g : GB w u) : StepsAt u sa xs :=
  ⟨g.rd h.rd, fun s hs => ⟨g.rd (h.picks s hs).1, (h.picks s hs).2⟩⟩
theorem spot_none {w : World} {a : Addr} {v : Value} (h : w.cell? a = some v) : a.spot = none := by
  unfold World.cell? at h
  split at h
  · split at h
    · cases h
    · rename_i hs; simpa using hs
  · cases h
theorem Rd.flat {w : World} {a : Option Addr} {cs : List Value} (h : Rd w a cs) (h0 : 0 < cs.length) : ∃ g o, a = some ⟨g, o, Option.none⟩ := by
  obtain ⟨ad, rfl, hc⟩ := h 0 h0
  have hs := spot_none (show w.cell? ad = _ from hc)
  obtain ⟨g, o, sp⟩ := ad
  simp only at hs
  subst hs
  exact ⟨g, o, rfl⟩
theorem StepsAt.at {w : World} {sa : Option Addr} {xs : List SArg} (h : StepsAt w sa xs) (i : Nat) (hi : i < xs.length) :
    ∃ g o, sa = some ⟨g, o, none⟩ ∧ w.cell? ⟨g, o + i * 4, none⟩ = some (.int .i64 (xs[i]).x.kind) ∧ w.cell? ⟨g, o + i * 4 + 1, none⟩ = some (.int .i64 (xs[i]).x.n) ∧ w.cell? ⟨g, o + i * 4 + 2, none⟩ = some (.int .u8 (n8 (xs[i]).x.fill)) ∧ w.cell? ⟨g, o + i * 4 + 3, none⟩ = some (.slice (xs[i]).pa (xs[i]).x.picks.length (xs[i]).pc) := by
  have h4 : ∀ s ∈ xs, (SArg.cells s).length = 4 := fun s _ => rfl
  have hl := fm_length h4
  have hat := fm_at h4 i hi
  have hget : ∀ j, j < 4 → (xs.flatMap SArg.cells)[i * 4 + j]? = (SArg.cells xs[i])[j]? := fun j hj => by
    rw [← hat, List.getElem?_take, if_pos hj, List.getElem?_drop]
  obtain ⟨g, o, rfl⟩ := h.rd.flat (by rw [hl]; omega)
  have hc : ∀ j v, (xs.flatMap SArg.cells)[j]? = some v → w.cell? ⟨g, o + j, none⟩ = some v := fun j v hj => by
    have := h.rd.cells j v hj
    rwa [Addr.add_lit] at this
  exact ⟨g, o, rfl, hc _ _ ((hget 0 (by omega)).trans rfl), hc _ _ ((hget 1 (by omega)).trans rfl), hc _ _ ((hget 2 (by omega)).trans rfl), hc _ _ ((hget 3 (by omega)).trans rfl)⟩
def MuchPost (xs : List SArg) (most : Nat) (w : World) (e : Ending) (w' : World) : Prop := ∃ b, e = .returned (.bool b) ∧ w = w' ∧ (b = false → xs.length ≤ most ∧ ∀ s ∈ xs, s.x.picks.length ≤ 1000)
set_option maxHeartbeats 4000000 in
set_option maxRecDepth 100000 in
theorem much_any (sa : Option Addr) (xs : List SArg) (sc : Nat) (most : Nat) (w : World) (h : StepsAt w sa xs) (hm : most ≤ 1000) :
    Calls Try.prog 81 #[.slice sa xs.length sc, .int .i64 most] w (MuchPost xs most w) := by
  go_enter Try.func81, Try.ntmps81
  go_wp2_with fail
  go_loop [5] (fun x => ∃ i : Nat, x = .int .i64 i ∧ i ≤ xs.length ∧ i ≤ most + 1 ∧ Hid (∀ k (hk : k < xs.length), k < i → (xs[k]).x.picks.length ≤ 1000)) (fun x => xs.length - (intOf x).toNat)
  case atStart => exact ⟨0, rfl, by omega, by omega, Lib.hid (fun k _ h => absurd h (by omega))⟩
  case round =>
    obtain ⟨i, rfl, hi, him, HI⟩ := hrel
    by_cases hlt : i < xs.length ∧ i ≤ most
    · obtain ⟨h1, h2⟩ := hlt
      obtain ⟨g, o, rfl, hc0, hc1, -, hc3⟩ := h.at i h1
      obtain ⟨s, hs⟩ : ∃ s, xs[i] = s := ⟨_, rfl⟩
      rw [hs] at hc0 hc1 hc3
      have HS := Lib.hid hs
      clear hs
      obtain ⟨⟨kind, n, c, ps⟩, pa, pc⟩ := s
      simp only at hc0 hc1 hc3
      by_cases hbig : 1000 < ps.length
      · go_wp2_with fail
        go_ret
        exact ⟨true, rfl, rfl, fun h => by cases h⟩
      · have hle : ps.length ≤ 1000 := by omega
        have hrel2 : Hid (∀ k (hk : k < xs.length), k < i + 1 → (xs[k]).x.picks.length ≤ 1000) := Lib.hid (fun k hk hki => by
          by_cases e : k = i
          · subst e; rw [HS.out]; exact hle
          · exact HI.out k hk (by omega))
        by_cases hkind : kind = 5
        · have hq : (kind == 5) = true := by simpa using hkind
          have HK := Lib.hid hkind
          clear hkind
          by_cases h60 : 60 < n
          · by_cases h8 : n ≤ 8192
            · go_wp2_with fail
              go_ret
              exact ⟨true, rfl, rfl, fun h => by cases h⟩
            · go_wp2_with fail
              refine ⟨⟨i + 1, by go_num, by omega, by omega, hrel2⟩, by simp [intOf]; omega⟩
          · go_wp2_with fail
            refine ⟨⟨i + 1, by go_num, by omega, by omega, hrel2⟩, by simp [intOf]; omega⟩
        · have hq : (kind == 5) = false := by simpa using hkind
          clear hkind
          go_wp2_with fail
          refine ⟨⟨i + 1, by go_num, by omega, by omega, hrel2⟩, by simp [intOf]; omega⟩
    · by_cases h1 : i < xs.length
      · have h2 : ¬ i ≤ most := by omega
        have h3 : most < xs.length := by omega
        go_wp2_with fail
        go_ret
        exact ⟨true, rfl, rfl, fun h => by cases h⟩
      · by_cases h3 : most < xs.length
        · go_wp2_with fail
          go_ret
          exact ⟨true, rfl, rfl, fun h => by cases h⟩
        · go_wp2_with fail
          go_ret
          refine ⟨false, rfl, rfl, fun _ => ⟨by omega, fun s hs => ?_⟩⟩
          obtain ⟨k, hk, rfl⟩ := List.getElem_of_mem hs
          exact HI.out k hk (by omega)
/-- Two disks that agree, the program's and the reference's, each the law's own. -/
def Both (w u : World) (p q k : Nat) (d : DD) (r : RD) : Prop :=
  Inv k d r ∧ ∃ F G : Nat → Prop, DiskAt u p d F ∧ RefAt u q r G ∧ (∀ k, F k → ¬ G k) ∧ (∀ k, F k → w.heap.size ≤ k) ∧ (∀ k, G k → w.heap.size ≤ k) ∧ GB w u
theorem Both.gb {w u v : World} {p q k : Nat} {d : DD} {r : RD} (h : Both w u p q k d r) (g : GB u v) : Both w v p q k d r := by
  obtain ⟨h0, F, G, h1, h2, h3, h4, h5, h6⟩ := h
  exact ⟨h0, F, G, h1.gb g, h2.gb g, h3, h4, h5, GB.trans _ _ _ h6 g⟩
theorem DiskAt.bnd {w : World} {p : Nat} {d : DD} {F : Nat → Prop} (h : DiskAt w p d F) : ∀ k, F k → k < w.heap.size := by obtain ⟨y, hy⟩ := h; exact hy.bnd
theorem RefAt.bnd {w : World} {q : Nat} {r : RD} {G : Nat → Prop} (h : RefAt w q r G) : ∀ k, G k → k < w.heap.size := by obtain ⟨y, hy⟩ := h; exact hy.bnd
/-- The program's disk and then the reference's did a step. -/
theorem Both.step {w u v x : World} {p q k' : Nat} {d' : DD} {r r' : RD} {F G : Nat → Prop} (hr : RefAt u q r G) (hd : ∀ k, F k → ¬ G k) (hF : ∀ k, F k → w.heap.size ≤ k) (hG : ∀ k, G k → w.heap.size ≤ k) (hg : GB w u)
    (hi : Inv k' d' r') (m1 : Moved p d' F u v) (m2 : RefAt v q r G → RMoved q r' G v x) : Both w x p q k' d' r' := by
  obtain ⟨F', a1, a2, a3⟩ := m1
  have hr1 := hr.fr a2 (fun k hk hf => hd k hf hk)
  obtain ⟨G', b1, b2, b3⟩ := m2 hr1
  have hs := Below.size hg
  have hF' : ∀ k, F' k → ¬ G k := fun k hk hgk => by
    rcases a3 k hk with h | h
    · exact hd k h hgk
    · have := hr.bnd k hgk; omega
  have ha1 := a1.fr b2 hF'
  have hb := a1.bnd
  have hs1 := a2.size
  refine ⟨hi, F', G', ha1, b1, fun k hk hgk => ?_, fun k hk => ?_, fun k hk => ?_, Fr.gbw (a2.gbw hg hF) hG b2⟩
  · rcases b3 k hgk with h | h
    · exact hF' k hk h
    · have := hb k hk; omega
  · rcases a3 k hk with h | h
    · exact hF k h
    · omega
  · rcases b3 k hk with h | h
    · exact hG k h
    · omega
def GivesBoth (most : Nat) (w : World) (e : Ending) (w' : World) : Prop := ∃ p q k d r, e = .returned (.tuple #[.pointer (some ⟨p, 0, none⟩), .pointer (some ⟨q, 0, none⟩)]) ∧ k ≤ most ∧ Both w w' p q k d r
/-- What a row of steps makes of new disks. -/
def runD (m : Nat) (xs : List SArg) : DD := xs.foldl (fun d s => (d.do s.x).2) (DD.new m)
def runR (m : Nat) (xs : List SArg) : RD := xs.foldl (fun r s => (r.do s.x).2) (RD.new m)
theorem runD_succ (m : Nat) (xs : List SArg) (i : Nat) (h : i < xs.length) : runD m (xs.take (i + 1)) = ((runD m (xs.take i)).do (xs[i]).x).2 := by
  unfold runD; rw [List.take_succ_eq_append_getElem h, List.foldl_append]; rfl
theorem runR_succ (m : Nat) (xs : List SArg) (i : Nat) (h : i < xs.length) : runR m (xs.take (i + 1)) = ((runR m (xs.take i)).do (xs[i]).x).2 := by
  unfold runR; rw [List.take_succ_eq_append_getElem h, List.foldl_append]; rfl
def GivesRun (m : Nat) (xs : List SArg) (w : World) (e : Ending) (w' : World) : Prop := ∃ p q, e = .returned (.tuple #[.pointer (some ⟨p, 0, none⟩), .pointer (some ⟨q, 0, none⟩)]) ∧ Both w w' p q xs.length (runD m xs) (runR m xs)
set_option maxHeartbeats 8000000 in
set_option maxRecDepth 100000 in
theorem pair_det (m : Nat) (sa : Option Addr) (xs : List SArg) (sc : Nat) (w : World) (h : StepsAt w sa xs) (hl50 : xs.length ≤ 50) (hp : ∀ s ∈ xs, s.x.picks.length ≤ 1000) (hm0 : 0 < m) (hm1 : m ≤ 8192) :
    Calls Try.prog 88 #[.int .i64 m, .slice sa xs.length sc] w (GivesRun m xs w) := by
  have h1 := new_any m w hm0 hm1
  have HP := Lib.hid hp
  clear hp
  go_enter Try.func88, Try.ntmps88
  go_wp2_with fail
  refine h1.mono ?_
  rintro e w1 ⟨p, F, rfl, hd, hb1, hF⟩
  go_wp2_with fail
  refine (rnew_any m w1 hm0 hm1).mono ?_
  rintro e w2 ⟨q, G, rfl, hr, hb2, hG⟩
  have hs1 := hb1.size
  have hB : Both w w2 p q 0 (DD.new m) (RD.new m) := ⟨Inv.new m hm0 hm1, F, G, hd.gb hb2, hr, fun k hk hgk => by have := hd.bnd k hk; have := hG k hgk; omega, hF, fun k hk => by have := hG k hk; omega, GB.trans _ _ _ hb1 hb2⟩
  clear hd hr hb1 hb2 hF hG hs1 h1
  go_wp2_with fail
  refine (num_any 0 _).mono ?_
  rintro e w3 ⟨rfl, rfl⟩
  go_wp2_with fail
  go_loopw [10] (fun x wr => ∃ i : Nat, x = .int .i64 i ∧ i ≤ xs.length ∧ ∃ d r, Hid (runD m (xs.take i) = d) ∧ Hid (runR m (xs.take i) = r) ∧ Both w wr p q i d r) (fun x _ => xs.length - (intOf x).toNat)
  case atStart => exact ⟨0, rfl, by omega, _, _, Lib.hid rfl, Lib.hid rfl, hB⟩
  case round =>
    obtain ⟨i, rfl, hil, d, r, HRD, HRR, hinv, F, G, hd, hr, hdis, hF, hG, hg⟩ := hrel
    by_cases hlt : i < xs.length
    · obtain ⟨g, o, rfl, c0, c1, c2, c3⟩ := h.at i hlt
      have hmem := List.getElem_mem hlt
      obtain ⟨hpr, hpm, hpn⟩ := h.picks _ hmem
      have hpl := HP.out _ hmem
      have hgl : g < w.heap.size := World.block_lt_of_cell? _ _ c0
      have hrd1 := runD_succ m xs i hlt
      have hrr1 := runR_succ m xs i hlt
      rw [HRD.out] at hrd1
      rw [HRR.out] at hrr1
      generalize xs[i] = s at *
      obtain ⟨x, pa, pc⟩ := s
      simp only at c0 c1 c2 c3 hpr hpm hpn hpl
      obtain ⟨hcode, hinv'⟩ := step_inv hinv (by omega) x hpn
      have hpb : ∀ ad, pa = some ad → 0 < x.picks.length → ad.block < w.heap.size := fun ad ha h0 => by
        obtain ⟨ad', he, hc⟩ := hpr 0 (by simpa using h0)
        rw [ha] at he
        cases he
        have := World.block_lt_of_cell? _ _ hc
        rwa [Addr.block_add] at this
      have hddo := ddo_any p d F x pa pc wr.drew (hd.gb (GB.drew wr)) hinv.dg (by have := hinv.jr; omega) ((GB.trans _ _ _ hg (GB.drew wr)).rd hpr) hpl
      have hrdo : ∀ u, RefAt u q r G → GB w u → Calls Try.prog 87 #[.pointer (some ⟨q, 0, none⟩), stepV x pa pc] u (DoPost q r x G u) := fun u hu hgu =>
        do_any q r G x pa pc u hu hinv.rg (hgu.rd hpr) (fun ad ha h0 hg' => by have := hpb ad ha h0; have := hG _ hg'; omega)
      unfold stepV at hddo hrdo
      unfold DDoPost at hddo
      unfold DoPost at hrdo
      generalize d.do x = da at *
      generalize r.do x = ra at *
      obtain ⟨code, d'⟩ := da
      obtain ⟨code', r'⟩ := ra
      simp only at hcode hinv' hddo hrdo hrd1 hrr1
      have HRD1 := Lib.hid hrd1
      have HRR1 := Lib.hid hrr1
      clear hrd1 hrr1
      subst hcode
      have hqc : (code != code) = false := by simp
      have HR := Lib.hid hrdo
      have HDD := Lib.hid hddo
      have hdrw := hr.gb (GB.drew wr)
      have hgd := GB.trans _ _ _ hg (GB.drew wr)
      clear hrdo hddo hd hpr
      go_upto_region 8 with fail
      have tb : ∀ u, Fr (fun k => w.heap.size ≤ k) wr.drew u → GB w u := fun u hu => hu.gbw hgd (fun k hk => hk)
      have C0 : ∀ u, Fr (fun k => w.heap.size ≤ k) wr.drew u → u.cell? ⟨g, o + i * 4, none⟩ = some (.int .i64 x.kind) := fun u hu => (tb u hu).cell c0
      have C1 : ∀ u, Fr (fun k => w.heap.size ≤ k) wr.drew u → u.cell? ⟨g, o + i * 4 + 1, none⟩ = some (.int .i64 x.n) := fun u hu => (tb u hu).cell c1
      have C2 : ∀ u, Fr (fun k => w.heap.size ≤ k) wr.drew u → u.cell? ⟨g, o + i * 4 + 2, none⟩ = some (.int .u8 (n8 x.fill)) := fun u hu => (tb u hu).cell c2
      have C3 : ∀ u, Fr (fun k => w.heap.size ≤ k) wr.drew u → u.cell? ⟨g, o + i * 4 + 3, none⟩ = some (.slice pa x.picks.length pc) := fun u hu => (tb u hu).cell c3
      go_cut [51] (fun s wx => s = .bool false ∧ Both w wx p q (i + 1) d' r')
      case first =>
        refine region_fr (F := fun k => w.heap.size ≤ k) [(0,0),(1,0),(2,0),(3,0),(4,0),(6,0),(7,0),(8,0),(9,0),(10,0),(5,1),(11,1),(12,0)] [] (by kernel_rfl) ?_
        iterate 10 (refine S0w (v := ?_) (by rfl) (by rfl) (fun u hu N hN => ?_) ?_; rotate_left; (go_simp; exact hN); simp only [Act.put, List.setIfInBounds_toArray, List.set_cons_zero, List.set_cons_succ])
        refine S1 (by rfl) (by rfl) (fun K hK => ?_)
        go_wp2_with fail
        refine (HDD.out).mono ?_
        rintro e w5 ⟨rfl, hm5⟩
        have hf5 : Fr F wr.drew w5 := by obtain ⟨F', -, h2, -⟩ := hm5; exact h2
        refine hK _ _ (hf5.mono (fun k _ hk => hF k hk)) ?_
        clear hK K
        have hr5 := hdrw.fr hf5 (fun k hk hf => hdis k hf hk)
        have hg5 := hf5.gbw hgd hF
        refine S1 (by rfl) (by rfl) (fun K hK => ?_)
        go_wp2_with fail
        refine (HR.out w5 hr5 hg5).mono ?_
        rintro e w6 ⟨rfl, hm6⟩
        have hf6 : Fr G w5 w6 := by obtain ⟨F', -, h2, -⟩ := hm6; exact h2
        refine hK _ _ (hf6.mono (fun k _ hk => hG k hk)) ?_
        clear hK K
        have hB6 : Both w w6 p q (i + 1) d' r' := Both.step hdrw hdis hF hG hgd hinv' hm5 (fun _ => hm6)
        repeat (refine S0w (v := ?_) (by rfl) (by rfl) (fun u hu N hN => ?_) ?_; rotate_left; (go_simp; exact hN); simp only [Act.put, List.setIfInBounds_toArray, List.set_cons_zero, List.set_cons_succ])
        refine S.done ?_
        go_wp2_with fail
        go_meet
        case rel => exact ⟨rfl, hB6⟩
      case rest =>
        obtain ⟨rfl, hB6⟩ := hcut
        go_wp2_with fail
        go_roundw
        case rel => exact ⟨i + 1, by go_num, by omega, _, _, HRD1, HRR1, hB6⟩
        case measure => simp [intOf]; omega
    · go_wp2_with fail
      go_ret2
      have hi : i = xs.length := by omega
      subst hi
      have h1 := HRD.out
      have h2 := HRR.out
      rw [List.take_length] at h1 h2
      exact ⟨p, q, rfl, by rw [h1, h2]; exact ⟨hinv, F, G, hd, hr, hdis, hF, hG, hg⟩⟩
theorem pair_any (m : Nat) (sa : Option Addr) (xs : List SArg) (sc : Nat) (w : World) (h : StepsAt w sa xs) (hl50 : xs.length ≤ 50) (hp : ∀ s ∈ xs, s.x.picks.length ≤ 1000) (hm0 : 0 < m) (hm1 : m ≤ 8192) :
    Calls Try.prog 88 #[.int .i64 m, .slice sa xs.length sc] w (GivesBoth 50 w) := by
  refine (pair_det m sa xs sc w h hl50 hp hm0 hm1).mono ?_
  rintro e w' ⟨p, q, rfl, hB⟩
  exact ⟨p, q, _, _, _, rfl, hl50, hB⟩
end Go.Proofs.Ytiihllfjlgbfcaa
