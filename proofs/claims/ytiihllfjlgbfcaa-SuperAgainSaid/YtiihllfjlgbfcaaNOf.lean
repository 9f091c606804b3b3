/- The walk of block.Of. -/
import Derived.Test.YtiihllfjlgbfcaaNBlock
import Derived.Test.YtiihllfjlgbfcaaFr
namespace Go.Proofs.Ytiihllfjlgbfcaa
open Go.RowKit
set_option maxRecDepth 100000 in
theorem nget_fr (g h at_ : Nat) (C : List UInt8) (w : World) (hC : C.length = 256) (hat : at_ + 8 ≤ 256) (hB : Blk w g 37 (C.map b8)) (hA : Blk w h 3 [.int .i64 at_]) :
    Calls Try.prog 120 #[.pointer (some ⟨g, 0, none⟩), .pointer (some ⟨h, 0, none⟩)] w fun e w' => e = .returned (.int .u64 (n64 (Num.num ((C.drop at_).take 8)))) ∧ w.setCell ⟨h, 0, none⟩ (.int .i64 ((at_ + 8 : Nat) : Int)) = w' := by
  have HC := Lib.hid hC
  clear hC
  go_enter Try.func120, Try.ntmps120
  go_wp2_with fail
  go_loopw [2, 4] (fun x y wr => ∃ k : Nat, k ≤ 8 ∧ y = .int .i64 k ∧ x = .int .u64 (n64 (Num.num ((C.drop at_).take k))) ∧ w = wr) (fun _ y _ => 8 - (intOf y).toNat)
  case atStart => exact ⟨0, by omega, rfl, rfl, rfl⟩
  case round =>
    obtain ⟨k, hk, rfl, rfl, rfl⟩ := hrel
    have hA0 := hA.cell 0
    have hAf := hA.frozen 0
    by_cases hlt : k < 8
    · have hi : at_ + k < C.length := by rw [HC.out]; omega
      have hc := hB.get8 (at_ + k) hi
      have e2 : (C.drop at_).take (k + 1) = (C.drop at_).take k ++ [C[at_ + k]'hi] := by
        rw [List.take_succ_eq_append_getElem (by rw [List.length_drop]; omega), List.getElem_drop]
      have e1 := fun hl => or64_snoc ((C.drop at_).take k) (C[at_ + k]'hi) k hl hlt
      replace e1 := e1 (by rw [List.length_take, List.length_drop]; omega)
      generalize C[at_ + k]'hi = c at *
      have E2 := Lib.hid e2
      clear hi e2
      have l1 := w8_64
      go_wp2_with fail
      go_roundw
      case rel => exact ⟨k + 1, by omega, by go_num, by rw [E2.out], trivial⟩
      case measure => simp [intOf]; omega
    · obtain rfl : k = 8 := by omega
      go_wp2_with fail
      go_ret
      exact ⟨rfl, rfl⟩
def keyAt (B : List UInt8) (j : Nat) : UInt64 := Num.num ((B.drop (20 + 16 * j)).take 8)
def valAt (B : List UInt8) (j : Nat) : UInt64 := Num.num ((B.drop (20 + 16 * j + 8)).take 8)
def keysOf (B : List UInt8) (n : Nat) : List UInt64 := (List.range n).map (keyAt B)
def valsOf (B : List UInt8) (n : Nat) : List UInt64 := (List.range n).map (valAt B)
def kindOf (B : List UInt8) : Int := n8 (B.getD 4 0)
def manyOf (B : List UInt8) : Nat := min (B.getD 5 0).toNat 6
def birthOf (B : List UInt8) : UInt64 := Num.num ((B.drop 12).take 8)
theorem nblock_any (no : UInt32) (kind : Int) (birth : UInt64) (ka : Option Addr) (ks : List UInt64) (kc : Nat) (va : Option Addr) (vs : List UInt64) (vc : Nat) (w : World) (hk : ks.length ≤ maxLen) (hrk : Rd w ka (ks.map b64)) (hrv : Rd w va (vs.map b64)) :
    Calls Try.prog 66 #[.int .u32 (n32 no), nodeV kind birth ka ks.length kc va vs.length vc] w (GivesArr (if mayN kind ks vs.length then nodeBlock no kind birth ks vs else zeros 256) (if mayN kind ks vs.length then 0 else 2) w) := by
  by_cases hm : mayN kind ks vs.length = true
  · have h2 := hm
    unfold mayN at h2
    simp at h2
    rw [if_pos hm, if_pos hm]
    exact nblock_good no kind birth ka ks kc va vs vc w hm (by omega) (by omega) hrk hrv
  · rw [if_neg hm, if_neg hm]
    exact nblock_bad no kind birth ka ks kc va vs.length vc w (by simpa using hm) hk hrk
theorem info95 : (Try.prog.info? 95).map (·.size) = some 4 := by kernel_rfl
section
variable {ops : Array Oper} {Q : Exit → Act → World → Prop} {rest : List Oper} {o : Oper} {a : Act} {w : World}
/-- A struct of single cells is stored over a struct. -/
theorem L.storeS {T U : TypeId} {n g : Nat} {x y : Operand} {cs vs : List Value} (ho : o.op = .store U x y) (hs : (Try.prog.info? U).map (·.size) = some n)
    (hx : a.eval x = .pointer (some ⟨g, 0, none⟩)) (hy : a.eval y = .agg vs.toArray) (hB : Blk w g T cs) (hc : cs.length = n) (hl : vs.length = n) (h1 : ∀ u ∈ vs, u.oneCell' = true) (hw : Region.wanted o (yielded ops a.tmps) = true)
    (h : ∀ w', Blk w' g T vs → w.grownBy w' (some g) → wpList Try.prog ops Q rest (a.put o.dst undef) w') : wpList Try.prog ops Q (o :: rest) a w := by
  have hr := run_store_part (P := Try.prog) (o := 0) hB (.agg vs.toArray) vs rfl h1 hs hl (by omega)
  rw [put_all _ _ (by omega)] at hr
  refine L.skip hw ?_ (h _ (hB.row _) (grown_row _ _ _))
  unfold execOp; rw [ho]
  simp only [hx, hy, Sem.run_bind, hr, Result.andThen_ok, Sem.run_pure]
end
theorem ret_cellS2 {fn : Func} {R : Ending → World → Prop} {a : Act} {w : World} {p t g n : Nat} {T U : TypeId} {fs : Array Field} {cs : List Value} {v : Value} (hr : fn.results = #[.cell p U, .tmp t]) (hp : a.tmps.getD p undef = .pointer (some ⟨g, 0, none⟩))
    (hU : Try.prog.underlying U = some (.struct fs)) (hs : (Try.prog.info? U).map (·.size) = some n) (hB : Blk w g T cs) (hn : cs.length = n) (hv : a.tmps.getD t undef = v) (hdf : a.defers = [])
    (h : R (.returned (.tuple #[.agg cs.toArray, v])) w) : bodyPost Try.prog fn R .ret a w := by
  refine bodyPost_ret ?_ hdf h
  have := run_load_part (P := Try.prog) (o := 0) hB hU rfl hs (by omega)
  rw [List.drop_zero, List.take_of_length_le (by omega)] at this
  have h2 : (loadVar U ⟨g, 0, none⟩).run Try.prog w = .ok (.agg cs.toArray) w := by
    simpa [Instr.loadAt, Instr.sureAddr] using this
  have hp' : a.tmps[p]?.getD undef = .pointer (some ⟨g, 0, none⟩) := by simpa using hp
  have hv' : a.tmps[t]?.getD undef = v := by simpa using hv
  simp [results, hr, hp', hv', asAddr, h2]
theorem row_off {base e sz n m c b : Nat} {w : World} {a : Option Addr} {cs : List Value} (h : w.ownsRow base e sz (.slice a m c) n cs) (hb : b < base) : ∀ ad, a = some ad → ad.block ≠ b := by
  intro ad ha he
  rcases h.2 with ⟨h1, _⟩ | ⟨g, cap, cur, h1, hg, _⟩
  · cases h1; cases ha
  · cases h1; cases ha; simp at he; omega
structure NodeR where
  kind : Int
  birth : UInt64
  keys : List UInt64
  vals : List UInt64
  code : Int
def okN (no : UInt32) (B : List UInt8) : Bool := mayN (kindOf B) (keysOf B (manyOf B)) (manyOf B) && (nodeBlock no (kindOf B) (birthOf B) (keysOf B (manyOf B)) (valsOf B (manyOf B)) == B)
def ofN (no : UInt32) (B : List UInt8) : NodeR := if okN no B then ⟨kindOf B, birthOf B, keysOf B (manyOf B), valsOf B (manyOf B), 0⟩ else ⟨0, 0, [], [], 4⟩
def GivesNode (r : NodeR) (w : World) (e : Ending) (w' : World) : Prop :=
  ∃ ka kc va vc, e = .returned (.tuple #[nodeV r.kind r.birth ka r.keys.length kc va r.vals.length vc, .int .i64 r.code]) ∧ Rd w' ka (r.keys.map b64) ∧ Rd w' va (r.vals.map b64) ∧ Below w.heap.size w w'
theorem wrap64_n8 (c : UInt8) : RowKit.wrap64 (n8 c) = n8 c := by
  have := n8_range c
  unfold RowKit.wrap64; omega
theorem min6 (c : UInt8) : (if 6 < n8 c then 6 else n8 c) = ((min c.toNat 6 : Nat) : Int) := by
  unfold n8; split <;> omega
set_option maxHeartbeats 4000000 in
set_option maxRecDepth 100000 in
theorem nof_any (no : UInt32) (B : List UInt8) (w : World) (hB : B.length = 256) :
    Calls Try.prog 68 #[.int .u32 (n32 no), arr B] w (GivesNode (ofN no B) w) := by
  have hmf : ∀ (fn : Fn) (first cap : Array Value) (w : World), (Instr.makeFunc fn first cap).run Try.prog w = .ok (.func fn first cap) w := fun _ _ _ _ => rfl
  have HL := Lib.hid hB
  clear hB
  go_enter Try.func68, Try.ntmps68
  go_wp2_with (first | with_reducible refine halt_box 37 ?_)
  refine L.box rfl (by rfl) (by rfl) ?_
  intro w1 hB1 hG1
  simp only [Act.put, List.setIfInBounds_toArray, List.set_cons_zero, List.set_cons_succ]
  have hlt1 := hB1.lt
  have hN2 : Blk ((w1.alloc (.cells #[.int .i64 0, .int .u64 0, .slice none 0 0, .slice none 0 0] 95)).alloc (.cells #[.int .i64 20] 3)) w1.heap.size 95 [.int .i64 0, .int .u64 0, .slice none 0 0, .slice none 0 0] := (Blk.new w1 _ 95).alloc _
  have hA2 : Blk ((w1.alloc (.cells #[.int .i64 0, .int .u64 0, .slice none 0 0, .slice none 0 0] 95)).alloc (.cells #[.int .i64 20] 3)) (w1.heap.size + 1) 3 [.int .i64 20] := by
    have := Blk.new (w1.alloc (.cells #[.int .i64 0, .int .u64 0, .slice none 0 0, .slice none 0 0] 95)) [.int .i64 20] 3
    simpa using this
  have hb2 : GB w1 ((w1.alloc (.cells #[.int .i64 0, .int .u64 0, .slice none 0 0, .slice none 0 0] 95)).alloc (.cells #[.int .i64 20] 3)) := ((Below.refl _ _).alloc (Nat.le_refl _) _).alloc (by simp) _
  go_wp2_with (first | with_reducible refine halt_dst 10 ?_)
  generalize (w1.alloc (.cells #[.int .i64 0, .int .u64 0, .slice none 0 0, .slice none 0 0] 95)).alloc (.cells #[.int .i64 20] 3) = w2 at *
  have hB2 := hB1.gb hb2
  have hsz := hA2.lt
  have hw2 := bgb hG1 hb2 hG1.size
  obtain ⟨n0, n1, n2, n3⟩ := hN2.c4
  have nf := fun j => hN2.frozen j
  have a0 := hA2.cell 0
  have af := hA2.frozen 0
  have hi4 : 4 < B.length := by rw [HL.out]; omega
  have hi5 : 5 < B.length := by rw [HL.out]; omega
  have x4 := hB2.get8 4 hi4
  have e4 : kindOf B = n8 B[4] := by simp [kindOf, List.getD, hi4]
  generalize B[4] = k4 at *
  have w8 := wrap64_n8 k4
  have hgh : w1.heap.size ≠ w1.heap.size + 1 := by omega
  have hN3 : Blk ((w2.setCell ⟨w1.heap.size, 0, none⟩ (.int .i64 (n8 k4))).setCell ⟨w1.heap.size + 1, 0, none⟩ (.int .i64 12)) w1.heap.size 95 [.int .i64 (n8 k4), .int .u64 0, .slice none 0 0, .slice none 0 0] :=
    (hN2.set 0 _).other (by omega) _ _
  have hA3 : Blk ((w2.setCell ⟨w1.heap.size, 0, none⟩ (.int .i64 (n8 k4))).setCell ⟨w1.heap.size + 1, 0, none⟩ (.int .i64 12)) (w1.heap.size + 1) 3 [.int .i64 (12 : Nat)] :=
    (hA2.other (by omega) _ _).set 0 _
  have hB3 : Blk ((w2.setCell ⟨w1.heap.size, 0, none⟩ (.int .i64 (n8 k4))).setCell ⟨w1.heap.size + 1, 0, none⟩ (.int .i64 12)) w.heap.size 37 (B.map b8) := (hB2.other (by omega) _ _).other (by omega) _ _
  have hb3 := (hw2.setCell (show w.heap.size ≤ (⟨w1.heap.size, 0, none⟩ : Addr).block by show _ ≤ w1.heap.size; omega) (.int .i64 (n8 k4))).setCell (show w.heap.size ≤ (⟨w1.heap.size + 1, 0, none⟩ : Addr).block by show _ ≤ w1.heap.size + 1; omega) (.int .i64 12)
  have hs3 : ((w2.setCell ⟨w1.heap.size, 0, none⟩ (.int .i64 (n8 k4))).setCell ⟨w1.heap.size + 1, 0, none⟩ (.int .i64 12)).heap.size = w2.heap.size := by simp
  have E4 := Lib.hid e4
  clear e4 hi4 hi5
  refine L.go ?_
  go_wp2_with fail
  generalize (w2.setCell ⟨w1.heap.size, 0, none⟩ (.int .i64 (n8 k4))).setCell ⟨w1.heap.size + 1, 0, none⟩ (.int .i64 12) = w3 at *
  clear n0 n1 n2 n3 nf a0 af x4 hN2 hA2 hB2 hb2 hw2 hB1
  refine (nget_fr w.heap.size (w1.heap.size + 1) 12 B w3 HL.out (by omega) hB3 hA3).mono ?_
  rintro e w4 ⟨rfl, hw4⟩
  have hN4 : Blk w4 w1.heap.size 95 [.int .i64 (n8 k4), .int .u64 0, .slice none 0 0, .slice none 0 0] := hw4 ▸ hN3.other (Ne.symm hgh) 0 (.int .i64 ((12 + 8 : Nat) : Int))
  have hA4 : Blk w4 (w1.heap.size + 1) 3 [.int .i64 (20 : Nat)] := hw4 ▸ hA3.set 0 (.int .i64 ((12 + 8 : Nat) : Int))
  have hB4 : Blk w4 w.heap.size 37 (B.map b8) := hw4 ▸ hB3.other (show w1.heap.size + 1 ≠ w.heap.size by omega) 0 (.int .i64 ((12 + 8 : Nat) : Int))
  have hb4 : Below w.heap.size w w4 := hw4 ▸ hb3.setCell (show w.heap.size ≤ (⟨w1.heap.size + 1, 0, none⟩ : Addr).block by show _ ≤ w1.heap.size + 1; omega) (.int .i64 ((12 + 8 : Nat) : Int))
  have hs4 : w4.heap.size = w2.heap.size := by rw [← hw4]; simp [hs3]
  clear hw4 hN3 hA3 hB3 hb3 hs3
  obtain ⟨n0, n1, n2, n3⟩ := hN4.c4
  have nf := fun j => hN4.frozen j
  have hN5 := hN4.set 1 (.int .u64 (n64 (birthOf B)))
  have hA5 := hA4.other hgh 1 (.int .u64 (n64 (birthOf B)))
  have hB5 := hB4.other (show w1.heap.size ≠ w.heap.size by omega) 1 (.int .u64 (n64 (birthOf B)))
  have hb5 := hb4.setCell (show w.heap.size ≤ (⟨w1.heap.size, 1, none⟩ : Addr).block by show _ ≤ w1.heap.size; omega) (.int .u64 (n64 (birthOf B)))
  have hs5 : (w4.setCell ⟨w1.heap.size, 1, none⟩ (.int .u64 (n64 (birthOf B)))).heap.size = w2.heap.size := by simp [hs4]
  go_wp2_with (first | with_reducible refine halt_dst 18 ?_)
  generalize hw5 : w4.setCell ⟨w1.heap.size, 1, none⟩ (.int .u64 (n64 (birthOf B))) = w5 at *
  change Stop (wpList _ _ _ _ _ (w4.setCell ⟨w1.heap.size, 1, none⟩ (.int .u64 (n64 (birthOf B))))) 
  rw [hw5]
  clear n0 n1 n2 n3 nf hw5 hN4 hA4 hB4 hb4 hs4
  have hi5 : 5 < B.length := by rw [HL.out]; omega
  have e5 : manyOf B = min B[5].toNat 6 := by simp [manyOf, List.getD, hi5]
  have x5 := hB5.get8 5 hi5
  generalize B[5] = k5 at *
  have w85 := wrap64_n8 k5
  have hmin := min6 k5
  rw [← e5] at hmin
  have hm6 : manyOf B ≤ 6 := by rw [e5]; omega
  generalize hmany : manyOf B = n at *
  have HN := Lib.hid hmany
  clear hmany e5 hi5
  refine L.go ?_
  go_wp2_with fail
  clear hmin w85 x5
  go_loopw [22] (fun x wr => ∃ k : Nat, k ≤ n ∧ x = .int .i64 k ∧ ∃ kv vv : Value, Blk wr w1.heap.size 95 [.int .i64 (n8 k4), .int .u64 (n64 (birthOf B)), kv, vv] ∧
      wr.ownsRow w2.heap.size 75 1 kv k ((keysOf B k).map b64) ∧ wr.ownsRow w2.heap.size 75 1 vv k ((valsOf B k).map b64) ∧ (∀ j, kv.ownBlock = some j → vv.ownBlock ≠ some j) ∧
      Blk wr (w1.heap.size + 1) 3 [.int .i64 ((20 + 16 * k : Nat) : Int)] ∧ Blk wr w.heap.size 37 (B.map b8) ∧ Below w.heap.size w wr ∧ w2.heap.size ≤ wr.heap.size) (fun x _ => n - (intOf x).toNat)
  case atStart => exact ⟨0, by omega, rfl, .slice none 0 0, .slice none 0 0, hN5, World.ownsRow_nil _ _ _ _, World.ownsRow_nil _ _ _ _, by simp [Value.ownBlock], hA5, hB5, hb5, by omega⟩
  case round =>
    clear hN5 hA5 hB5 hb5 hs5
    obtain ⟨k, hkn, rfl, kv, vv, hN, hkv, hvv, hdis, hA, hB, hb, hsz2⟩ := hrel
    by_cases hlt : k < n
    · have hbnd : 20 + 16 * k + 16 ≤ 256 := by omega
      obtain ⟨ka, kc, rfl, hkr, -, -, -, hklt⟩ := Row.shape hkv
      have C2 : ∀ u, Fr (· = w1.heap.size + 1) wr.drew u → u.cell? ⟨w1.heap.size, 2, none⟩ = some (.slice ka k kc) := fun u hu => (hu.blk (Blk.gb hN (GB.drew _)) (by omega)).cell 2
      go_wp2_with fail
      refine region_fr (F := (· = w1.heap.size + 1)) [(0,0),(1,0),(2,0),(3,1),(4,1),(5,2),(6,2),(7,2)] [5,6,7] (by kernel_rfl) ?_
      iterate 3 (refine S0w (v := ?_) (by rfl) (by rfl) (fun u hu N hN => ?_) ?_; rotate_left; (go_simp; exact hN); simp only [Act.put, List.setIfInBounds_toArray, List.set_cons_zero, List.set_cons_succ])
      refine S1 (by rfl) (by rfl) (fun K hK => ?_)
      go_wp2_with fail
      refine (nget_fr w.heap.size (w1.heap.size + 1) (20 + 16 * k) B wr.drew HL.out (by omega) (Blk.gb hB (GB.drew _)) (Blk.gb hA (GB.drew _))).mono ?_
      rintro e w6 ⟨rfl, hw6⟩
      have f6 : Fr (· = w1.heap.size + 1) wr.drew w6 := hw6 ▸ (Fr.refl _ _).setCell _ _ _ (.inl rfl)
      have hA6 : Blk w6 (w1.heap.size + 1) 3 [.int .i64 ((20 + 16 * k + 8 : Nat) : Int)] := hw6 ▸ (Blk.gb hA (GB.drew _)).set 0 _
      refine hK _ _ f6 ?_
      clear hK K
      have g6 : Fr (· = w1.heap.size + 1) wr w6 := (Fr.of_gb (GB.drew _)).trans f6
      have hN6 := g6.blk hN (by omega)
      have hB6 := g6.blk hB (by omega)
      have hkv6 := g6.row hkv (fun j hj => by have := hkv.lt j hj; omega)
      have hvv6 := g6.row hvv (fun j hj => by have := hvv.lt j hj; omega)
      have hs6 := g6.size
      have hb6 := hb.trans (g6.below (fun j _ hj => by omega) hb.size)
      clear C2 hw6 f6
      refine S1 (by rfl) (by rfl) (fun K hK => ?_)
      go_wp2_with fail
      refine hK _ _ (Fr.of_gb ((Below.refl _ _).alloc (Nat.le_refl _) _)) ?_
      clear hK K
      have hN7 := hN6.alloc (.cells #[b64 (keyAt B k)] 75)
      have hA7 := hA6.alloc (.cells #[b64 (keyAt B k)] 75)
      have hB7 := hB6.alloc (.cells #[b64 (keyAt B k)] 75)
      have hkv7 := Row.gb hkv6 ((Below.refl _ _).alloc (Nat.le_refl _) (.cells #[b64 (keyAt B k)] 75))
      have hvv7 := Row.gb hvv6 ((Below.refl _ _).alloc (Nat.le_refl _) (.cells #[b64 (keyAt B k)] 75))
      have hb7 := hb6.alloc hb6.size (.cells #[b64 (keyAt B k)] 75)
      have hsr : Rd (w6.alloc (.cells #[b64 (keyAt B k)] 75)) (some ⟨w6.heap.size, 0, none⟩) [b64 (keyAt B k)] := Rd.alloc_new w6 [b64 (keyAt B k)] 75
      have hs7 : w6.heap.size < (w6.alloc (.cells #[b64 (keyAt B k)] 75)).heap.size := by simp
      change runS _ _ _ _ _ _ (w6.alloc (.cells #[b64 (keyAt B k)] 75))
      generalize w6.alloc (.cells #[b64 (keyAt B k)] 75) = w7 at *
      refine S2 (by rfl) (by rfl) (fun K hK => ?_)
      refine wp_appendW elem64 (.tmp 25) (.tmp 28) rfl (by rfl) hkv7 (by rfl) rfl hsr (by simp [b64, Value.oneCell']) (by omega) (by omega) (fun kv8 w8 hkv8 hG8 hf8 => hK _ _ ?_)
      clear hK K
      have hkb := hkv7.lt
      have hN8 := hN7.grown hG8 (fun h => by have := hkb _ h.symm; omega)
      have hA8 := hA7.grown hG8 (fun h => by have := hkb _ h.symm; omega)
      have hB8 := hB7.grown hG8 (fun h => by have := hkb _ h.symm; omega)
      have hvv8 := World.ownsRow.kept hvv7 hG8 (by
        cases hx : vv.ownBlock with
        | none => exact .inl rfl
        | some j => exact .inr fun h => hdis j h.symm hx)
      have hb8 := hb7.grown hG8 hb7.size (fun j hj => by have := hkb j hj; omega)
      have hs8 := hG8.size
      have hdis8 : ∀ j, kv8.ownBlock = some j → vv.ownBlock ≠ some j := fun j hj hv => by
        rcases hf8 j hj with h | h
        · exact hdis j h hv
        · have := (hvv7.lt j hv).2; omega
      have hks : keysOf B (k + 1) = keysOf B k ++ [keyAt B k] := by simp [keysOf, List.range_succ]
      replace hkv8 : w8.ownsRow w2.heap.size 75 1 kv8 (k + 1) ((keysOf B (k + 1)).map b64) := by rw [hks, List.map_append]; exact hkv8
      obtain ⟨ka8, kc8, rfl, -, -, -, -, -⟩ := Row.shape hkv8
      have HS := Lib.hid hsr
      clear hsr hks hkv7 hvv7 hN7 hA7 hB7 hb7 hG8 hf8 hkb hdis hN6 hA6 hB6 hkv6 hvv6 hb6 HS hkr hkv hvv hN hA hB g6
      simp only [Act.put, List.setIfInBounds_toArray, List.set_cons_zero, List.set_cons_succ]
      obtain ⟨n0, n1, n2, n3⟩ := hN8.c4
      have nf := fun j => hN8.frozen j
      refine S2 (by rfl) (by rfl) (fun K hK => ?_)
      go_wp2_with fail
      refine S2 (by rfl) (by rfl) (fun K hK => ?_)
      go_wp2_with fail
      refine S.done ?_
      have hN9 := hN8.set 2 (.slice ka8 (k + 1) kc8)
      have hA9 := hA8.other (show w1.heap.size ≠ w1.heap.size + 1 by omega) 2 (.slice ka8 (k + 1) kc8)
      have hB9 := hB8.other (show w1.heap.size ≠ w.heap.size by omega) 2 (.slice ka8 (k + 1) kc8)
      have g9 : Fr (· = w1.heap.size) w8 (w8.setCell ⟨w1.heap.size, 2, none⟩ (.slice ka8 (k + 1) kc8)) := (Fr.refl _ _).setCell _ _ _ (.inl rfl)
      have hkv9 := g9.row hkv8 (fun j hj => by have := hkv8.lt j hj; omega)
      have hvv9 := g9.row hvv8 (fun j hj => by have := hvv8.lt j hj; omega)
      have hs9 := g9.size
      have hb9 := hb8.trans (g9.below (B := w.heap.size) (fun j _ hj => by omega) hb8.size)
      generalize w8.setCell ⟨w1.heap.size, 2, none⟩ (.slice ka8 (k + 1) kc8) = w9 at *
      clear hN8 hA8 hB8 hkv8 hvv8 hb8 n0 n1 n2 n3 nf g9 hklt
      replace hN9 : Blk w9 w1.heap.size 95 [.int .i64 (n8 k4), .int .u64 (n64 (birthOf B)), .slice ka8 (k + 1) kc8, vv] := hN9
      obtain ⟨va, vc, rfl, -, -, -, -, -⟩ := Row.shape hvv9
      have C3 : ∀ u, Fr (· = w1.heap.size + 1) w9.drew u → u.cell? ⟨w1.heap.size, 3, none⟩ = some (.slice va k vc) := fun u hu => (hu.blk (Blk.gb hN9 (GB.drew _)) (by omega)).cell 3
      go_wp2_with fail
      refine region_fr (F := (· = w1.heap.size + 1)) [(0,0),(1,0),(2,0),(3,1),(4,1),(5,2),(6,2),(7,2)] [5,6,7] (by kernel_rfl) ?_
      iterate 3 (refine S0w (v := ?_) (by rfl) (by rfl) (fun u hu N hN => ?_) ?_; rotate_left; (go_simp; exact hN); simp only [Act.put, List.setIfInBounds_toArray, List.set_cons_zero, List.set_cons_succ])
      refine S1 (by rfl) (by rfl) (fun K hK => ?_)
      go_wp2_with fail
      refine (nget_fr w.heap.size (w1.heap.size + 1) (20 + 16 * k + 8) B w9.drew HL.out (by omega) (Blk.gb hB9 (GB.drew _)) (Blk.gb hA9 (GB.drew _))).mono ?_
      rintro e w10 ⟨rfl, hw10⟩
      have f10 : Fr (· = w1.heap.size + 1) w9.drew w10 := hw10 ▸ (Fr.refl _ _).setCell _ _ _ (.inl rfl)
      have hA10 : Blk w10 (w1.heap.size + 1) 3 [.int .i64 ((20 + 16 * k + 8 + 8 : Nat) : Int)] := hw10 ▸ (Blk.gb hA9 (GB.drew _)).set 0 _
      refine hK _ _ f10 ?_
      clear hK K
      have g10 : Fr (· = w1.heap.size + 1) w9 w10 := (Fr.of_gb (GB.drew _)).trans f10
      have hN10 := g10.blk hN9 (by omega)
      have hB10 := g10.blk hB9 (by omega)
      have hkv10 := g10.row hkv9 (fun j hj => by have := hkv9.lt j hj; omega)
      have hvv10 := g10.row hvv9 (fun j hj => by have := hvv9.lt j hj; omega)
      have hs10 := g10.size
      have hb10 := hb9.trans (g10.below (fun j _ hj => by omega) hb9.size)
      clear C3 hw10 f10
      refine S1 (by rfl) (by rfl) (fun K hK => ?_)
      go_wp2_with fail
      refine hK _ _ (Fr.of_gb ((Below.refl _ _).alloc (Nat.le_refl _) _)) ?_
      clear hK K
      have hN11 := hN10.alloc (.cells #[b64 (valAt B k)] 75)
      have hA11 := hA10.alloc (.cells #[b64 (valAt B k)] 75)
      have hB11 := hB10.alloc (.cells #[b64 (valAt B k)] 75)
      have hkv11 := Row.gb hkv10 ((Below.refl _ _).alloc (Nat.le_refl _) (.cells #[b64 (valAt B k)] 75))
      have hvv11 := Row.gb hvv10 ((Below.refl _ _).alloc (Nat.le_refl _) (.cells #[b64 (valAt B k)] 75))
      have hb11 := hb10.alloc hb10.size (.cells #[b64 (valAt B k)] 75)
      have hsr : Rd (w10.alloc (.cells #[b64 (valAt B k)] 75)) (some ⟨w10.heap.size, 0, none⟩) [b64 (valAt B k)] := Rd.alloc_new w10 [b64 (valAt B k)] 75
      have hs11 : w10.heap.size < (w10.alloc (.cells #[b64 (valAt B k)] 75)).heap.size := by simp
      change runS _ _ _ _ _ _ (w10.alloc (.cells #[b64 (valAt B k)] 75))
      generalize w10.alloc (.cells #[b64 (valAt B k)] 75) = w11 at *
      refine S2 (by rfl) (by rfl) (fun K hK => ?_)
      refine wp_appendW elem64 (.tmp 32) (.tmp 35) rfl (by rfl) hvv11 (by rfl) rfl hsr (by simp [b64, Value.oneCell']) (by omega) (by omega) (fun vv12 w12 hvv12 hG12 hf12 => hK _ _ ?_)
      clear hK K
      have hvb := hvv11.lt
      have hN12 := hN11.grown hG12 (fun h => by have := hvb _ h.symm; omega)
      have hA12 := hA11.grown hG12 (fun h => by have := hvb _ h.symm; omega)
      have hB12 := hB11.grown hG12 (fun h => by have := hvb _ h.symm; omega)
      have hkv12 := World.ownsRow.kept hkv11 hG12 (by
        cases hx : (Value.slice ka8 (k + 1) kc8).ownBlock with
        | none => exact .inl rfl
        | some j => exact .inr fun h => hdis8 j hx h.symm)
      have hb12 := hb11.grown hG12 hb11.size (fun j hj => by have := hvb j hj; omega)
      have hs12 := hG12.size
      have hdis12 : ∀ j, (Value.slice ka8 (k + 1) kc8).ownBlock = some j → vv12.ownBlock ≠ some j := fun j hj hv => by
        rcases hf12 j hv with h | h
        · exact hdis8 j hj h
        · have := (hkv11.lt j hj).2; omega
      have hvs : valsOf B (k + 1) = valsOf B k ++ [valAt B k] := by simp [valsOf, List.range_succ]
      replace hvv12 : w12.ownsRow w2.heap.size 75 1 vv12 (k + 1) ((valsOf B (k + 1)).map b64) := by rw [hvs, List.map_append]; exact hvv12
      obtain ⟨va12, vc12, rfl, -, -, -, -, -⟩ := Row.shape hvv12
      clear hsr hvs hkv11 hvv11 hN11 hA11 hB11 hb11 hG12 hf12 hvb hdis8 hN10 hA10 hB10 hkv10 hvv10 hb10 hkv9 hvv9 hN9 hA9 hB9 g10
      simp only [Act.put, List.setIfInBounds_toArray, List.set_cons_zero, List.set_cons_succ]
      obtain ⟨n0, n1, n2, n3⟩ := hN12.c4
      have nf := fun j => hN12.frozen j
      refine S2 (by rfl) (by rfl) (fun K hK => ?_)
      go_wp2_with fail
      refine S2 (by rfl) (by rfl) (fun K hK => ?_)
      go_wp2_with fail
      refine S.done ?_
      have hN13 := hN12.set 3 (.slice va12 (k + 1) vc12)
      have hA13 := hA12.other (show w1.heap.size ≠ w1.heap.size + 1 by omega) 3 (.slice va12 (k + 1) vc12)
      have hB13 := hB12.other (show w1.heap.size ≠ w.heap.size by omega) 3 (.slice va12 (k + 1) vc12)
      have g13 : Fr (· = w1.heap.size) w12 (w12.setCell ⟨w1.heap.size, 3, none⟩ (.slice va12 (k + 1) vc12)) := (Fr.refl _ _).setCell _ _ _ (.inl rfl)
      have hkv13 := g13.row hkv12 (fun j hj => by have := hkv12.lt j hj; omega)
      have hvv13 := g13.row hvv12 (fun j hj => by have := hvv12.lt j hj; omega)
      have hs13 := g13.size
      have hb13 := hb12.trans (g13.below (B := w.heap.size) (fun j _ hj => by omega) hb12.size)
      generalize w12.setCell ⟨w1.heap.size, 3, none⟩ (.slice va12 (k + 1) vc12) = w13 at *
      clear hN12 hA12 hB12 hkv12 hvv12 hb12 n0 n1 n2 n3 nf g13
      go_wp2_with fail
      go_roundw
      case rel => exact ⟨k + 1, by omega, by go_num, _, _, hN13, hkv13, hvv13, hdis12, by rw [show 20 + 16 * (k + 1) = 20 + 16 * k + 8 + 8 by omega]; exact hA13, hB13, hb13, by omega⟩
      case measure => simp [intOf]; omega
    · obtain rfl : k = n := by omega
      have hkl : (keysOf B k).length = k := by simp [keysOf]
      have hvl : (valsOf B k).length = k := by simp [valsOf]
      have hof : ofN no B = if mayN (n8 k4) (keysOf B k) k && (nodeBlock no (n8 k4) (birthOf B) (keysOf B k) (valsOf B k) == B) then ⟨n8 k4, birthOf B, keysOf B k, valsOf B k, 0⟩ else ⟨0, 0, [], [], 4⟩ := by
        unfold ofN okN; rw [E4.out, HN.out]
      obtain ⟨ka, kc, rfl, hkr, -, -, -, -⟩ := Row.shape hkv
      obtain ⟨va, vc, rfl, hvr, -, -, -, -⟩ := Row.shape hvv
      have hka : ∀ ad, ka = some ad → ad.block ≠ w1.heap.size := row_off hkv (by omega)
      have hva : ∀ ad, va = some ad → ad.block ≠ w1.heap.size := row_off hvv (by omega)
      have hblk := nblock_any no (n8 k4) (birthOf B) ka (keysOf B k) kc va (valsOf B k) vc wr (by rw [hkl]; unfold maxLen; omega) hkr hvr
      rw [hkl, hvl] at hblk
      unfold nodeV at hblk
      have hsl : (nodeBlock no (n8 k4) (birthOf B) (keysOf B k) (valsOf B k)).length = 256 := summed_length _
      have hzl := zeros_length 256
      generalize nodeBlock no (n8 k4) (birthOf B) (keysOf B k) (valsOf B k) = C at *
      generalize keysOf B k = ks at *
      generalize valsOf B k = vs at *
      generalize birthOf B = bi at *
      have HKL := Lib.hid hkl
      have HVL := Lib.hid hvl
      have HSL := Lib.hid hsl
      have HZL := Lib.hid hzl
      have HOF := Lib.hid hof
      obtain ⟨n0, n1, n2, n3⟩ := hN.c4
      clear hkl hvl hsl hzl hof HN E4
      by_cases hm : mayN (n8 k4) ks k = true
      · rw [if_pos hm, if_pos hm] at hblk
        rw [hm] at HOF
        have HBK := Lib.hid hblk
        clear hblk hm
        go_wp2_with fail
        refine HBK.out.mono ?_
        rintro e w6 ⟨rfl, hb6⟩
        have hN6 := hN.gb hb6
        have hB6 := hB.gb hb6
        have hkr6 := hkr.below hb6
        have hvr6 := hvr.below hb6
        have hbw6 := bgb hb hb6 hb.size
        have hs6 := hb6.size
        clear n0 n1 n2 n3 HBK hb6 hkr hvr hN hB hA
        go_wp2_with (first | with_reducible refine halt_alloc 37 ?_)
        refine L.alloc rfl zero37 (by rfl) ?_
        intro w7 hC7 hG7
        simp only [Act.put, List.setIfInBounds_toArray, List.set_cons_zero, List.set_cons_succ]
        go_wp2_with (first | with_reducible refine halt_store 37 ?_)
        refine L.store rfl info37 (by rfl) (by rfl) hC7 (by rw [List.length_map]; exact HZL.out) HSL.out (by rfl) ?_
        intro w8 hC8 hG8
        simp only [Act.put]
        have f8 : Fr (fun _ => False) w6 w8 := (Fr.of_gb hG7).grown hG8 (fun j hj => .inr (by cases hj; omega))
        have hN8 := f8.blk hN6 (fun h => h)
        have hB8 := f8.blk hB6 (fun h => h)
        have hkr8 := f8.rd hkr6 (fun _ _ h => h)
        have hvr8 := f8.rd hvr6 (fun _ _ h => h)
        have hb8 := hbw6.trans (f8.below (B := w.heap.size) (fun _ _ h => h.elim) hbw6.size)
        clear f8 hG7 hG8 hC7 hN6 hB6 hkr6 hvr6 hbw6
        obtain ⟨n0, n1, n2, n3⟩ := hN8.c4
        by_cases hCB : C = B
        · have hq : (!(C == B)) = false := by simp [hCB]
          have ho := HOF.out
          rw [show (C == B) = true by simp [hCB]] at ho
          have HO := Lib.hid ho
          have HC := Lib.hid hCB
          clear ho hCB HOF
          go_wp2_with (first | with_reducible refine halt_load 37 ?_ | with_reducible refine halt_bin 37 ?_)
          refine L.load rfl Try.underlying37 info37 (by rfl) hC8 HSL.out (by rfl) ?_
          simp only [Act.put, List.setIfInBounds_toArray, List.set_cons_zero, List.set_cons_succ]
          go_wp2_with (first | with_reducible refine halt_load 37 ?_ | with_reducible refine halt_bin 37 ?_)
          refine L.load rfl Try.underlying37 info37 (by rfl) hB8 HL.out (by rfl) ?_
          simp only [Act.put, List.setIfInBounds_toArray, List.set_cons_zero, List.set_cons_succ]
          go_wp2_with (first | with_reducible refine halt_load 37 ?_ | with_reducible refine halt_bin 37 ?_)
          refine L.neq rfl Try.underlying37 guard37 (by rfl) (by rfl) HSL.out HL.out (by rfl) ?_
          simp only [Act.put, List.setIfInBounds_toArray, List.set_cons_zero, List.set_cons_succ]
          go_wp2_with (first | with_reducible refine halt_store 95 ?_)
          refine L.storeS (vs := [.int .i64 (n8 k4), .int .u64 (n64 bi), .slice ka k kc, .slice va k vc]) rfl info95 (by rfl) (by rfl) hN8 rfl rfl (by simp [Value.oneCell']) (by rfl) ?_
          intro w9 hN9 hG9
          simp only [Act.put]
          go_wp2_with fail
          refine ret_cellS2 rfl (by rfl) Try.underlying95 info95 hN9 rfl (by rfl) rfl ?_
          rw [HO.out]
          have f9 : Fr (· = w1.heap.size) w8 w9 := Fr.of_grown hG9 (fun j hj => by cases hj; rfl)
          have hks9 : ∀ ad, ka = some ad → ¬ ad.block = w1.heap.size := fun ad h e => hka ad h e
          have hvs9 : ∀ ad, va = some ad → ¬ ad.block = w1.heap.size := fun ad h e => hva ad h e
          exact ⟨ka, kc, va, vc, by
            show _ = Ending.returned (.tuple #[nodeV (n8 k4) bi ka ks.length kc va vs.length vc, .int .i64 0])
            rw [HKL.out, HVL.out]; rfl, f9.rd hkr8 hks9, f9.rd hvr8 hvs9, hb8.grown hG9 hb8.size (fun j hj => by cases hj; omega)⟩
        · have hq : (!(C == B)) = true := by simp [hCB]
          have ho := HOF.out
          rw [show (C == B) = false by simp [hCB]] at ho
          have HO := Lib.hid ho
          have HC := Lib.hid hCB
          clear ho hCB HOF
          go_wp2_with (first | with_reducible refine halt_load 37 ?_ | with_reducible refine halt_bin 37 ?_)
          refine L.load rfl Try.underlying37 info37 (by rfl) hC8 HSL.out (by rfl) ?_
          simp only [Act.put, List.setIfInBounds_toArray, List.set_cons_zero, List.set_cons_succ]
          go_wp2_with (first | with_reducible refine halt_load 37 ?_ | with_reducible refine halt_bin 37 ?_)
          refine L.load rfl Try.underlying37 info37 (by rfl) hB8 HL.out (by rfl) ?_
          simp only [Act.put, List.setIfInBounds_toArray, List.set_cons_zero, List.set_cons_succ]
          go_wp2_with (first | with_reducible refine halt_load 37 ?_ | with_reducible refine halt_bin 37 ?_)
          refine L.neq rfl Try.underlying37 guard37 (by rfl) (by rfl) HSL.out HL.out (by rfl) ?_
          simp only [Act.put, List.setIfInBounds_toArray, List.set_cons_zero, List.set_cons_succ]
          go_wp2_with (first | with_reducible refine halt_store 95 ?_)
          refine L.storeS (vs := [.int .i64 0, .int .u64 0, .slice none 0 0, .slice none 0 0]) rfl info95 (by rfl) (by rfl) hN8 rfl rfl (by simp [Value.oneCell']) (by rfl) ?_
          intro w9 hN9 hG9
          simp only [Act.put]
          go_wp2_with fail
          refine ret_cellS2 rfl (by rfl) Try.underlying95 info95 hN9 rfl (by rfl) rfl ?_
          rw [HO.out]
          exact ⟨none, 0, none, 0, rfl, Rd.nil _ _, Rd.nil _ _, hb8.grown hG9 hb8.size (fun j hj => by cases hj; omega)⟩
      · rw [if_neg hm, if_neg hm] at hblk
        rw [show mayN (n8 k4) ks k = false by simpa using hm] at HOF
        have HBK := Lib.hid hblk
        have HO := HOF
        clear hblk hm
        go_wp2_with fail
        refine HBK.out.mono ?_
        rintro e w6 ⟨rfl, hb6⟩
        have hN6 := hN.gb hb6
        have hB6 := hB.gb hb6
        have hkr6 := hkr.below hb6
        have hvr6 := hvr.below hb6
        have hbw6 := bgb hb hb6 hb.size
        have hs6 := hb6.size
        clear n0 n1 n2 n3 HBK hb6 hkr hvr hN hB hA
        go_wp2_with (first | with_reducible refine halt_alloc 37 ?_)
        refine L.alloc rfl zero37 (by rfl) ?_
        intro w7 hC7 hG7
        simp only [Act.put, List.setIfInBounds_toArray, List.set_cons_zero, List.set_cons_succ]
        go_wp2_with (first | with_reducible refine halt_store 37 ?_)
        refine L.store rfl info37 (by rfl) (by rfl) hC7 (by rw [List.length_map]; exact HZL.out) HZL.out (by rfl) ?_
        intro w8 hC8 hG8
        simp only [Act.put]
        have f8 : Fr (fun _ => False) w6 w8 := (Fr.of_gb hG7).grown hG8 (fun j hj => .inr (by cases hj; omega))
        have hN8 := f8.blk hN6 (fun h => h)
        have hB8 := f8.blk hB6 (fun h => h)
        have hkr8 := f8.rd hkr6 (fun _ _ h => h)
        have hvr8 := f8.rd hvr6 (fun _ _ h => h)
        have hb8 := hbw6.trans (f8.below (B := w.heap.size) (fun _ _ h => h.elim) hbw6.size)
        clear f8 hG7 hG8 hC7 hN6 hB6 hkr6 hvr6 hbw6
        obtain ⟨n0, n1, n2, n3⟩ := hN8.c4
        go_wp2_with (first | with_reducible refine halt_store 95 ?_)
        refine L.storeS (vs := [.int .i64 0, .int .u64 0, .slice none 0 0, .slice none 0 0]) rfl info95 (by rfl) (by rfl) hN8 rfl rfl (by simp [Value.oneCell']) (by rfl) ?_
        intro w9 hN9 hG9
        simp only [Act.put]
        go_wp2_with fail
        refine ret_cellS2 rfl (by rfl) Try.underlying95 info95 hN9 rfl (by rfl) rfl ?_
        rw [HO.out]
        exact ⟨none, 0, none, 0, rfl, Rd.nil _ _, Rd.nil _ _, hb8.grown hG9 hb8.size (fun j hj => by cases hj; omega)⟩
end Go.Proofs.Ytiihllfjlgbfcaa
