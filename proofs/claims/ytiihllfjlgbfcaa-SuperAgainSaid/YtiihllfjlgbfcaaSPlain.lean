/- Superblocks, plainly: which may be, their blocks, what any block says; and that a superblock's block says it. -/
import Derived.Test.YtiihllfjlgbfcaaSummed
namespace Go.Proofs.Ytiihllfjlgbfcaa
open Go.RowKit
structure Su where
  tx : UInt64
  me : Int
  da : Int
  pg : List UInt32
  top : UInt32
  base : UInt32
  stage : UInt32
  cur : Int
  ep : UInt64
  la : UInt64
  sq : UInt64
  bl : UInt64
  bq : UInt64
  mr : Bool
/-- A superblock's 19 cells. -/
def suC (s : Su) : List Value := [b64 s.tx, .int .i64 s.me, .int .i64 s.da] ++ (s.pg.map b32 ++ [b32 s.top, b32 s.base, b32 s.stage, .int .i64 s.cur, b64 s.ep, b64 s.la, b64 s.sq, b64 s.bl, b64 s.bq, .bool s.mr])
/-- It is a value of the type. -/
structure Su.Ok (s : Su) : Prop where
  pg : s.pg.length = 6
  me : -9223372036854775808 ≤ s.me ∧ s.me ≤ 9223372036854775807
  da : -9223372036854775808 ≤ s.da ∧ s.da ≤ 9223372036854775807
  cur : -9223372036854775808 ≤ s.cur ∧ s.cur ≤ 9223372036854775807
theorem suC_length (s : Su) (h : s.Ok) : (suC s).length = 19 := by simp [suC, h.pg]
def Su.nums (s : Su) : List UInt32 := s.pg ++ [s.top, s.base, s.stage]
def mayHead (s : Su) : Bool := !(decide (s.me < 16) || decide (240 < s.me) || decide (s.da < 1) || decide (480 < s.da) || decide (n64 s.tx < 1) || decide (4611686018427387904 < n64 s.tx) || decide (s.cur < 0) || decide (s.da ≤ s.cur))
def mayS (s : Su) : Bool := mayHead s && s.nums.all (fun n => decide (n32 n < s.me))
def u64i (i : Int) : UInt64 := UInt64.ofNat i.toNat
/-- A superblock's numbers, each with how many bytes it has. -/
def numS (s : Su) : List (UInt64 × Nat) := [(s.tx, 8), (u64i s.me, 4), (u64i s.da, 4)] ++ (s.pg.map (fun p => (p.toUInt64, 4)) ++ [(s.top.toUInt64, 4), (s.base.toUInt64, 4), (s.stage.toUInt64, 4), (u64i s.cur, 4), (s.ep, 8), (s.la, 8), (s.sq, 8), (s.bl, 8), (s.bq, 8), ((if s.mr then 1 else 0), 1)])
def flatN (l : List (UInt64 × Nat)) : List UInt8 := l.flatMap (fun p => Num.low p.2 p.1)
def bodyS (s : Su) : List UInt8 := [86, 79, 73, 76] ++ flatN (numS s)
def blockS (s : Su) : List UInt8 := summed (bodyS s)
def getN (B : List UInt8) (at_ k : Nat) : UInt64 := Num.num ((B.drop at_).take k)
def parseS (B : List UInt8) : Su := ⟨getN B 8 8, n64 (getN B 16 4), n64 (getN B 20 4), (List.range 6).map (fun i => (getN B (24 + 4 * i) 4).toUInt32), (getN B 48 4).toUInt32, (getN B 52 4).toUInt32, (getN B 56 4).toUInt32, n64 (getN B 60 4), getN B 64 8, getN B 72 8, getN B 80 8, getN B 88 8, getN B 96 8, getN B 104 1 == 1⟩
def zeroS : Su := ⟨0, 0, 0, [0, 0, 0, 0, 0, 0], 0, 0, 0, 0, 0, 0, 0, 0, 0, false⟩
def okS (B : List UInt8) : Bool := mayS (parseS B) && (blockS (parseS B) == B)
def ofS (B : List UInt8) : Su × Int := if okS B then (parseS B, 0) else (zeroS, 4)
theorem blockS_length (s : Su) : (blockS s).length = 256 := summed_length _
theorem flatN_cons (p : UInt64 × Nat) (l : List (UInt64 × Nat)) : flatN (p :: l) = Num.low p.2 p.1 ++ flatN l := rfl
theorem flatN_append (l m : List (UInt64 × Nat)) : flatN (l ++ m) = flatN l ++ flatN m := by simp [flatN]
def offN (l : List (UInt64 × Nat)) : Nat := (l.map (·.2)).foldr (· + ·) 0
theorem flatN_length (l : List (UInt64 × Nat)) : (flatN l).length = offN l := by
  induction l with
  | nil => rfl
  | cons p l ih => rw [flatN_cons, List.length_append, Num.low_length, ih]; rfl
theorem flatN_at : ∀ (l : List (UInt64 × Nat)) (R : List UInt8) (i : Nat) (h : i < l.length), ((flatN l ++ R).drop (offN (l.take i))).take l[i].2 = Num.low l[i].2 l[i].1
  | p :: l, R, 0, _ => by
    show ((flatN (p :: l) ++ R).drop 0).take p.2 = _
    rw [List.drop_zero, flatN_cons, List.append_assoc, List.take_left' (Num.low_length _ _)]; rfl
  | p :: l, R, i + 1, h => by
    have e : offN ((p :: l).take (i + 1)) = p.2 + offN (l.take i) := rfl
    rw [e, ← List.drop_drop, flatN_cons, List.append_assoc, List.drop_left' (Num.low_length _ _)]
    exact flatN_at l R i (by simpa using h)
theorem nat_low' (x : UInt64) : ∀ k, k ≤ 8 → (Num.num (Num.low k x)).toNat = x.toNat % 256 ^ k := by
  have key : ∀ k, ((Num.low k x).foldr (fun b n => b.toNat + 256 * n) 0) = x.toNat % 256 ^ k := by
    have snoc : ∀ (l : List UInt8) (c : UInt8), (l ++ [c]).foldr (fun b n => b.toNat + 256 * n) 0 = l.foldr (fun b n => b.toNat + 256 * n) 0 + c.toNat * 256 ^ l.length := by
      intro l c
      induction l with
      | nil => simp
      | cons b l ih =>
        simp only [List.cons_append, List.foldr_cons, List.length_cons, Nat.pow_succ]
        rw [ih, Nat.mul_add, Nat.add_assoc, ← Nat.mul_assoc, ← Nat.mul_assoc, Nat.mul_comm 256 (c.toNat), Nat.mul_assoc c.toNat 256, Nat.mul_assoc c.toNat, Nat.mul_comm 256 (256 ^ l.length)]
    intro k
    induction k with
    | zero => simp [Num.low, Nat.mod_one]
    | succ k ih =>
      rw [show Num.low (k + 1) x = Num.low k x ++ [(Num.dn k x % 256).toUInt8] from rfl, snoc, Num.low_length, ih, Num.byte, Nat.pow_succ, Nat.mod_mul, Nat.mul_comm (x.toNat / 256 ^ k % 256)]
  have lt : ∀ l : List UInt8, l.foldr (fun b n => b.toNat + 256 * n) 0 < 256 ^ l.length := by
    intro l
    induction l with
    | nil => simp
    | cons b l ih =>
      have := b.toNat_lt
      simp only [List.foldr_cons, List.length_cons, Nat.pow_succ] at *
      omega
  have tn : ∀ l : List UInt8, l.length ≤ 8 → (Num.num l).toNat = l.foldr (fun b n => b.toNat + 256 * n) 0 := by
    intro l
    induction l with
    | nil => intro _; rfl
    | cons b l ih =>
      intro h
      have hl := lt (b :: l)
      have hp : 256 ^ (b :: l).length ≤ 256 ^ 8 := Nat.pow_le_pow_right (by omega) h
      have e : Num.num (b :: l) = Num.num l * 256 + b.toUInt64 := rfl
      simp only [List.foldr_cons] at hl ⊢
      rw [e, UInt64.toNat_add, UInt64.toNat_mul, ih (by simp at h; omega), UInt8.toNat_toUInt64]
      have h256 : UInt64.toNat 256 = 256 := rfl
      rw [h256]
      omega
  intro k hk
  rw [tn _ (by rw [Num.low_length]; exact hk), key]
theorem num_low (k : Nat) (hk : k ≤ 8) (x : UInt64) (h : x.toNat < 256 ^ k) : Num.num (Num.low k x) = x := by
  rw [← UInt64.toNat_inj, nat_low' x k hk]
  exact Nat.mod_eq_of_lt h
theorem u64i_toNat (i : Int) (h0 : 0 ≤ i) (h1 : i ≤ 1000) : (u64i i).toNat = i.toNat := by
  unfold u64i; simp; omega
theorem mayS_bounds {s : Su} (h : mayS s = true) : 16 ≤ s.me ∧ s.me ≤ 240 ∧ 1 ≤ s.da ∧ s.da ≤ 480 ∧ 1 ≤ n64 s.tx ∧ n64 s.tx ≤ 4611686018427387904 ∧ 0 ≤ s.cur ∧ s.cur < s.da ∧ ∀ n ∈ s.nums, n32 n < s.me := by
  unfold mayS mayHead at h
  simp only [Bool.and_eq_true, Bool.not_eq_true', Bool.or_eq_false_iff, decide_eq_false_iff_not, List.all_eq_true, decide_eq_true_eq] at h
  obtain ⟨⟨⟨⟨⟨⟨⟨⟨a, b⟩, c⟩, d⟩, e⟩, f⟩, g⟩, i⟩, j⟩ := h
  exact ⟨by omega, by omega, by omega, by omega, by omega, by omega, by omega, by omega, j⟩
theorem numS_len (s : Su) (hp : s.pg.length = 6) : (numS s).length = 19 := by simp [numS, hp]
theorem bodyS_length (s : Su) (hp : s.pg.length = 6) : (bodyS s).length = 101 := by
  obtain ⟨tx, me, da, pg, top, base, stage, cur, ep, la, sq, bl, bq, mr⟩ := s
  simp only at hp
  match pg, hp with
  | [p0, p1, p2, p3, p4, p5], _ => rw [bodyS, List.length_append, flatN_length]; simp [numS, offN]
theorem blockS_drop (s : Su) (hp : s.pg.length = 6) (j : Nat) : (blockS s).drop (8 + j) = (flatN (numS s) ++ zeros 151).drop j := by
  have hb := bodyS_length s hp
  unfold blockS summed
  have e : pad 252 (bodyS s) = bodyS s ++ zeros 151 := by
    unfold pad
    rw [List.take_append, List.take_of_length_le (by omega), hb]
    congr 1
  rw [e, show 8 + j = 4 + (4 + j) by omega, ← List.drop_drop, List.drop_left' (tail_length _), bodyS, List.append_assoc, ← List.drop_drop, List.drop_left' (by rfl)]
theorem blockS_get (s : Su) (hp : s.pg.length = 6) (i : Nat) (hi : i < (numS s).length) (k o : Nat) (ho : o = 8 + offN ((numS s).take i)) (hk : k = (numS s)[i].2) (h8 : k ≤ 8) (hlt : (numS s)[i].1.toNat < 256 ^ k) : getN (blockS s) o k = (numS s)[i].1 := by
  subst ho hk
  unfold getN
  rw [blockS_drop s hp, flatN_at (numS s) (zeros 151) i hi, num_low _ h8 _ hlt]
theorem n64_u64i (i : Int) (h0 : 0 ≤ i) (h1 : i ≤ 1000) : n64 (u64i i) = i := by
  unfold n64; rw [u64i_toNat i h0 h1]; omega
theorem parse_block (s : Su) (hp : s.pg.length = 6) (hm : mayS s = true) : parseS (blockS s) = s := by
  obtain ⟨h1, h2, h3, h4, -, -, h7, h8, -⟩ := mayS_bounds hm
  have G := blockS_get s hp
  have hl := numS_len s hp
  obtain ⟨tx, me, da, pg, top, base, stage, cur, ep, la, sq, bl, bq, mr⟩ := s
  simp only at hp h1 h2 h3 h4 h7 h8
  have b8 : ∀ x : UInt64, x.toNat < 256 ^ 8 := fun x => x.toNat_lt
  have b4 : ∀ p : UInt32, p.toUInt64.toNat < 256 ^ 4 := fun p => by rw [UInt32.toNat_toUInt64]; exact p.toNat_lt
  have bi : ∀ i : Int, 0 ≤ i → i ≤ 1000 → (u64i i).toNat < 256 ^ 4 := fun i h0 h1 => by rw [u64i_toNat i h0 h1]; omega
  have back : ∀ p : UInt32, p.toUInt64.toUInt32 = p := fun p => by simp
  match pg, hp with
  | [p0, p1, p2, p3, p4, p5], _ =>
    have g0 := G 0 (by rw [hl]; decide) 8 8 (by simp [numS, offN]) rfl (by omega) (b8 _)
    have g1 := G 1 (by rw [hl]; decide) 4 16 (by simp [numS, offN]) rfl (by omega) (bi me (by omega) (by omega))
    have g2 := G 2 (by rw [hl]; decide) 4 20 (by simp [numS, offN]) rfl (by omega) (bi da (by omega) (by omega))
    have g3 := G 3 (by rw [hl]; decide) 4 24 (by simp [numS, offN]) rfl (by omega) (b4 p0)
    have g4 := G 4 (by rw [hl]; decide) 4 28 (by simp [numS, offN]) rfl (by omega) (b4 p1)
    have g5 := G 5 (by rw [hl]; decide) 4 32 (by simp [numS, offN]) rfl (by omega) (b4 p2)
    have g6 := G 6 (by rw [hl]; decide) 4 36 (by simp [numS, offN]) rfl (by omega) (b4 p3)
    have g7 := G 7 (by rw [hl]; decide) 4 40 (by simp [numS, offN]) rfl (by omega) (b4 p4)
    have g8 := G 8 (by rw [hl]; decide) 4 44 (by simp [numS, offN]) rfl (by omega) (b4 p5)
    have g9 := G 9 (by rw [hl]; decide) 4 48 (by simp [numS, offN]) rfl (by omega) (b4 top)
    have g10 := G 10 (by rw [hl]; decide) 4 52 (by simp [numS, offN]) rfl (by omega) (b4 base)
    have g11 := G 11 (by rw [hl]; decide) 4 56 (by simp [numS, offN]) rfl (by omega) (b4 stage)
    have g12 := G 12 (by rw [hl]; decide) 4 60 (by simp [numS, offN]) rfl (by omega) (bi cur (by omega) (by omega))
    have g13 := G 13 (by rw [hl]; decide) 8 64 (by simp [numS, offN]) rfl (by omega) (b8 _)
    have g14 := G 14 (by rw [hl]; decide) 8 72 (by simp [numS, offN]) rfl (by omega) (b8 _)
    have g15 := G 15 (by rw [hl]; decide) 8 80 (by simp [numS, offN]) rfl (by omega) (b8 _)
    have g16 := G 16 (by rw [hl]; decide) 8 88 (by simp [numS, offN]) rfl (by omega) (b8 _)
    have g17 := G 17 (by rw [hl]; decide) 8 96 (by simp [numS, offN]) rfl (by omega) (b8 _)
    have g18 := G 18 (by rw [hl]; decide) 1 104 (by simp [numS, offN]) rfl (by omega) (by cases mr <;> simp [numS])
    generalize blockS _ = B at *
    unfold parseS
    have hr : List.range 6 = [0, 1, 2, 3, 4, 5] := rfl
    rw [hr]
    simp only [List.map_cons, List.map_nil, Nat.mul_zero, Nat.add_zero, Nat.mul_one, Nat.reduceMul, Nat.reduceAdd]
    rw [g0, g1, g2, g3, g4, g5, g6, g7, g8, g9, g10, g11, g12, g13, g14, g15, g16, g17, g18]
    simp only [numS, List.cons_append, List.nil_append, List.map_cons, List.map_nil, List.getElem_cons_zero, List.getElem_cons_succ, back]
    rw [n64_u64i me (by omega) (by omega), n64_u64i da (by omega) (by omega), n64_u64i cur (by omega) (by omega)]
    cases mr <;> rfl
theorem of_block (s : Su) (hp : s.pg.length = 6) (hm : mayS s = true) : ofS (blockS s) = (s, 0) := by
  have h := parse_block s hp hm
  unfold ofS okS
  rw [h, hm]
  simp
end Go.Proofs.Ytiihllfjlgbfcaa
