/- From the way in which an argument was opened to the way in which the walks are told of it. No program in sight. -/
import Derived.Test.YtiihllfjlgbfcaaBase
namespace Go.Proofs.Ytiihllfjlgbfcaa
open Go.RowKit
def Opened (k : IntKind) (w : World) (a : Option Addr) (len cap : Nat) (zs : List Int) : Prop :=
  (a = none ∧ len = 0 ∧ cap = 0 ∧ zs = []) ∨
  ∃ x, a = some x ∧ len ≤ cap ∧ cap ≤ maxLen ∧ zs.length = cap ∧ (∀ i, i < zs.length → w.cell? (x.add i) = some (.int k (zs.getD i 0))) ∧ ∀ n ∈ zs, (Lit.int k n).wf = true
/-- Of a list of integers that each are some word's number: the words. -/
theorem words_of {α : Type} (f : α → Int) (zs : List Int) (h : ∀ n ∈ zs, ∃ c, n = f c) : ∃ l : List α, zs = l.map f := by
  induction zs with
  | nil => exact ⟨[], rfl⟩
  | cons n zs ih =>
    obtain ⟨c, hc⟩ := h n (by simp)
    obtain ⟨l, hl⟩ := ih fun m hm => h m (by simp [hm])
    exact ⟨c :: l, by simp [hc, hl]⟩
theorem rd_of {α : Type} (f : α → Int) {k : IntKind} (hf : ∀ x : Int, (Lit.int k x).wf = true → ∃ c, x = f c) {w : World} {a : Option Addr} {len cap : Nat} {zs : List Int} (h : Opened k w a len cap zs) :
    ∃ l : List α, l.length = len ∧ len ≤ maxLen ∧ Rd w a (l.map fun c => Value.int k (f c)) ∧ len ≤ cap ∧ cap ≤ maxLen ∧ (a = none → cap = 0) := by
  rcases h with ⟨rfl, rfl, rfl, rfl⟩ | ⟨x, rfl, hl, hm, hz, hc, hw⟩
  · exact ⟨[], rfl, Nat.zero_le _, Rd.nil _ _, Nat.le_refl _, Nat.zero_le _, fun _ => rfl⟩
  · obtain ⟨m, rfl⟩ := words_of f zs fun n hn => hf n (hw n hn)
    refine ⟨m.take len, ?_, by omega, fun i hi => ⟨x, rfl, ?_⟩, hl, hm, fun h => by cases h⟩
    · rw [List.length_take]; simp at hz; omega
    · have hi' : i < m.length := by simp at hi; omega
      rw [hc i (by simpa using hi')]
      simp [List.getD, hi']
theorem rd8_of {w : World} {a : Option Addr} {len cap : Nat} {zs : List Int} (h : Opened .u8 w a len cap zs) :
    ∃ l : List UInt8, l.length = len ∧ len ≤ maxLen ∧ Rd w a (l.map b8) ∧ len ≤ cap ∧ cap ≤ maxLen ∧ (a = none → cap = 0) := rd_of n8 (fun _ => n8_of) h
theorem rd16_of {w : World} {a : Option Addr} {len cap : Nat} {zs : List Int} (h : Opened .u16 w a len cap zs) :
    ∃ l : List UInt16, l.length = len ∧ len ≤ maxLen ∧ Rd w a (l.map b16) ∧ len ≤ cap ∧ cap ≤ maxLen ∧ (a = none → cap = 0) := rd_of n16 (fun _ => n16_of) h
theorem rd64_of {w : World} {a : Option Addr} {len cap : Nat} {zs : List Int} (h : Opened .u64 w a len cap zs) :
    ∃ l : List UInt64, l.length = len ∧ len ≤ maxLen ∧ Rd w a (l.map b64) ∧ len ≤ cap ∧ cap ≤ maxLen ∧ (a = none → cap = 0) := rd_of n64 (fun _ => n64_of) h
theorem rdInt_of {w : World} {a : Option Addr} {len cap : Nat} {zs : List Int} (h : Opened .i64 w a len cap zs) :
    ∃ l : List Int, l.length = len ∧ len ≤ maxLen ∧ Rd w a (l.map fun c => Value.int .i64 c) ∧ len ≤ cap ∧ cap ≤ maxLen ∧ (a = none → cap = 0) := rd_of (fun c => c) (fun x _ => ⟨x, rfl⟩) h
end Go.Proofs.Ytiihllfjlgbfcaa
