/- Plain facts: the reading's combinators, machine integers, and the runes of a string. -/
import Derived.Test.YtmnedpfilckilaaExe
import Derived.Laws.RangeAny
set_option linter.unusedSimpArgs false
set_option linter.unusedVariables false
namespace Go.Proofs.Ytmnedpfilckilaa
open Go.RowKit

section
variable {ρ : Type}
theorem aIf_if {b : Bool} {x y : Option ρ} : aIf b x y = if b = true then x else y := by cases b <;> rfl
theorem aGd_if {b : Bool} {x : Option ρ} : aGd b x = if b = true then x else none := by cases b <;> rfl
theorem onSome_ok {α : Type} {x : α} {k : α → Option ρ} : onSome (some x) k = k x := rfl
theorem onSome_none {α : Type} {k : α → Option ρ} : onSome (none : Option α) k = none := rfl
theorem onSome_id {o : Option ρ} : (onSome o fun x => some x) = o := by cases o <;> rfl
theorem onGet_ok {α : Type} {l : List α} {i : Int} {k : α → Option ρ} (h0 : 0 ≤ i) (h1 : i < l.length) : onGet l i k = k (l[i.toNat]'(by omega)) := by
  unfold onGet
  rw [decide_eq_true h0]
  have : i.toNat < l.length := by omega
  simp [onSome, List.getElem?_eq_getElem this]
theorem onGet_nat {α : Type} {l : List α} {i : Nat} {k : α → Option ρ} (h1 : i < l.length) : onGet l (i : Int) k = k (l[i]'h1) := by
  rw [onGet_ok (by omega) (by omega)]; rfl
theorem onStr_ok {l : List UInt8} {k : List UInt8 → Option ρ} : onStr (.str l) k = k l := rfl
end
theorem w64 {x : Int} (h0 : -9223372036854775808 ≤ x) (h1 : x ≤ 9223372036854775807) : IntKind.i64.wrap x = x := by
  rw [IntKind.wrap_i64]; omega

/-- The rune at place i of l: its number, its width. -/
def dec (l : List UInt8) (i : Nat) : Nat × Nat := Utf8.decode ⟨l.toArray⟩ i
theorem get_list (l : List UInt8) (i : Nat) (h : i < l.length) : (ByteArray.mk l.toArray).get! i = l[i] := by
  show (ByteArray.mk l.toArray).data[i]! = _
  simp [h]
theorem dec_low {l : List UInt8} {i : Nat} (h : i < l.length) (hb : l[i].toNat < 128) : Utf8.decode ⟨l.toArray⟩ i = (l[i].toNat, 1) := by
  have e : (ByteArray.mk l.toArray).get! (i + 0) = l[i] := get_list l i h
  simp only [Utf8.decode, e, hb, if_true]
theorem dec_high {l : List UInt8} {i : Nat} (h : i < l.length) (hb : 128 ≤ l[i].toNat) :
    128 ≤ (Utf8.decode ⟨l.toArray⟩ i).1 ∧ 1 ≤ (Utf8.decode ⟨l.toArray⟩ i).2 ∧ (Utf8.decode ⟨l.toArray⟩ i).1 ≤ 2147483647 ∧ i + (Utf8.decode ⟨l.toArray⟩ i).2 ≤ l.length ∧
      ∀ j (hj : j < l.length), i ≤ j → j < i + (Utf8.decode ⟨l.toArray⟩ i).2 → 128 ≤ l[j].toNat := by
  have hs : (ByteArray.mk l.toArray).size = l.length := by simp [ByteArray.size]
  have e0 : (ByteArray.mk l.toArray).get! (i + 0) = l[i] := get_list l i h
  have hle := decode_le ⟨l.toArray⟩ i
  have hh := decode_high ⟨l.toArray⟩ i (by rw [hs]; exact h) (by show 128 ≤ UInt8.toNat (l.toArray[i]'(by simpa using h)); simpa using hb)
  refine ⟨hh.1, hh.2, hle, ?_⟩
  have key : ∀ k, i + k < l.length → ((ByteArray.mk l.toArray).get! (i + k)).toNat / 64 = 2 → ∀ (hj : i + k < l.length), 128 ≤ l[i + k].toNat := fun k hk h2 hj => by
    rw [get_list l _ hk] at h2; omega
  clear hle hh
  have hn : ¬ l[i].toNat < 128 := by omega
  simp only [Utf8.decode, e0, hn, if_false, hs]
  have one : i + 1 ≤ l.length ∧ ∀ j (hj : j < l.length), i ≤ j → j < i + 1 → 128 ≤ l[j].toNat := ⟨by omega, fun j hj h1 h2 => by
    obtain rfl : j = i := by omega
    exact hb⟩
  have wide : ∀ m, (∀ k, 1 ≤ k → k < m → i + k < l.length ∧ ((ByteArray.mk l.toArray).get! (i + k)).toNat / 64 = 2) → 1 ≤ m → m ≤ 4 → i + m ≤ l.length ∧ ∀ j (hj : j < l.length), i ≤ j → j < i + m → 128 ≤ l[j].toNat := by
    intro m hm h1 h4
    refine ⟨?_, fun j hj h5 h6 => ?_⟩
    · rcases Nat.lt_or_ge 1 m with h7 | h7
      · have := (hm (m - 1) (by omega) (by omega)).1; omega
      · omega
    · rcases Nat.eq_or_lt_of_le h5 with rfl | h7
      · exact hb
      · obtain ⟨q, rfl⟩ : ∃ q, j = i + q := ⟨j - i, by omega⟩
        exact key q (hm q (by omega) (by omega)).1 (hm q (by omega) (by omega)).2 hj
  repeat' split
  all_goals first
    | exact one
    | (rename_i hc _; simp only [Bool.and_eq_true, decide_eq_true_eq, beq_iff_eq] at hc
       refine wide _ (fun k h1 h2 => ?_) (by omega) (by omega)
       dsimp only at h2
       have : k = 1 ∨ k = 2 ∨ k = 3 := by omega
       rcases this with rfl | rfl | rfl <;> first | (exact ⟨hc.2.1, hc.2.2⟩) | (exact ⟨hc.1.2.1, hc.1.2.2⟩) | (exact ⟨hc.1.1.2.1, hc.1.1.2.2⟩) | omega)
end Go.Proofs.Ytmnedpfilckilaa
