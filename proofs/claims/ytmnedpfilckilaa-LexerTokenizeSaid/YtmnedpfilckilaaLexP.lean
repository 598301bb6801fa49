/- A word between blanks in a text of words between blanks; plainly. -/
import Derived.Test.YtmnedpfilckilaaRune
import Derived.Test.YtmnedpfilckilaaShelf
set_option linter.unusedSimpArgs false
set_option linter.unusedVariables false
namespace Go.Proofs.Ytmnedpfilckilaa
open Go.RowKit

/-- Words, a blank ahead of each and behind the last. -/
def tx : List (List UInt8) → List UInt8
  | [] => [32]
  | w :: ws => 32 :: w ++ tx ws
theorem tx_head : ∀ ws, ∃ r, tx ws = 32 :: r
  | [] => ⟨[], rfl⟩
  | w :: ws => ⟨w ++ tx ws, rfl⟩
theorem contains_cons (b : UInt8) (l sub : List UInt8) : Lib.contains (b :: l) sub = (sub.isPrefixOf (b :: l) || Lib.contains l sub) := by
  unfold Lib.contains
  rw [Lib.index]
  cases h : sub.isPrefixOf (b :: l) with
  | true => simp
  | false =>
    have hge : -1 ≤ Lib.index l sub := by
      generalize hl : l = m
      clear hl h
      induction m with
      | nil => unfold Lib.index; split <;> decide
      | cons c m ih => unfold Lib.index; split
                       · decide
                       · split
                         · decide
                         · omega
    by_cases h1 : Lib.index l sub = -1
    · simp [h1]
    · have h2 : ¬ (Lib.index l sub == -1) = true := by simpa using h1
      rw [if_neg (by simp), if_neg h2]
      have : (0 ≤ Lib.index l sub + 1) ↔ (0 ≤ Lib.index l sub) := by omega
      simp [this]
theorem contains_skip {u : List UInt8} : ∀ {w : List UInt8} (l : List UInt8), (32 : UInt8) ∉ w → Lib.contains (w ++ l) (32 :: u) = Lib.contains l (32 :: u)
  | [], l, _ => rfl
  | b :: w, l, h => by
    simp only [List.mem_cons, not_or] at h
    rw [List.cons_append, contains_cons, contains_skip l h.2]
    have : (32 :: u).isPrefixOf (b :: (w ++ l)) = false := by
      simp [List.isPrefixOf, h.1]
    rw [this, Bool.false_or]
theorem prefix_word : ∀ {s w : List UInt8} (r : List UInt8), (32 : UInt8) ∉ s → (32 : UInt8) ∉ w → (s ++ [32]).isPrefixOf (w ++ 32 :: r) = decide (s = w)
  | [], [], r, _, _ => by simp [List.isPrefixOf]
  | [], c :: w, r, _, h => by
    simp only [List.mem_cons, not_or] at h
    simp [List.isPrefixOf, h.1]
  | b :: s, [], r, h, _ => by
    simp only [List.mem_cons, not_or] at h
    have : ¬ b = 32 := fun e => h.1 e.symm
    simp [List.isPrefixOf, this]
  | b :: s, c :: w, r, h, h2 => by
    simp only [List.mem_cons, not_or] at h h2
    have ih := prefix_word (s := s) (w := w) r h.2 h2.2
    simp only [List.cons_append, List.isPrefixOf]
    rw [ih]
    by_cases e : b = c <;> simp [e]
theorem contains_tx {s : List UInt8} (hs : (32 : UInt8) ∉ s) (hne : s ≠ []) : ∀ {ws : List (List UInt8)}, (∀ w ∈ ws, (32 : UInt8) ∉ w) → Lib.contains (tx ws) (32 :: (s ++ [32])) = decide (s ∈ ws)
  | [], _ => by
    rw [tx, contains_cons]
    cases s with
    | nil => exact absurd rfl hne
    | cons b s => simp [List.isPrefixOf, Lib.contains, Lib.index]
  | w :: ws, h => by
    have hw := h w (by simp)
    obtain ⟨r, hr⟩ := tx_head ws
    rw [tx, List.cons_append, contains_cons, contains_skip _ hw, contains_tx hs hne (fun x hx => h x (by simp [hx])), hr]
    have : (32 :: (s ++ [32])).isPrefixOf (32 :: (w ++ 32 :: r)) = decide (s = w) := by
      rw [List.isPrefixOf]
      simp only [beq_self_eq_true, Bool.true_and]
      exact prefix_word r hs hw
    rw [this]
    by_cases e : s = w <;> simp [e]
end Go.Proofs.Ytmnedpfilckilaa
