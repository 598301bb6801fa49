/- The program's values: parsing, and the laws of package value, plainly. -/
import Derived.Test.YtfhlignhdnhmlaaDoorValA
set_option linter.unusedSimpArgs false
set_option linter.unusedVariables false
namespace Go.Proofs.YtfhlignhdnhmlaaDoor
open Go.RowKit

/-- A text less its per-cent sign. -/
def pct (s : List UInt8) : List UInt8 × Bool := if s.getLast? = some 37 then (s.dropLast, true) else (s, false)
theorem pct_snoc (t : List UInt8) : pct (t ++ [37]) = (t, true) := by simp [pct]
theorem pct_true {s : List UInt8} (h : (pct s).2 = true) : s = (pct s).1 ++ [37] := by
  unfold pct at h ⊢
  split at h
  · rename_i h'
    rw [if_pos h']
    obtain ⟨t, rfl⟩ := List.getLast?_eq_some_iff.1 h'
    simp
  · cases h
theorem pct_len (s : List UInt8) : (pct s).1.length ≤ s.length := by
  unfold pct
  split <;> simp
theorem last_get {s : List UInt8} (h : 0 < s.length) : s.getLast? = some (s[s.length - 1]'(by omega)) := by
  rw [List.getLast?_eq_getElem?, List.getElem?_eq_getElem (by omega)]
theorem tt_ne : ¬ tTrue = tFalse := by decide
/-- The place of s in a list, from i on. -/
def idx (s : List UInt8) : List (List UInt8) → Int → Int
  | [], _ => -1
  | x :: l, i => if s = x then i else idx s l (i + 1)
theorem idx_spec (s : List UInt8) : ∀ (l : List (List UInt8)) (i : Nat), (idx s l i = -1 ∧ ∀ (j : Nat), l[j]? ≠ some s) ∨ ∃ j : Nat, idx s l i = ((i + j : Nat) : Int) ∧ l[j]? = some s ∧ ∀ (q : Nat), l[q]? = some s → j ≤ q
  | [], i => .inl ⟨rfl, by simp⟩
  | x :: l, i => by
    unfold idx
    by_cases h : s = x
    · rw [if_pos h]
      exact .inr ⟨0, by simp, by simp [h], fun q _ => Nat.zero_le _⟩
    · rw [if_neg h]
      rcases idx_spec s l (i + 1) with ⟨h1, h2⟩ | ⟨j, h1, h2, h3⟩
      · refine .inl ⟨h1, fun j => ?_⟩
        cases j with
        | zero => simpa using fun e => h e.symm
        | succ j => simpa using h2 j
      · refine .inr ⟨j + 1, ?_, by simpa using h2, fun q hq => ?_⟩
        · have : ((i + 1 : Nat) : Int) = (i : Int) + 1 := by omega
          rw [this] at h1
          rw [h1]; omega
        · cases q with
          | zero => simp at hq; exact absurd hq.symm h
          | succ q => have := h3 q (by simpa using hq); omega
/-! ## Parse -/
def nmV (s : List UInt8) (k e : Int) (E : List EnT) : Int × Int :=
  if k = 1 then (if s = tFalse then (0, 0) else if s = tTrue then (1, 0) else (0, 2)) else if k = 2 then parseS s else if k = 3 then parseT 2 (sgn s).1 (sgn s).2
  else if k = 4 then (if (pct s).2 = true then parseT 4 (sgn (pct s).1).1 (sgn (pct s).1).2 else (0, 2)) else if k = 5 then parD s else if idx s (mem E e) 0 < 0 then (0, 6) else (idx s (mem E e) 0, 0)
def parV (s : List UInt8) (k e : Int) (E : List EnT) : (Int × Int × Int) × Int :=
  if vt k e E = false then ((0, 0, 0), 8) else if (nmV s k e E).2 ≠ 0 then ((0, 0, 0), (nmV s k e E).2) else if vv (nmV s k e E).1 k e E = false then ((0, 0, 0), 3) else ((k, e, (nmV s k e E).1), 0)
theorem parV_end {s : List UInt8} {k e n : Int} {E : List EnT} {c : Int} (hv : vt k e E = true) (hn : nmV s k e E = (n, c)) : parV s k e E = if c ≠ 0 then ((0, 0, 0), c) else if vv n k e E = false then ((0, 0, 0), 3) else ((k, e, n), 0) := by
  unfold parV
  rw [if_neg (by simp [hv]), hn]
theorem b37 {b : UInt8} : ((b.toNat : Int) != 37) = !decide (b = 37) := by
  by_cases h : b = 37
  · subst h; rfl
  · have : ¬ b.toNat = 37 := fun e => h (UInt8.toNat_inj.1 e)
    have h2 : ¬ ((b.toNat : Int) = 37) := by omega
    simp [h, bne, h2]
theorem vv_idx {s : List UInt8} {e : Int} {E : List EnT} (hv : vt 6 e E = true) (h : ¬ idx s (mem E e) 0 < 0) : vv (idx s (mem E e) 0) 6 e E = true := by
  rcases idx_spec s (mem E e) 0 with ⟨h1, _⟩ | ⟨j, h1, h2, _⟩
  · have : idx s (mem E e) 0 = -1 := h1
    omega
  · have hj : idx s (mem E e) 0 = (j : Int) := by simpa using h1
    have hlt := (List.getElem?_eq_some_iff.1 h2).1
    rw [hj]
    simp [vv, bd, hv]
    omega
end Go.Proofs.YtfhlignhdnhmlaaDoor
