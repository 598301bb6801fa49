/- The program's values: parsing, and the laws of package value, plainly. -/
import Derived.Test.YtflpiekacionaaaDoorValA
set_option linter.unusedSimpArgs false
set_option linter.unusedVariables false
namespace Go.Proofs.YtflpiekacionaaaDoor
open Go.RowKit

/-- A text less its per-cent sign. -/
def pct (s : List UInt8) : List UInt8 × Bool := if s.getLast? = some 37 then (s.dropLast, true) else (s, false)
theorem pct_snoc (t : List UInt8) : pct (t ++ [37]) = (t, true) := by simp [pct]
theorem pct_true {s : List UInt8} (h : (pct s).2 = true) : s = (pct s).1 ++ [37] := by
  unfold pct at h ⊢
  split at h
  · rename_i h'
    rw [if_pos h']
    obtain ⟨t, rfl⟩ := List.getLast?_eq_some_iff.1 h'
    simp
  · cases h
theorem pct_len (s : List UInt8) : (pct s).1.length ≤ s.length := by
  unfold pct
  split <;> simp
theorem last_get {s : List UInt8} (h : 0 < s.length) : s.getLast? = some (s[s.length - 1]'(by omega)) := by
  rw [List.getLast?_eq_getElem?, List.getElem?_eq_getElem (by omega)]
theorem F127_v {N : Nat} {s : List UInt8} (hs : s.length ≤ 1000000) : F127 N (s, [37]) = some (pct s) := by
  rw [F127_eq, F144_eq, F153_eq]
  simp only [aIf_if, aGd_if, List.length_singleton, Int.ofNat_eq_natCast]
  by_cases h0 : s.length = 0
  · have : s = [] := List.eq_nil_of_length_eq_zero h0
    subst this
    simp [onSome_ok, pct]
  have hw : IntKind.i64.wrap ((s.length : Int) - ((1 : Nat) : Int)) = ((s.length - 1 : Nat) : Int) := by rw [w64 (by omega) (by omega)]; omega
  rw [if_pos (by simp; omega)]
  simp only [hw, Int.toNat_natCast, onSome_ok, List.take_length, List.drop_zero]
  rw [if_pos (by simp), if_pos (by simp)]
  simp only [onSome_ok]
  have hd : s.drop (s.length - 1) = [s[s.length - 1]'(by omega)] := by
    rw [List.drop_eq_getElem_cons (by omega), List.drop_eq_nil_of_le (by omega)]
  rw [hd, pct, last_get (by omega)]
  by_cases hc : s[s.length - 1]'(by omega) = 37
  · simp [hc, onSome_ok, List.dropLast_eq_take]
  · simp [hc, onSome_ok]

theorem tt_ne : ¬ tTrue = tFalse := by decide
/-- The place of s in a list, from i on. -/
def idx (s : List UInt8) : List (List UInt8) → Int → Int
  | [], _ => -1
  | x :: l, i => if s = x then i else idx s l (i + 1)
theorem idx_spec (s : List UInt8) : ∀ (l : List (List UInt8)) (i : Nat), (idx s l i = -1 ∧ ∀ (j : Nat), l[j]? ≠ some s) ∨ ∃ j : Nat, idx s l i = ((i + j : Nat) : Int) ∧ l[j]? = some s ∧ ∀ (q : Nat), l[q]? = some s → j ≤ q
  | [], i => .inl ⟨rfl, by simp⟩
  | x :: l, i => by
    unfold idx
    by_cases h : s = x
    · rw [if_pos h]
      exact .inr ⟨0, by simp, by simp [h], fun q _ => Nat.zero_le _⟩
    · rw [if_neg h]
      rcases idx_spec s l (i + 1) with ⟨h1, h2⟩ | ⟨j, h1, h2, h3⟩
      · refine .inl ⟨h1, fun j => ?_⟩
        cases j with
        | zero => simpa using fun e => h e.symm
        | succ j => simpa using h2 j
      · refine .inr ⟨j + 1, ?_, by simpa using h2, fun q hq => ?_⟩
        · have : ((i + 1 : Nat) : Int) = (i : Int) + 1 := by omega
          rw [this] at h1
          rw [h1]; omega
        · cases q with
          | zero => simp at hq; exact absurd hq.symm h
          | succ q => have := h3 q (by simpa using hq); omega
theorem L81_v {N : Nat} {s : List UInt8} {l : List (List UInt8)} (hl : l.length ≤ 1000000) : ∀ (k n p : Nat), l.length - p = k → p ≤ l.length → k < n → L81_2 N n (l.map .str) s (l.length : Int) (p : Int) = some (idx s (l.drop p) p) := by
  intro k
  induction k with
  | zero =>
    intro n p hk hp hn
    obtain ⟨n, rfl⟩ : ∃ m, n = m + 1 := ⟨n - 1, by omega⟩
    rw [L81_2_eq, aIf_if, if_neg (by simp; omega), List.drop_eq_nil_of_le (by omega)]; rfl
  | succ k ih =>
    intro n p hk hp hn
    obtain ⟨n, rfl⟩ : ∃ m, n = m + 1 := ⟨n - 1, by omega⟩
    have hlt : p < l.length := by omega
    rw [L81_2_eq, aIf_if, if_pos (by simp; omega), onGet_nat (by simpa using hlt), w64 (by omega) (by omega)]
    simp only [List.getElem_map, onStr_ok, aIf_if, beq_iff_eq]
    rw [List.drop_eq_getElem_cons hlt, idx]
    by_cases h : s = l[p]
    · rw [if_pos h, if_pos h]
    · rw [if_neg h, if_neg h]
      have := ih n (p + 1) (by omega) (by omega) (by omega)
      rw [show ((p + 1 : Nat) : Int) = (p : Int) + 1 by omega] at this
      exact this
theorem F81_v {N : Nat} {s : List UInt8} {l : List (List UInt8)} (hl : l.length ≤ 1000000) (hN : l.length < N) : F81 N (l.map .str, s) = some (idx s l 0) := by
  rw [F81_eq]
  have := L81_v (N := N) (s := s) hl l.length N 0 (by omega) (by omega) (by omega)
  simpa using this

/-! ## Parse -/
def nmV (s : List UInt8) (k e : Int) (E : List EnT) : Int × Int :=
  if k = 1 then (if s = tFalse then (0, 0) else if s = tTrue then (1, 0) else (0, 2)) else if k = 2 then parseS s else if k = 3 then parseT 2 (sgn s).1 (sgn s).2
  else if k = 4 then (if (pct s).2 = true then parseT 4 (sgn (pct s).1).1 (sgn (pct s).1).2 else (0, 2)) else if k = 5 then parD s else if idx s (mem E e) 0 < 0 then (0, 6) else (idx s (mem E e) 0, 0)
def parV (s : List UInt8) (k e : Int) (E : List EnT) : (Int × Int × Int) × Int :=
  if vt k e E = false then ((0, 0, 0), 8) else if (nmV s k e E).2 ≠ 0 then ((0, 0, 0), (nmV s k e E).2) else if vv (nmV s k e E).1 k e E = false then ((0, 0, 0), 3) else ((k, e, (nmV s k e E).1), 0)
theorem F112_v {N : Nat} {s : List UInt8} {k e : Int} {E : List EnT} (hE : few E) (hN : 300 < N) (hs : k ≠ 6 → s.length < N ∧ s.length ≤ 1000000) (hv : vt k e E = true) : F112 N (s, (k, e), ensPV E) = some (nmV s k e E) := by
  rw [F112_eq, nmV]
  simp only [aIf_if, beq_iff_eq]
  by_cases h1 : k = 1
  · simp only [h1, if_true]
    show (if s = tFalse then _ else if s = tTrue then _ else _) = _
    by_cases a : s = tFalse
    · simp [a]
    · by_cases b : s = tTrue <;> simp [a, b, tt_ne]
  by_cases h2 : k = 2
  · have hs := hs (by omega)
    simp [h1, h2, F51_parse (N := N) (l := s) (by omega), onSome_ok]
  by_cases h3 : k = 3
  · have hs := hs (by omega)
    simp [h1, h2, h3, F126_parse (N := N) (l := s) (a1 := 2) (by omega) (by omega), onSome_ok]; rfl
  by_cases h4 : k = 4
  · have hs := hs (by omega)
    have hp := pct_len s
    simp only [h1, h2, h3, h4, if_false, if_true]
    rw [if_neg (by decide), if_neg (by decide), if_neg (by decide), if_neg (by decide), if_neg (by decide), if_neg (by decide), F127_v (by omega), onSome_ok, F126_parse (N := N) (a1 := 4) (by omega) (by omega), onSome_ok]
    cases (pct s).2 <;> simp
    rfl
  by_cases h5 : k = 5
  · simp [h1, h2, h3, h4, h5, F60_d hN, onSome_ok]
  have hl := vt_lo hv
  have h6 : k = 6 := by omega
  subst h6
  obtain ⟨h0, h7⟩ := vt_6 hv
  have hm := few_mem hE e
  simp only [h1, h2, h3, h4, h5, if_false]
  rw [onEn h0 h7, F81_v (by omega) (by omega), onSome_ok]
  simp
  split <;> rfl
theorem parV_end {s : List UInt8} {k e n : Int} {E : List EnT} {c : Int} (hv : vt k e E = true) (hn : nmV s k e E = (n, c)) : parV s k e E = if c ≠ 0 then ((0, 0, 0), c) else if vv n k e E = false then ((0, 0, 0), 3) else ((k, e, n), 0) := by
  unfold parV
  rw [if_neg (by simp [hv]), hn]
theorem F91_v {N : Nat} {s : List UInt8} {k e : Int} {E : List EnT} (hE : few E) (hN : 300 < N) (hs : k ≠ 6 → s.length < N ∧ s.length ≤ 1000000) : F91 N (s, (k, e), ensPV E) = some (parV s k e E) := by
  rw [F91_eq, F107_v, onSome_ok]
  simp only [aIf_if, aGd_if]
  cases hv : vt k e E with
  | false => simp [parV, hv]
  | true =>
    rw [if_neg (by simp), F112_v hE hN hs hv, onSome_ok, F113_v hE, onSome_ok]
    rcases hn : nmV s k e E with ⟨n, c⟩
    rw [parV_end hv hn]
    by_cases hc : c = 0
    · subst hc
      cases hw : vv n k e E <;> simp [hw]
    · simp [hc]
theorem b37 {b : UInt8} : ((b.toNat : Int) != 37) = !decide (b = 37) := by
  by_cases h : b = 37
  · subst h; rfl
  · have : ¬ b.toNat = 37 := fun e => h (UInt8.toNat_inj.1 e)
    have h2 : ¬ ((b.toNat : Int) = 37) := by omega
    simp [h, bne, h2]
theorem vv_idx {s : List UInt8} {e : Int} {E : List EnT} (hv : vt 6 e E = true) (h : ¬ idx s (mem E e) 0 < 0) : vv (idx s (mem E e) 0) 6 e E = true := by
  rcases idx_spec s (mem E e) 0 with ⟨h1, _⟩ | ⟨j, h1, h2, _⟩
  · have : idx s (mem E e) 0 = -1 := h1
    omega
  · have hj : idx s (mem E e) 0 = (j : Int) := by simpa using h1
    have hlt := (List.getElem?_eq_some_iff.1 h2).1
    rw [hj]
    simp [vv, bd, hv]
    omega
end Go.Proofs.YtflpiekacionaaaDoor
