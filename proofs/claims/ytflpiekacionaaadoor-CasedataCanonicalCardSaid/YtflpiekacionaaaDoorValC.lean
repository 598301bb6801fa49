/- The laws of package value, plainly. -/
import Derived.Test.YtflpiekacionaaaDoorValB
set_option linter.unusedSimpArgs false
set_option linter.unusedVariables false
namespace Go.Proofs.YtflpiekacionaaaDoor
open Go.RowKit

/-! ## Round trips -/
theorem conv_nbr {neg : Bool} {v : Nat} (h0 : -1000000000000000 ≤ nbr neg v) (h1 : nbr neg v ≤ 1000000000000000) : conv v neg = (nbr neg v, 0) := by
  have hv : v ≤ 4611686018427387904 := by
    cases neg <;> simp only [nbr, Bool.false_eq_true, if_false, if_true] at h0 h1 <;> omega
  unfold conv nbr
  rw [if_pos hv]
theorem parse_int_back {n : Int} (h0 : -1000000000000000 ≤ n) (h1 : n ≤ 1000000000000000) : parseS (itoaF n) = (n, 0) := by
  obtain ⟨neg, v, rfl, hp, e1, _⟩ := parse_format (n := n) (a1 := 0) (by omega) (by omega)
  rw [e1, conv_nbr h0 h1]
theorem parse_fix_back {n : Int} {a1 : Int} (ha : clampN a1 ≠ 0) (h0 : -1000000000000000 ≤ n) (h1 : n ≤ 1000000000000000) : parseT (clampN a1) (sgn (fixS (clampN a1) (itoaF n))).1 (sgn (fixS (clampN a1) (itoaF n))).2 = (n, 0) := by
  obtain ⟨neg, v, rfl, hp, _, e2⟩ := parse_format (n := n) (a1 := a1) (by omega) (by omega)
  rw [if_neg ha] at e2
  rw [e2, conv_nbr h0 h1]
theorem fmtV_ok {k e n : Int} {E : List EnT} (h : vv n k e E = true) : fmtV k e n E = ((if k = 1 then (if n = 1 then tTrue else tFalse) else if k = 2 then itoaF n else if k = 3 then fixS 2 (itoaF n) else if k = 4 then fixS 4 (itoaF n) ++ [37] else if k = 5 then fmtD n else (mem E e).getD n.toNat []), 0) := by
  unfold fmtV
  rw [if_neg (by simp [vv_vt h]), if_neg (by simp [h])]
theorem fmtV_code {k e n : Int} {E : List EnT} : (fmtV k e n E).2 = 0 ↔ vv n k e E = true := by
  constructor
  · intro h
    cases hv : vv n k e E with
    | true => rfl
    | false =>
      unfold fmtV at h
      split at h
      · simp at h
      · simp [hv] at h
  · intro h; rw [fmtV_ok h]
theorem fmtV_len {k e n : Int} {E : List EnT} (h6 : k ≠ 6) : (fmtV k e n E).1.length ≤ 100 := by
  unfold fmtV
  split
  · simp
  split
  · simp
  rename_i h1 h2
  have h2' : vv n k e E = true := by simpa using h2
  have hl := vt_lo (vv_vt h2')
  have i1 := itoaF_len n
  have i2 := fixS_len 2 (itoaF n)
  have i3 := fixS_len 4 (itoaF n)
  dsimp only
  split
  · split <;> simp [tTrue, tFalse]
  split
  · omega
  split
  · omega
  split
  · simp; omega
  rw [if_pos (by omega)]
  unfold fmtD
  split
  · have := padS_len (w := 4) (n := toY n) (by decide)
    have := padS_len (w := 2) (n := toM n) (by decide)
    have := padS_len (w := 2) (n := toD n) (by decide)
    simp; omega
  · simp
theorem rt {k e n : Int} {E : List EnT} (h : vv n k e E = true) : ∃ m, nmV (fmtV k e n E).1 k e E = (m, 0) ∧ (m = n ∨ (k = 6 ∧ 0 ≤ m ∧ m < n ∧ (mem E e).getD m.toNat [] = (fmtV k e n E).1)) := by
  rw [fmtV_ok h]
  have hl := vt_lo (vv_vt h)
  unfold nmV
  dsimp only
  by_cases h1 : k = 1
  · subst h1
    rcases bd_1 h with rfl | rfl
    · exact ⟨0, rfl, .inl rfl⟩
    · exact ⟨1, rfl, .inl rfl⟩
  rw [if_neg h1, if_neg h1]
  by_cases h2 : k = 2
  · subst h2
    have := bd_2 2 (by simp) h
    exact ⟨n, by simp [parse_int_back this.1 this.2], .inl rfl⟩
  rw [if_neg h2, if_neg h2]
  by_cases h3 : k = 3
  · subst h3
    have hb := bd_2 3 (by simp) h
    have := parse_fix_back (n := n) (a1 := 2) (by decide) hb.1 hb.2
    exact ⟨n, by rw [if_pos rfl, if_pos rfl]; exact this, .inl rfl⟩
  rw [if_neg h3, if_neg h3]
  by_cases h4 : k = 4
  · subst h4
    have hb := bd_2 4 (by simp) h
    have := parse_fix_back (n := n) (a1 := 4) (by decide) hb.1 hb.2
    refine ⟨n, ?_, .inl rfl⟩
    rw [if_pos rfl, if_pos rfl, pct_snoc, if_pos rfl]
    exact this
  rw [if_neg h4, if_neg h4]
  by_cases h5 : k = 5
  · subst h5
    exact ⟨n, by simp [fmtD_parse (bd_5 h)], .inl rfl⟩
  rw [if_neg h5, if_neg h5]
  have h6 : k = 6 := by omega
  subst h6
  obtain ⟨_, _, b3, b4⟩ := bd_6 h
  have hlt : n.toNat < (mem E e).length := by omega
  have hg : (mem E e).getD n.toNat [] = (mem E e)[n.toNat] := by rw [List.getD_eq_getElem?_getD, List.getElem?_eq_getElem hlt]; rfl
  rw [hg]
  have hg' := List.getElem?_eq_getElem hlt
  rcases idx_spec ((mem E e)[n.toNat]) (mem E e) 0 with ⟨_, h8⟩ | ⟨j, h8, h9, h10⟩
  · exact absurd hg' (h8 _)
  · have hj : idx ((mem E e)[n.toNat]) (mem E e) 0 = (j : Int) := by simpa using h8
    have hle := h10 _ hg'
    rw [hj, if_neg (by omega)]
    refine ⟨j, rfl, ?_⟩
    by_cases e' : j = n.toNat
    · left; omega
    · right
      refine ⟨rfl, by omega, by omega, ?_⟩
      rw [Int.toNat_natCast, List.getD_eq_getElem?_getD, h9]; rfl
theorem rt_parV {k e n : Int} {E : List EnT} (h : vv n k e E = true) : ∃ m, parV (fmtV k e n E).1 k e E = ((k, e, m), 0) ∧ (m = n ∨ (k = 6 ∧ 0 ≤ m ∧ m < n ∧ (mem E e).getD m.toNat [] = (fmtV k e n E).1)) := by
  obtain ⟨m, h1, h2⟩ := rt h
  refine ⟨m, ?_, h2⟩
  rw [parV_end (vv_vt h) h1, if_neg (by simp)]
  have : vv m k e E = true := by
    rcases h2 with rfl | ⟨rfl, h3, h4, _⟩
    · exact h
    · have hv := vv_vt h
      simp [vv, bd, hv] at h ⊢
      omega
  rw [if_neg (by simp [this])]
theorem cn {s : List UInt8} {k e : Int} {E : List EnT} (h : (parV s k e E).2 = 0) : ∃ n, parV s k e E = ((k, e, n), 0) ∧ vv n k e E = true ∧ (fmtV k e n E).1 = s := by
  cases hv : vt k e E with
  | false => simp [parV, hv] at h
  | true =>
  rcases hn : nmV s k e E with ⟨n, c⟩
  rw [parV_end hv hn] at h ⊢
  split at h
  · simp_all
  rename_i hc
  have hc : c = 0 := by simpa using hc
  subst hc
  split at h
  · simp at h
  rename_i hw
  have hw' : vv n k e E = true := by simpa using hw
  refine ⟨n, by simp [hw'], hw', ?_⟩
  rw [fmtV_ok hw']
  have hl := vt_lo hv
  unfold nmV at hn
  dsimp only
  by_cases h1 : k = 1
  · subst h1
    rw [if_pos rfl] at hn
    rw [if_pos rfl]
    split at hn
    · cases hn; rename_i e; rw [e]; rfl
    split at hn
    · cases hn; rename_i e; rw [e]; rfl
    · simp at hn
  rw [if_neg h1] at hn
  rw [if_neg h1]
  by_cases h2 : k = 2
  · subst h2
    rw [if_pos rfl] at hn
    rw [if_pos rfl]
    have := canon_int (s := s) (by rw [hn])
    rw [hn] at this
    exact this.1
  rw [if_neg h2] at hn
  rw [if_neg h2]
  by_cases h3 : k = 3
  · subst h3
    rw [if_pos rfl] at hn
    rw [if_pos rfl]
    have := canon_fix (s := s) (K := 2) (by decide) (by rw [hn])
    rw [hn] at this
    exact this.1
  rw [if_neg h3] at hn
  rw [if_neg h3]
  by_cases h4 : k = 4
  · subst h4
    rw [if_pos rfl] at hn
    rw [if_pos rfl]
    split at hn
    · rename_i hp
      have := canon_fix (s := (pct s).1) (K := 4) (by decide) (by rw [hn])
      rw [hn] at this
      rw [this.1]
      exact (pct_true hp).symm
    · simp at hn
  rw [if_neg h4] at hn
  rw [if_neg h4]
  by_cases h5 : k = 5
  · subst h5
    rw [if_pos rfl] at hn
    rw [if_pos rfl]
    exact (parD_ok hn).2
  rw [if_neg h5] at hn
  rw [if_neg h5]
  split at hn
  · simp at hn
  · rename_i hi
    simp only [Prod.mk.injEq, and_true] at hn
    subst hn
    rcases idx_spec s (mem E e) 0 with ⟨h8, _⟩ | ⟨j, h8, h9, _⟩
    · have : idx s (mem E e) 0 = -1 := h8
      omega
    · have hj : idx s (mem E e) 0 = (j : Int) := by simpa using h8
      rw [hj, Int.toNat_natCast, List.getD_eq_getElem?_getD, h9]; rfl
end Go.Proofs.YtflpiekacionaaaDoor
