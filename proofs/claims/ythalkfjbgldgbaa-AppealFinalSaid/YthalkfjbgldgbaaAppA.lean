/- Appeals: final states are never left, and are reached in two steps at most; plainly. -/
import Derived.Test.YthalkfjbgldgbaaRd
import Derived.Test.YthalkfjbgldgbaaRune
set_option linter.unusedSimpArgs false
set_option linter.unusedVariables false
namespace Go.Proofs.Ythalkfjbgldgbaa
open Go.RowKit

theorem beq_dec (a b : Int) : (a == b) = decide (a = b) := by by_cases h : a = b <;> simp [h]
abbrev Apl := Int × Int × Int × Int × Int × Int × Int
def perm (st s : Int) : Bool := if s = 2 then decide (st = 1) else if s = 3 then decide (st = 2) else if s = 4 ∨ s = 5 then decide (st = 1 ∨ st = 2) else false
theorem perm_true {st s : Int} (h : perm st s = true) : (s = 2 ∧ st = 1) ∨ (s = 3 ∧ st = 2) ∨ ((s = 4 ∨ s = 5) ∧ (st = 1 ∨ st = 2)) := by
  unfold perm at h
  split at h
  · exact .inl ⟨by assumption, by simpa using h⟩
  · split at h
    · exact .inr (.inl ⟨by assumption, by simpa using h⟩)
    · split at h
      · exact .inr (.inr ⟨by assumption, by simpa using h⟩)
      · cases h
theorem F43_v (N : Nat) (st s : Int) : F43 N (st, s) = some (perm st s) := by
  rw [F43_eq]
  simp only [aIf_if, beq_iff_eq, perm]
  by_cases h2 : s = 2
  · rw [if_pos h2, if_pos h2]; simp [beq_dec]
  by_cases h3 : s = 3
  · rw [if_neg h2, if_neg h2, if_pos h3, if_pos h3]; simp [beq_dec]
  by_cases h4 : s = 4
  · subst h4; simp; split <;> simp_all [beq_dec]
  by_cases h5 : s = 5
  · subst h5; simp; split <;> simp_all [beq_dec]
  · simp [h2, h3, h4, h5]
def moved (A : Apl) (s c : Int) : Apl := (A.1, A.2.1, A.2.2.1, A.2.2.2.1, A.2.2.2.2.1, s, c)
theorem F26_v (N : Nat) (A : Apl) (s c d : Int) : (∃ y, F26 N (A, s, c, d) = some y ∧ y.2 ≠ 0) ∨
    (F26 N (A, s, c, d) = some (moved A s c, 0) ∧ perm A.2.2.2.2.2.1 s = true ∧ 0 ≤ c ∧ c ≤ 1000000000000000 ∧ (c = 0 ∨ s = 3)) := by
  rw [F26_eq, F43_v, onSome_ok]
  simp only [aIf_if, aGd_if, decide_eq_true_eq, beq_iff_eq, bne_iff_ne, ne_eq, Bool.not_eq_true', Nat.reduceAdd, Nat.reduceLeDiff, Nat.le_refl, if_true]
  cases hp : perm A.2.2.2.2.2.1 s with
  | false => exact .inl ⟨_, by rw [if_pos rfl], by simp⟩
  | true =>
    rw [if_neg (by simp)]
    by_cases h1 : d < A.2.2.2.1
    · exact .inl ⟨_, by rw [if_pos h1], by simp⟩
    rw [if_neg h1]
    have rest : ∀ (X : Option (Apl × Int)), X = (if c < 0 then some ((0, 0, 0, 0, 0, 0, 0), 3) else if 1000000000000000 < c then some ((0, 0, 0, 0, 0, 0, 0), 3) else if ¬ c = 0 then (if ¬ s = 3 then some ((0, 0, 0, 0, 0, 0, 0), 3) else some (moved A s c, 0)) else some (moved A s c, 0)) →
        (∃ y, X = some y ∧ y.2 ≠ 0) ∨ (X = some (moved A s c, 0) ∧ true = true ∧ 0 ≤ c ∧ c ≤ 1000000000000000 ∧ (c = 0 ∨ s = 3)) := by
      intro X hX
      by_cases h2 : c < 0
      · rw [if_pos h2] at hX; exact .inl ⟨_, hX, by simp⟩
      by_cases h3 : 1000000000000000 < c
      · rw [if_neg h2, if_pos h3] at hX; exact .inl ⟨_, hX, by simp⟩
      by_cases h4 : c = 0
      · rw [if_neg h2, if_neg h3, if_neg (by simp [h4])] at hX; exact .inr ⟨hX, rfl, by omega, by omega, .inl h4⟩
      by_cases h5 : s = 3
      · rw [if_neg h2, if_neg h3, if_pos h4, if_neg (by simp [h5])] at hX; exact .inr ⟨hX, rfl, by omega, by omega, .inr h5⟩
      · rw [if_neg h2, if_neg h3, if_pos h4, if_pos h5] at hX; exact .inl ⟨_, hX, by simp⟩
    by_cases h6 : A.2.2.2.2.1 < d
    · rw [if_pos h6]
      by_cases h7 : s = 2
      · exact .inl ⟨_, by rw [if_pos h7], by simp⟩
      by_cases h8 : s = 3
      · exact .inl ⟨_, by rw [if_neg h7, if_pos h8], by simp⟩
      · rw [if_neg h7, if_neg h8]; exact rest _ rfl
    · rw [if_neg h6]; exact rest _ rfl
theorem F30_v (N : Nat) (A : Apl) : F30 N (A.1, A.2.1, A.2.2.1, A.2.2.2.1, A.2.2.2.2.1, A.2.2.2.2.2.1, A.2.2.2.2.2.2) = some (decide (3 ≤ A.2.2.2.2.2.1 ∧ A.2.2.2.2.2.1 ≤ 6)) := by
  rw [F30_eq]
  simp only [aIf_if, decide_eq_true_eq]
  by_cases h : 3 ≤ A.2.2.2.2.2.1 <;> simp [h]
def okA (N : Nat) (A : Apl) : Prop := F28 N (A.1, A.2.1, A.2.2.1, A.2.2.2.1, A.2.2.2.2.1, A.2.2.2.2.2.1, A.2.2.2.2.2.2) = some true
/-- A move keeps an appeal valid. -/
theorem okA_moved {N : Nat} {A : Apl} {s c : Int} (h : okA N A) (hs : 2 ≤ s ∧ s ≤ 5) (h0 : 0 ≤ c) (h1 : c ≤ 1000000000000000) (h2 : c = 0 ∨ s = 3) : okA N (moved A s c) := by
  unfold okA moved at *
  rw [F28_eq] at h ⊢
  simp only [aIf_if, decide_eq_true_eq, beq_iff_eq] at h ⊢
  split at h
  · cases h
  rename_i g1
  rw [if_neg g1]
  simp only [onSome_some] at h ⊢
  obtain ⟨y, hy, h⟩ := h
  refine ⟨y, hy, ?_⟩
  split at h
  · cases h
  rename_i g2
  rw [if_neg g2]
  split at h
  · cases h
  rename_i g3
  rw [if_neg g3]
  split at h
  · cases h
  rename_i g4
  rw [if_neg g4]
  split at h
  · cases h
  rename_i g5
  rw [if_neg g5, if_neg (by omega), if_neg (by omega)]
  by_cases hc : c = 0
  · rw [if_pos hc]
  · rw [if_neg hc, if_pos (by omega), if_pos (by omega)]
    simp; omega
/-- After n moves. -/
def stage (n st : Int) : Prop := n = 0 ∨ (n = 1 ∧ 2 ≤ st ∧ st ≤ 5) ∨ (n = 2 ∧ 3 ≤ st ∧ st ≤ 5)
theorem L10_end {N f : Nat} {cts d n : Int} {A : Apl} {s0 s1 s2 : Int} (hn : stage n A.2.2.2.2.2.1) :
    L10_5 N (f + 1) cts d n 3 A.1 A.2.1 A.2.2.1 A.2.2.2.1 A.2.2.2.2.1 A.2.2.2.2.2.1 A.2.2.2.2.2.2 s0 s1 s2 = some true := by
  rw [L10_5_eq, aIf_if, if_neg (by simp)]
  simp only [F30_v, onSome_ok, aIf_if, decide_eq_true_eq]
  unfold stage at hn
  rw [if_pos (by omega)]
  by_cases h : n < 2
  · rw [if_pos h]
  · rw [if_neg h, if_pos (by omega)]
theorem L10_one {N f i : Nat} {cts d n s : Int} {A : Apl} {s0 s1 s2 : Int} (hi : i < 3) (hs : ([.int .i64 s0, .int .i64 s1, .int .i64 s2] : List PV)[i]? = some (.int .i64 s)) (hA : okA N A) (hn : stage n A.2.2.2.2.2.1)
    (ih : ∀ (B : Apl) (n : Int), okA N B → stage n B.2.2.2.2.2.1 → L10_5 N f cts d n ((i + 1 : Nat) : Int) B.1 B.2.1 B.2.2.1 B.2.2.2.1 B.2.2.2.2.1 B.2.2.2.2.2.1 B.2.2.2.2.2.2 s0 s1 s2 = some true) :
    L10_5 N (f + 1) cts d n (i : Int) A.1 A.2.1 A.2.2.1 A.2.2.2.1 A.2.2.2.2.1 A.2.2.2.2.2.1 A.2.2.2.2.2.2 s0 s1 s2 = some true := by
  rw [L10_5_eq, aIf_if, if_pos (by simp; omega)]
  have e : 0 + Int.toNat (i : Int) * 1 = i := by omega
  have w1 : IntKind.i64.wrap ((i : Int) + 1) = ((i + 1 : Nat) : Int) := by rw [w64 (by omega) (by omega)]; omega
  have oi : ∀ {ρ : Type} {k : Int → Option ρ}, onInt .i64 (.int .i64 s) k = k s := fun {ρ k} => by simp [onInt, aGd]
  have g1 : decide ((0 : Int) ≤ (i : Int)) = true := by simp
  have g2 : decide ((i : Int) < 3) = true := by simp; omega
  simp only [e, hs, onSome_ok, oi, w1, g1, g2, aGd_if, if_true]
  rcases F26_v N A s (IntKind.i64.wrap (cts * (IntKind.i64.wrap (s.tdiv 3)).tmod 2)) d with ⟨y, hy, hne⟩ | ⟨hy, hp, hc0, hc1, hc2⟩
  · have hy' : F26 N ((A.1, A.2.1, A.2.2.1, A.2.2.2.1, A.2.2.2.2.1, A.2.2.2.2.2.1, A.2.2.2.2.2.2), s, IntKind.i64.wrap (cts * (IntKind.i64.wrap (s.tdiv 3)).tmod 2), d) = some y := hy
    rw [hy', onSome_ok]
    simp only [aIf_if]
    rw [if_pos (by simp), if_pos (by simpa using hne)]
    exact ih A n hA hn
  · have hy' : F26 N ((A.1, A.2.1, A.2.2.1, A.2.2.2.1, A.2.2.2.2.1, A.2.2.2.2.2.1, A.2.2.2.2.2.2), s, IntKind.i64.wrap (cts * (IntKind.i64.wrap (s.tdiv 3)).tmod 2), d) = some (moved A s _, 0) := hy
    have hs2 := perm_true hp
    have hB := okA_moved hA (s := s) (by omega) hc0 hc1 hc2
    have hB' : F28 N ((moved A s (IntKind.i64.wrap (cts * (IntKind.i64.wrap (s.tdiv 3)).tmod 2))).1, (moved A s (IntKind.i64.wrap (cts * (IntKind.i64.wrap (s.tdiv 3)).tmod 2))).2.1, (moved A s (IntKind.i64.wrap (cts * (IntKind.i64.wrap (s.tdiv 3)).tmod 2))).2.2.1, (moved A s (IntKind.i64.wrap (cts * (IntKind.i64.wrap (s.tdiv 3)).tmod 2))).2.2.2.1, (moved A s (IntKind.i64.wrap (cts * (IntKind.i64.wrap (s.tdiv 3)).tmod 2))).2.2.2.2.1, (moved A s (IntKind.i64.wrap (cts * (IntKind.i64.wrap (s.tdiv 3)).tmod 2))).2.2.2.2.2.1, (moved A s (IntKind.i64.wrap (cts * (IntKind.i64.wrap (s.tdiv 3)).tmod 2))).2.2.2.2.2.2) = some true := hB
    generalize IntKind.i64.wrap (cts * (IntKind.i64.wrap (s.tdiv 3)).tmod 2) = c at *
    have hn' := hn
    unfold stage at hn'
    have hfin : ¬ (3 ≤ A.2.2.2.2.2.1 ∧ A.2.2.2.2.2.1 ≤ 6) := by omega
    rw [hy', onSome_ok]
    simp only [aIf_if, aGd_if, F30_v, onSome_ok, hB', decide_eq_true_eq]
    have wn : IntKind.i64.wrap (n + 1) = n + 1 := w64 (by omega) (by omega)
    rw [if_pos (by simp), if_neg (by simp), if_neg hfin, if_neg (by simp), wn]
    have c1 : (moved A s c).1 = A.1 := rfl
    have c2 : (moved A s c).2.1 = A.2.1 := rfl
    have c3 : (moved A s c).2.2.1 = A.2.2.1 := rfl
    have c4 : (moved A s c).2.2.2.1 = A.2.2.2.1 := rfl
    have c5 : (moved A s c).2.2.2.2.1 = A.2.2.2.2.1 := rfl
    have c6 : (moved A s c).2.2.2.2.2.1 = s := rfl
    have fin := ih (moved A s c) (n + 1) hB (by unfold stage; rw [c6]; omega)
    simpa [c1, c2, c3, c4, c5, c6] using fin
theorem months_some (N : Nat) (a b : Int) : ∃ y, F38 N (a, b) = some y := by
  rw [F38_eq]
  simp only [aIf_if]
  repeat' split
  all_goals exact ⟨_, rfl⟩
theorem valid_some (N : Nat) (A : Apl) : ∃ b, F28 N (A.1, A.2.1, A.2.2.1, A.2.2.2.1, A.2.2.2.2.1, A.2.2.2.2.2.1, A.2.2.2.2.2.2) = some b := by
  obtain ⟨y, hy⟩ := months_some N A.2.1 A.2.2.1
  rw [F28_eq, hy]
  simp only [aIf_if, onSome_ok]
  repeat' split
  all_goals exact ⟨_, rfl⟩
theorem F10_true (A : Apl) (T : Int × Int × Int) (cts d : Int) : F10 400 (A, T, cts, d) = some true := by
  rw [F10_eq]
  have hv : ∃ b, F28 400 (A.1, A.2.1, A.2.2.1, A.2.2.2.1, A.2.2.2.2.1, A.2.2.2.2.2.1, A.2.2.2.2.2.2) = some b := valid_some 400 A
  obtain ⟨b, hb⟩ := hv
  rw [hb, onSome_ok, aIf_if]
  cases b with
  | false => rfl
  | true =>
    rw [if_neg (by simp)]
    have h3 : ∀ (B : Apl) (n : Int), okA 400 B → stage n B.2.2.2.2.2.1 → L10_5 400 397 cts d n ((2 + 1 : Nat) : Int) B.1 B.2.1 B.2.2.1 B.2.2.2.1 B.2.2.2.2.1 B.2.2.2.2.2.1 B.2.2.2.2.2.2 T.1 T.2.1 T.2.2 = some true := fun B n _ hn => L10_end (f := 396) hn
    have h2 : ∀ (B : Apl) (n : Int), okA 400 B → stage n B.2.2.2.2.2.1 → L10_5 400 398 cts d n ((1 + 1 : Nat) : Int) B.1 B.2.1 B.2.2.1 B.2.2.2.1 B.2.2.2.2.1 B.2.2.2.2.2.1 B.2.2.2.2.2.2 T.1 T.2.1 T.2.2 = some true := fun B n hB hn => L10_one (f := 397) (i := 2) (s := T.2.2) (by decide) rfl hB hn h3
    have h1 : ∀ (B : Apl) (n : Int), okA 400 B → stage n B.2.2.2.2.2.1 → L10_5 400 399 cts d n ((0 + 1 : Nat) : Int) B.1 B.2.1 B.2.2.1 B.2.2.2.1 B.2.2.2.2.1 B.2.2.2.2.2.1 B.2.2.2.2.2.2 T.1 T.2.1 T.2.2 = some true := fun B n hB hn => L10_one (f := 398) (i := 1) (s := T.2.1) (by decide) rfl hB hn h2
    exact L10_one (f := 399) (i := 0) (s := T.1) (by decide) rfl hb (.inl rfl) h1
end Go.Proofs.Ythalkfjbgldgbaa
