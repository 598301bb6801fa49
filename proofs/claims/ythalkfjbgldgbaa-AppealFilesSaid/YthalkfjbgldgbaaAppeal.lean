/- Appeals, as plain mathematics. No program is named here. -/
import Derived.Test.YthalkfjbgldgbaaWork
set_option linter.unusedSimpArgs false
set_option linter.unusedVariables false
namespace Go.Proofs.Ythalkfjbgldgbaa

structure Ap where
  id : Int
  fr : Int
  to : Int
  filed : Int
  dead : Int
  st : Int
  cents : Int
deriving DecidableEq
def Ap.zero : Ap := ⟨0, 0, 0, 0, 0, 0, 0⟩
def apV (a : Ap) : Value := .agg #[.int .i64 a.id, .int .i64 a.fr, .int .i64 a.to, .int .i64 a.filed, .int .i64 a.dead, .int .i64 a.st, .int .i64 a.cents]
@[go_sem] theorem apV_eq (a : Ap) : apV a = .agg #[.int .i64 a.id, .int .i64 a.fr, .int .i64 a.to, .int .i64 a.filed, .int .i64 a.dead, .int .i64 a.st, .int .i64 a.cents] := rfl
def monB (f t : Int) : Bool := decide (0 ≤ f) && decide (f < t) && decide (t ≤ 3600) && decide (t - f ≤ 120)
def laterR (we : Int) (hs : List Int) (d n : Int) : Int := if (addR we hs d n).2 = 0 then (addR we hs d n).1 else 109572
def permB (f t : Int) : Bool := if t = 2 then decide (f = 1) else if t = 3 then decide (f = 2) else if t = 4 then decide (f = 1) || decide (f = 2) else if t = 5 then decide (f = 1) || decide (f = 2) else false
def fileR (id f t d nt ad we : Int) (hs : List Int) : Ap × Int :=
  if id < 0 then (.zero, 3) else if vdB d = false then (.zero, 3) else if vdB nt = false then (.zero, 3) else if monB f t = false then (.zero, 3) else
  if d < nt then (.zero, 14) else if calOk we hs = false then (.zero, 1) else if ad < 0 then (.zero, 1) else if 365 < ad then (.zero, 1) else
  if d ≤ laterR we hs nt ad then (⟨id, f, t, d, laterR we hs d 60, 1, 0⟩, 0) else (⟨id, f, t, d, d, 6, 0⟩, 0)
def transR (a : Ap) (s c d : Int) : Ap × Int :=
  if permB a.st s = false then (.zero, 13) else if d < a.filed then (.zero, 9) else if a.dead < d ∧ s = 2 then (.zero, 14) else if a.dead < d ∧ s = 3 then (.zero, 14) else
  if c < 0 then (.zero, 3) else if 1000000000000000 < c then (.zero, 3) else if c ≠ 0 ∧ s ≠ 3 then (.zero, 3) else ({ a with st := s, cents := c }, 0)
def apOk (a : Ap) : Bool :=
  decide (0 ≤ a.id) && monB a.fr a.to && decide (0 ≤ a.filed) && decide (a.filed ≤ a.dead) && decide (a.dead ≤ 109572) && decide (1 ≤ a.st) && decide (a.st ≤ 6) &&
    (decide (a.cents = 0) || (decide (a.st = 3) && decide (0 < a.cents) && decide (a.cents ≤ 1000000000000000)))
def finB (a : Ap) : Bool := decide (3 ≤ a.st) && decide (a.st ≤ 6)

theorem trans_ok {a : Ap} {s c d : Int} (hv : apOk a = true) (h : (transR a s c d).2 = 0) :
    (transR a s c d).1 = { a with st := s, cents := c } ∧ permB a.st s = true ∧ apOk (transR a s c d).1 = true ∧ a.filed ≤ d := by
  unfold transR at *
  cases h1 : permB a.st s
  · simp [h1] at h
  by_cases h2 : d < a.filed
  · simp [h1, h2] at h
  by_cases h3 : a.dead < d ∧ s = 2
  · rw [if_neg (by simp [h1]), if_neg h2, if_pos h3] at h; simp at h
  by_cases h4 : a.dead < d ∧ s = 3
  · rw [if_neg (by simp [h1]), if_neg h2, if_neg h3, if_pos h4] at h; simp at h
  by_cases h5 : c < 0
  · rw [if_neg (by simp [h1]), if_neg h2, if_neg h3, if_neg h4, if_pos h5] at h; simp at h
  by_cases h6 : 1000000000000000 < c
  · rw [if_neg (by simp [h1]), if_neg h2, if_neg h3, if_neg h4, if_neg h5, if_pos h6] at h; simp at h
  by_cases h7 : c ≠ 0 ∧ s ≠ 3
  · rw [if_neg (by simp [h1]), if_neg h2, if_neg h3, if_neg h4, if_neg h5, if_neg h6, if_pos h7] at h; simp at h
  rw [if_neg (by simp [h1]), if_neg h2, if_neg h3, if_neg h4, if_neg h5, if_neg h6, if_neg h7]
  refine ⟨rfl, rfl, ?_, by omega⟩
  have hs : s = 2 ∨ s = 3 ∨ s = 4 ∨ s = 5 := by
    unfold permB at h1
    by_cases e2 : s = 2
    · exact .inl e2
    by_cases e3 : s = 3
    · exact .inr (.inl e3)
    by_cases e4 : s = 4
    · exact .inr (.inr (.inl e4))
    by_cases e5 : s = 5
    · exact .inr (.inr (.inr e5))
    simp [e2, e3, e4, e5] at h1
  simp only [apOk, Bool.and_eq_true, decide_eq_true_eq, Bool.or_eq_true] at hv ⊢
  refine ⟨⟨⟨hv.1.1.1, by omega⟩, by omega⟩, by omega⟩
theorem perm_st {f t : Int} (h : permB f t = true) : (f = 1 ∧ (t = 2 ∨ t = 4 ∨ t = 5)) ∨ (f = 2 ∧ (t = 3 ∨ t = 4 ∨ t = 5)) := by
  unfold permB at h
  by_cases e2 : t = 2
  · simp [e2] at h; omega
  by_cases e3 : t = 3
  · simp [e3] at h; omega
  by_cases e4 : t = 4
  · simp [e4] at h; omega
  by_cases e5 : t = 5
  · simp [e5] at h; omega
  simp [e2, e3, e4, e5] at h
theorem file_err {id f t d nt ad we : Int} {hs : List Int} (h : (fileR id f t d nt ad we hs).2 ≠ 0) : (fileR id f t d nt ad we hs).1 = .zero := by
  unfold fileR at *
  repeat' split
  all_goals first | rfl | (exfalso; apply h; simp_all)
theorem nextR_bd {we : Int} {hs : List Int} {d : Int} (he : (nextR we hs d).2 = 0) : d ≤ (nextR we hs d).1 ∧ (nextR we hs d).1 ≤ 109572 := by
  cases hok : calOk we hs
  · simp [nextR, hok] at he
  cases hd : vdB d
  · simp [nextR, hok, hd] at he
  obtain ⟨d1, d2⟩ := vdB_true hd
  have e : nextR we hs d = optR (nextF (wkB we hs) (109573 - d).toNat d) := by simp [nextR, hok, hd]
  rw [e] at he ⊢
  cases ha : nextF (wkB we hs) (109573 - d).toNat d with
  | none => simp [ha, optR] at he
  | some x =>
    obtain ⟨a1, a2, a3⟩ := nextF_spec _ _ _ ha
    simp only [optR]; omega
theorem laterR_bd {we : Int} {hs : List Int} {d n : Int} (hd : vdB d = true) (hn : 1 ≤ n) : d ≤ laterR we hs d n ∧ laterR we hs d n ≤ 109572 := by
  obtain ⟨d1, d2⟩ := vdB_true hd
  unfold laterR
  split
  · rename_i h
    have := addR_count hn h
    omega
  · omega
/-- What P41.1 and P41.4 say of a new appeal. -/
theorem file_ok {id f t d nt ad we : Int} {hs : List Int} (h : (fileR id f t d nt ad we hs).2 = 0) :
    apOk (fileR id f t d nt ad we hs).1 = true ∧ (fileR id f t d nt ad we hs).1.cents = 0 ∧ (fileR id f t d nt ad we hs).1.filed = d ∧
      ((fileR id f t d nt ad we hs).1.st = 6 ∨ ((fileR id f t d nt ad we hs).1.st = 1 ∧ d ≤ (fileR id f t d nt ad we hs).1.dead)) := by
  unfold fileR at *
  by_cases h1 : id < 0
  · rw [if_pos h1] at h; simp at h
  rw [if_neg h1] at h ⊢
  cases h2 : vdB d
  · simp [h2] at h
  rw [if_neg (by simp [h2])] at h ⊢
  cases h3 : vdB nt
  · simp [h3] at h
  rw [if_neg (by simp [h3])] at h ⊢
  cases h4 : monB f t
  · simp [h4] at h
  rw [if_neg (by simp [h4])] at h ⊢
  by_cases h5 : d < nt
  · rw [if_pos h5] at h; simp at h
  rw [if_neg h5] at h ⊢
  cases h6 : calOk we hs
  · simp [h6] at h
  rw [if_neg (by simp [h6])] at h ⊢
  by_cases h7 : ad < 0
  · rw [if_pos h7] at h; simp at h
  rw [if_neg h7] at h ⊢
  by_cases h8 : 365 < ad
  · rw [if_pos h8] at h; simp at h
  rw [if_neg h8] at h ⊢
  obtain ⟨d1, d2⟩ := vdB_true h2
  have hl := laterR_bd (we := we) (hs := hs) (n := 60) h2 (by omega)
  split
  · refine ⟨?_, rfl, rfl, .inr ⟨rfl, hl.1⟩⟩
    simp only [apOk, h4]; simp; omega
  · refine ⟨?_, rfl, rfl, .inl rfl⟩
    simp only [apOk, h4]; simp; omega

end Go.Proofs.Ythalkfjbgldgbaa
