/- The lexer's Tokenize, plainly. -/
import Derived.Test.YtmnedpfilckilaaLexT
set_option linter.unusedSimpArgs false
set_option linter.unusedVariables false
namespace Go.Proofs.Ytmnedpfilckilaa
open Go.RowKit
set_option maxRecDepth 100000

def tokP (s : List UInt8) : TokT × Int × Int :=
  if (s.headD 0).toNat = 10 then ((8, [10], 0, 0), 1, 0)
  else if lw (s.headD 0) = true then (if 16 < (s.takeWhile pt).length then (z4, 0, 4) else ((1, s.take (s.takeWhile pt).length, 0, 0), ((s.takeWhile pt).length : Int), 0))
  else if dgt (s.headD 0) = true then ((numP s).1, ((numP s).1.2.1.length : Int), (numP s).2)
  else if (s.headD 0).toNat = 34 then ((quoP s).1, ((quoP s).1.2.1.length : Int) + 2, (quoP s).2)
  else ((symP s).1, ((symP s).1.2.1.length : Int), (symP s).2)
/-- A token that is accepted: its text lies in s, n bytes long. -/
def TokOk (s : List UInt8) (t : TokT) (n : Int) : Prop := 1 ≤ n ∧ n ≤ s.length ∧ ((t.1 ≠ 6 ∧ (t.2.1.length : Int) = n ∧ s.take t.2.1.length = t.2.1) ∨ (t.1 = 6 ∧ (t.2.1.length : Int) + 2 = n ∧ (s.drop 1).take t.2.1.length = t.2.1))
theorem take_self (s : List UInt8) (k : Nat) : s.take (s.take k).length = s.take k := by
  rw [List.length_take]
  rcases Nat.le_total k s.length with h | h
  · rw [Nat.min_eq_left h]
  · rw [Nat.min_eq_right h, List.take_length, List.take_of_length_le h]
theorem endN_ok {k lim : Int} {t : List UInt8} {r : Int × Int} (h : (endN k t lim r).2 = 0) : (endN k t lim r).1.1 = k ∧ (endN k t lim r).1.2.1 = t := by
  unfold endN at h ⊢
  split at h
  · simp at h
  · rename_i h1
    split at h
    · simp at h
    · rename_i h2
      rw [if_neg h1, if_neg h2]
      exact ⟨rfl, rfl⟩
theorem chkN_ok {s : List UInt8} {n q : Nat} {E : TokT × Int} (h : (chkN s n q E).2 = 0) : chkN s n q E = E := by
  unfold chkN at h ⊢
  split at h
  · simp at h
  · rename_i h1
    split at h
    · simp at h
    · rename_i h2
      rw [if_neg h1, if_neg h2]
theorem numP_ok {s : List UInt8} (hd : dgt (s.headD 0) = true) (hs : s ≠ []) (h : (numP s).2 = 0) : TokOk s (numP s).1 ((numP s).1.2.1.length : Int) := by
  have key : ∀ (k : Int) (q : Nat), k ≠ 6 → 1 ≤ q → q ≤ s.length → (numP s).1.1 = k → (numP s).1.2.1 = s.take q → TokOk s (numP s).1 ((numP s).1.2.1.length : Int) := fun k q hk h1 h2 e1 e2 => by
    refine ⟨?_, ?_, .inl ⟨by rw [e1]; exact hk, rfl, ?_⟩⟩
    · rw [e2]; simp; omega
    · rw [e2]; simp; omega
    · rw [e2]; exact take_self s q
  have hn : 1 ≤ nD s := by
    cases s with
    | nil => exact absurd rfl hs
    | cons b r =>
      unfold nD
      rw [List.takeWhile_cons, show dgt b = true from hd]
      simp
  have hn2 : nD s ≤ s.length := tw_len (p := dgt) s
  by_cases h1 : isDt s = true
  · have hn1 : numP s = if folB s 10 = true then (z4, 2) else endN 5 (s.take 10) 0 (parD (s.take 10)) := by unfold numP; rw [if_pos h1]
    have h10 : 10 ≤ s.length := by
      unfold isDt at h1
      simp only [Bool.and_eq_true, decide_eq_true_eq] at h1
      exact h1.1
    by_cases hf : folB s 10 = true
    · rw [hn1, if_pos hf] at h; simp at h
    · rw [if_neg hf] at hn1
      rw [hn1] at h
      obtain ⟨a, b⟩ := endN_ok h
      exact key 5 10 (by decide) (by omega) h10 (by rw [hn1]; exact a) (by rw [hn1]; exact b)
  · by_cases h2 : frB (s.drop (nD s)) 2 [] = true
    · have hn1 : numP s = chkN s (nD s) (nD s + 3) (endN 3 (s.take (nD s + 3)) 1000000000000000 (pF 2 (s.take (nD s + 3)))) := by unfold numP; rw [if_neg h1, if_pos h2]
      have hl := frB_len h2
      simp only [List.length_drop, List.length_nil] at hl
      have hc := chkN_ok (by rw [← hn1]; exact h)
      rw [hc] at hn1
      rw [hn1] at h
      obtain ⟨a, b⟩ := endN_ok h
      exact key 3 (nD s + 3) (by decide) (by omega) (by omega) (by rw [hn1]; exact a) (by rw [hn1]; exact b)
    · by_cases h4 : frB (s.drop (nD s)) 4 [37] = true
      · have hn1 : numP s = chkN s (nD s) (nD s + 6) (endN 4 (s.take (nD s + 6)) 1000000000 (pF 4 (s.take (nD s + 5)))) := by unfold numP; rw [if_neg h1, if_neg h2, if_pos h4]
        have hl := frB_len h4
        simp only [List.length_drop, List.length_singleton] at hl
        have hc := chkN_ok (by rw [← hn1]; exact h)
        rw [hc] at hn1
        rw [hn1] at h
        obtain ⟨a, b⟩ := endN_ok h
        exact key 4 (nD s + 6) (by decide) (by omega) (by omega) (by rw [hn1]; exact a) (by rw [hn1]; exact b)
      · have hn1 : numP s = chkN s (nD s) (nD s) (endN 2 (s.take (nD s)) 1000000000000 (parseS (s.take (nD s)))) := by unfold numP; rw [if_neg h1, if_neg h2, if_neg h4]
        have hc := chkN_ok (by rw [← hn1]; exact h)
        rw [hc] at hn1
        rw [hn1] at h
        obtain ⟨a, b⟩ := endN_ok h
        exact key 2 (nD s) (by decide) hn hn2 (by rw [hn1]; exact a) (by rw [hn1]; exact b)
theorem quoP_ok {s : List UInt8} (hs : s ≠ []) (h : (quoP s).2 = 0) : TokOk s (quoP s).1 (((quoP s).1.2.1.length : Int) + 2) := by
  unfold quoP at h ⊢
  split at h
  · simp at h
  rename_i h1
  split at h
  · simp at h
  rename_i h2
  split at h
  · simp at h
  rename_i h3
  split at h
  · simp at h
  rename_i h4
  rw [if_neg h1, if_neg h2, if_neg h3, if_neg h4]
  rcases indexAny_lt qn s.tail with e | ⟨e1, e2⟩
  · rw [e] at h1; exact absurd (by decide) h1
  · cases s with
    | nil => exact absurd rfl hs
    | cons b r =>
      rw [List.tail_cons] at e1 e2 ⊢
      refine ⟨by dsimp only; omega, ?_, .inr ⟨rfl, rfl, ?_⟩⟩
      · dsimp only; simp; omega
      · exact take_self r _
theorem symP_ok {s : List UInt8} (hs : s ≠ []) (h : (symP s).2 = 0) : TokOk s (symP s).1 ((symP s).1.2.1.length : Int) := by
  cases s with
  | nil => exact absurd rfl hs
  | cons b r =>
    have one : ∀ v w : Int, TokOk (b :: r) (7, (b :: r).take 1, v, w) (((b :: r).take 1).length : Int) := fun v w => ⟨by simp, by simp; omega, .inl ⟨show (7 : Int) ≠ 6 by decide, rfl, take_self _ 1⟩⟩
    have two : ∀ v w : Int, (r.headD 0).toNat = 61 → TokOk (b :: r) (7, (b :: r).take 2, v, w) (((b :: r).take 2).length : Int) := fun v w hr => by
      cases r with
      | nil => simp at hr
      | cons c r => exact ⟨by simp, by simp; omega, .inl ⟨show (7 : Int) ≠ 6 by decide, rfl, take_self _ 2⟩⟩
    rw [symP] at h ⊢
    split
    · split
      · rename_i hr; exact two 0 0 hr
      · rename_i h1 h2; rw [if_pos h1, if_neg h2] at h; simp at h
    · split
      · split
        · rename_i hr; exact two 0 0 hr
        · exact one 0 0
      · split
        · exact one 0 0
        · rename_i h1 h2 h3; rw [if_neg h1, if_neg h2, if_neg h3] at h; simp at h
theorem tokP_ok {s : List UInt8} (hs : s ≠ []) (h : (tokP s).2.2 = 0) : TokOk s (tokP s).1 (tokP s).2.1 := by
  unfold tokP at h ⊢
  split
  · rename_i h1
    cases s with
    | nil => exact absurd rfl hs
    | cons b r =>
      have hb : b = 10 := UInt8.toNat_inj.1 (by show b.toNat = 10; exact h1)
      subst hb
      exact ⟨Int.le_refl 1, by simp; omega, .inl ⟨by decide, rfl, rfl⟩⟩
  rename_i h1
  rw [if_neg h1] at h
  split
  · rename_i h2
    rw [if_pos h2] at h
    split
    · rename_i h3; rw [if_pos h3] at h; simp at h
    · have hp : 1 ≤ (s.takeWhile pt).length := by
        cases s with
        | nil => exact absurd rfl hs
        | cons b r =>
          have : pt b = true := by unfold pt; rw [show lw b = true from h2]; rfl
          rw [List.takeWhile_cons, this]; simp
      have hle := tw_len (p := pt) s
      exact ⟨by dsimp only; omega, by dsimp only; omega, .inl ⟨by dsimp only; decide, by dsimp only; simp; omega, take_self _ _⟩⟩
  rename_i h2
  rw [if_neg h2] at h
  split
  · rename_i h3; rw [if_pos h3] at h; exact numP_ok h3 hs h
  rename_i h3
  rw [if_neg h3] at h
  split
  · rename_i h4; rw [if_pos h4] at h; exact quoP_ok hs h
  rename_i h4
  rw [if_neg h4] at h
  exact symP_ok hs h
theorem quoP_len (s : List UInt8) : (quoP s).1.2.1.length ≤ s.length := by
  unfold quoP
  split
  · simp [z4]
  split
  · simp [z4]
  split
  · simp [z4]
  split
  · simp [z4]
  · simp; omega
theorem F19_v {N : Nat} (hN : 300 < N) {s : List UInt8} (hs0 : s ≠ []) (hs : s.length ≤ 100000) (hsN : s.length < N) : F19 N s = some (tokP s) := by
  have hw := tw_len (p := pt) s
  rw [F19_eq, F17b_v (by omega) hsN, F32_v hN hs0 hs hsN, F33_v (by omega) hs0 hs hsN, F34_v hs0]
  have hq := quoP_len s
  have e2 : IntKind.wrap IntKind.i64 (Int.ofNat (quoP s).1.2.1.length + 2) = ((quoP s).1.2.1.length : Int) + 2 := by rw [w64] <;> simp <;> omega
  simp only [onSome_ok, aGd04, e2]
  unfold tokP
  generalize numP s = a at *
  generalize quoP s = q at *
  generalize symP s = y at *
  cases s with
  | nil => exact absurd rfl hs0
  | cons b r =>
    rw [show (0 : Int) = ((0 : Nat) : Int) from rfl, onGet_nat (by simp), List.getElem_cons_zero, F21_v, onSome_ok, F31_v, onSome_ok, List.headD_cons]
    have t10 : (Int.ofNat b.toNat == 10) = decide (b.toNat = 10) := beqN (m := 10)
    have t34 : (Int.ofNat b.toNat == 34) = decide (b.toNat = 34) := beqN (m := 34)
    rw [t10, t34]
    simp only [aIf_if]
    by_cases h1 : b.toNat = 10
    · simp [h1]
    · rw [if_neg (by simpa using h1), if_neg h1]
      by_cases h2 : lw b = true
      · rw [if_pos h2, if_pos h2]
        by_cases h3 : 16 < ((b :: r).takeWhile pt).length
        · rw [if_pos (by simp only [decide_eq_true_eq]; omega), if_pos h3]; try rfl
        · rw [if_neg (by simp only [decide_eq_true_eq]; omega), if_neg h3, aGd_if, if_pos (by simp), aGd_if, if_pos (by simp only [decide_eq_true_eq, Int.ofNat_eq_natCast]; omega), List.drop_zero, Int.toNat_natCast]
      · rw [if_neg h2, if_neg h2]
        by_cases h3 : dgt b = true
        · rw [if_pos h3, if_pos h3]; try rfl
        · rw [if_neg h3, if_neg h3]
          by_cases h4 : b.toNat = 34
          · rw [if_pos (by simpa using h4), if_pos h4]
          · rw [if_neg (by simpa using h4), if_neg h4]; try rfl
end Go.Proofs.Ytmnedpfilckilaa
