/- The lexer's tokens, plainly. -/
import Derived.Test.YtmnedpfilckilaaLexN
set_option linter.unusedSimpArgs false
set_option linter.unusedVariables false
namespace Go.Proofs.Ytmnedpfilckilaa
open Go.RowKit
set_option maxRecDepth 100000

theorem indexAny_lt (c : List UInt8) : ∀ (l : List UInt8), Lib.indexAny l c = -1 ∨ (0 ≤ Lib.indexAny l c ∧ Lib.indexAny l c < l.length)
  | [] => .inl rfl
  | b :: l => by
    rw [Lib.indexAny]
    have ih := indexAny_lt c l
    split
    · exact .inr ⟨Int.le_refl 0, by simp⟩
    · split
      · exact .inl rfl
      · rename_i h
        have h' : ¬ Lib.indexAny l c = -1 := by simpa using h
        exact .inr ⟨by omega, by simp; omega⟩
def quoP (s : List UInt8) : TokT × Int :=
  if Lib.indexAny s.tail qn < 0 then (z4, 5)
  else if (s.getD ((Lib.indexAny s.tail qn).toNat + 1) 0).toNat = 10 then (z4, 5)
  else if (s.tail.take (Lib.indexAny s.tail qn).toNat).all prn = false then (z4, 2)
  else if 64 < (Lib.indexAny s.tail qn).toNat then (z4, 4) else ((6, s.tail.take (Lib.indexAny s.tail qn).toNat, 0, 0), 0)
theorem F33_v {N : Nat} (hN : 10 < N) {s : List UInt8} (hs0 : s ≠ []) (hs : s.length ≤ 100000) (hsN : s.length < N) : F33 N s = some (quoP s) := by
  cases s with
  | nil => exact absurd rfl hs0
  | cons b r =>
    simp only [List.length_cons] at hs hsN
    rw [F33_eq, aGd_if, if_pos (by first | (simp; omega) | simp), List.take_length, show List.drop 1 (b :: r) = r from rfl, F48_v hN (by omega) (by omega), onSome_ok]
    unfold quoP
    rw [List.tail_cons]
    rcases indexAny_lt qn r with h | ⟨h0, h1⟩
    · rw [h]; rfl
    · obtain ⟨i, hi⟩ : ∃ i : Nat, Lib.indexAny r qn = i := ⟨(Lib.indexAny r qn).toNat, by omega⟩
      rw [hi] at h0 h1 ⊢
      have hlt : i + 1 < (b :: r).length := by simp; omega
      have e1 : IntKind.wrap IntKind.i64 ((i : Int) + 1) = ((i + 1 : Nat) : Int) := by rw [w64] <;> omega
      have et : List.drop 1 (List.take (i + 1) (b :: r)) = r.take i := rfl
      have hl : (r.take i).length = i := by simp; omega
      simp only [e1, onGet_nat hlt, Int.toNat_natCast, et, aGd04, aIf_if, aGd_if]
      rw [if_neg (by simp), if_neg (show ¬ (i : Int) < 0 by omega), List.getD_eq_getElem?_getD, List.getElem?_eq_getElem hlt, Option.getD_some, show (10 : Int) = ((10 : Nat) : Int) from rfl, beqN]
      by_cases h10 : ((b :: r)[i + 1]'hlt).toNat = 10
      · rw [if_pos (by simpa using h10), if_pos h10]; rfl
      · rw [if_neg (by simpa using h10), if_neg h10, if_pos (by first | (simp; omega) | simp), if_pos (by simp; omega), if_pos (by first | (simp; omega) | simp), F17c_v (by rw [hl]; omega) (by rw [hl]; omega), onSome_ok]
        have hw := takeWhile_all (p := prn) (r.take i)
        have hle := tw_len (p := prn) (r.take i)
        cases ha : (r.take i).all prn with
        | true =>
          have := hw.2 ha
          rw [if_neg (by simp; omega), if_neg (show ¬ true = false by simp), hl]
          by_cases h64 : 64 < i
          · rw [if_pos (by simp; omega), if_pos h64]; rfl
          · rw [if_neg (by simp; omega), if_neg h64]; rfl
        | false =>
          have : ¬ ((r.take i).takeWhile prn).length = (r.take i).length := fun e => by rw [hw.1 e] at ha; cases ha
          rw [if_pos (by simp; omega), if_pos rfl]; rfl
def symP : List UInt8 → TokT × Int
  | [] => (z4, 2)
  | b :: r =>
    if b.toNat = 33 then (if (r.headD 0).toNat = 61 then ((7, (b :: r).take 2, 0, 0), 0) else (z4, 2))
    else if b.toNat = 60 ∨ b.toNat = 61 then (if (r.headD 0).toNat = 61 then ((7, (b :: r).take 2, 0, 0), 0) else ((7, (b :: r).take 1, 0, 0), 0))
    else if b.toNat = 40 ∨ b.toNat = 41 ∨ b.toNat = 44 ∨ b.toNat = 58 ∨ b.toNat = 43 ∨ b.toNat = 45 ∨ b.toNat = 42 then ((7, (b :: r).take 1, 0, 0), 0)
    else (z4, 2)
theorem F34_v {N : Nat} {s : List UInt8} (hs0 : s ≠ []) : F34 N s = some (symP s) := by
  cases s with
  | nil => exact absurd rfl hs0
  | cons b r =>
    rw [F34_eq, show (0 : Int) = ((0 : Nat) : Int) from rfl, onGet_nat (by simp), List.getElem_cons_zero]
    unfold symP
    simp only [aGd04, aIf_if, aGd_if, List.drop_zero]
    cases r with
    | nil =>
      by_cases h33 : b.toNat = 33
      · simp [h33, z4]
      by_cases h60 : b.toNat = 60
      · simp [h60, z4]
      by_cases h61 : b.toNat = 61
      · simp [h61, z4]
      by_cases h40 : b.toNat = 40
      · simp [h40, z4]
      by_cases h41 : b.toNat = 41
      · simp [h41, z4]
      by_cases h44 : b.toNat = 44
      · simp [h44, z4]
      by_cases h58 : b.toNat = 58
      · simp [h58, z4]
      by_cases h43 : b.toNat = 43
      · simp [h43, z4]
      by_cases h45 : b.toNat = 45
      · simp [h45, z4]
      by_cases h42 : b.toNat = 42
      · simp [h42, z4]
      simp [h33, show ¬ (b.toNat : Int) = 33 by omega, h60, show ¬ (b.toNat : Int) = 60 by omega, h61, show ¬ (b.toNat : Int) = 61 by omega, h40, show ¬ (b.toNat : Int) = 40 by omega, h41, show ¬ (b.toNat : Int) = 41 by omega, h44, show ¬ (b.toNat : Int) = 44 by omega, h58, show ¬ (b.toNat : Int) = 58 by omega, h43, show ¬ (b.toNat : Int) = 43 by omega, h45, show ¬ (b.toNat : Int) = 45 by omega, h42, show ¬ (b.toNat : Int) = 42 by omega, z4]
    | cons c r =>
      have o1 : onGet (b :: c :: r) 1 = fun (k : UInt8 → Option (TokT × Int)) => k c := by funext k; rfl
      simp only [o1]
      have g1 : ¬ ((r.length : Int) + 1 + 1 < 2) := by omega
      have g2 : (1 : Int) < (r.length : Int) + 1 + 1 := by omega
      have g3 : (2 : Int) ≤ (r.length : Int) + 1 + 1 := by omega
      have g4 : (1 : Int) ≤ (r.length : Int) + 1 + 1 := by omega
      by_cases h33 : b.toNat = 33
      · by_cases hc : c.toNat = 61
        · simp [h33, hc, z4, g1, g2, g3, g4]
        · have hc2 : ¬ (c.toNat : Int) = 61 := by omega
          simp [h33, hc, hc2, z4, g1, g2, g3, g4]
      by_cases h60 : b.toNat = 60
      · by_cases hc : c.toNat = 61
        · simp [h60, hc, z4, g1, g2, g3, g4]
        · have hc2 : ¬ (c.toNat : Int) = 61 := by omega
          simp [h60, hc, hc2, z4, g1, g2, g3, g4]
      by_cases h61 : b.toNat = 61
      · by_cases hc : c.toNat = 61
        · simp [h61, hc, z4, g1, g2, g3, g4]
        · have hc2 : ¬ (c.toNat : Int) = 61 := by omega
          simp [h61, hc, hc2, z4, g1, g2, g3, g4]
      by_cases h40 : b.toNat = 40
      · by_cases hc : c.toNat = 61
        · simp [h40, hc, z4, g1, g2, g3, g4]
        · have hc2 : ¬ (c.toNat : Int) = 61 := by omega
          simp [h40, hc, hc2, z4, g1, g2, g3, g4]
      by_cases h41 : b.toNat = 41
      · by_cases hc : c.toNat = 61
        · simp [h41, hc, z4, g1, g2, g3, g4]
        · have hc2 : ¬ (c.toNat : Int) = 61 := by omega
          simp [h41, hc, hc2, z4, g1, g2, g3, g4]
      by_cases h44 : b.toNat = 44
      · by_cases hc : c.toNat = 61
        · simp [h44, hc, z4, g1, g2, g3, g4]
        · have hc2 : ¬ (c.toNat : Int) = 61 := by omega
          simp [h44, hc, hc2, z4, g1, g2, g3, g4]
      by_cases h58 : b.toNat = 58
      · by_cases hc : c.toNat = 61
        · simp [h58, hc, z4, g1, g2, g3, g4]
        · have hc2 : ¬ (c.toNat : Int) = 61 := by omega
          simp [h58, hc, hc2, z4, g1, g2, g3, g4]
      by_cases h43 : b.toNat = 43
      · by_cases hc : c.toNat = 61
        · simp [h43, hc, z4, g1, g2, g3, g4]
        · have hc2 : ¬ (c.toNat : Int) = 61 := by omega
          simp [h43, hc, hc2, z4, g1, g2, g3, g4]
      by_cases h45 : b.toNat = 45
      · by_cases hc : c.toNat = 61
        · simp [h45, hc, z4, g1, g2, g3, g4]
        · have hc2 : ¬ (c.toNat : Int) = 61 := by omega
          simp [h45, hc, hc2, z4, g1, g2, g3, g4]
      by_cases h42 : b.toNat = 42
      · by_cases hc : c.toNat = 61
        · simp [h42, hc, z4, g1, g2, g3, g4]
        · have hc2 : ¬ (c.toNat : Int) = 61 := by omega
          simp [h42, hc, hc2, z4, g1, g2, g3, g4]
      simp [h33, show ¬ (b.toNat : Int) = 33 by omega, h60, show ¬ (b.toNat : Int) = 60 by omega, h61, show ¬ (b.toNat : Int) = 61 by omega, h40, show ¬ (b.toNat : Int) = 40 by omega, h41, show ¬ (b.toNat : Int) = 41 by omega, h44, show ¬ (b.toNat : Int) = 44 by omega, h58, show ¬ (b.toNat : Int) = 58 by omega, h43, show ¬ (b.toNat : Int) = 43 by omega, h45, show ¬ (b.toNat : Int) = 45 by omega, h42, show ¬ (b.toNat : Int) = 42 by omega, z4]
end Go.Proofs.Ytmnedpfilckilaa
