/- The lexer's numbers, plainly. -/
import Derived.Test.YtmnedpfilckilaaLexB
import Derived.Test.YtmnedpfilckilaaDatB
set_option linter.unusedSimpArgs false
set_option linter.unusedVariables false
namespace Go.Proofs.Ytmnedpfilckilaa
open Go.RowKit
set_option maxRecDepth 100000

abbrev TokT := Int × List UInt8 × Int × Int
def z4 : TokT := (0, [], 0, 0)
def pF (K : Nat) (t : List UInt8) : Int × Int := parseT K (sgn t).1 (sgn t).2
def endN (k : Int) (t : List UInt8) (lim : Int) (r : Int × Int) : TokT × Int := if r.2 ≠ 0 then (z4, 3) else if k ≠ 5 ∧ lim < r.1 then (z4, 3) else ((k, t, r.1, 0), 0)
def chkN (s : List UInt8) (n size : Nat) (E : TokT × Int) : TokT × Int := if 1 < n ∧ s.head? = some 48 then (z4, 2) else if folB s size = true then (z4, 2) else E
def nD (s : List UInt8) : Nat := (s.takeWhile dgt).length
def numP (s : List UInt8) : TokT × Int :=
  if isDt s = true then (if folB s 10 = true then (z4, 2) else endN 5 (s.take 10) 0 (parD (s.take 10)))
  else if frB (s.drop (nD s)) 2 [] = true then chkN s (nD s) (nD s + 3) (endN 3 (s.take (nD s + 3)) 1000000000000000 (pF 2 (s.take (nD s + 3))))
  else if frB (s.drop (nD s)) 4 [37] = true then chkN s (nD s) (nD s + 6) (endN 4 (s.take (nD s + 6)) 1000000000 (pF 4 (s.take (nD s + 5))))
  else chkN s (nD s) (nD s) (endN 2 (s.take (nD s)) 1000000000000 (parseS (s.take (nD s))))
theorem aIf_t {ρ : Type} {x y : Option ρ} : aIf true x y = x := rfl
theorem aGd_t {ρ : Type} {x : Option ρ} : aGd true x = x := rfl
theorem aIf_f {ρ : Type} {x y : Option ρ} : aIf false x y = y := rfl
theorem frB_len {s e : List UInt8} {n : Nat} (h : frB s n e = true) : n + 1 + e.length ≤ s.length := by
  unfold frB at h
  simp only [Bool.and_eq_true, decide_eq_true_eq] at h
  obtain ⟨h1, h2, h3⟩ := h
  cases s with
  | nil => simp at h1
  | cons b r =>
    have ht := tw_len (p := dgt) r
    have := congrArg List.length h3
    simp at this h2 ⊢
    omega
theorem chk_fin {s : List UInt8} {n : Nat} (hs : s ≠ []) {R K : Option (TokT × Int)} {f : Bool} :
    aIf (decide (1 < (n : Int))) (onGet s 0 fun z => aIf (Int.ofNat z.toNat == 48) R (aIf f R K)) (aIf f R K) = if 1 < n ∧ s.head? = some 48 then R else if f = true then R else K := by
  cases s with
  | nil => exact absurd rfl hs
  | cons b r =>
    rw [show (0 : Int) = ((0 : Nat) : Int) from rfl, onGet_nat (by simp), List.getElem_cons_zero, show (48 : Int) = ((48 : Nat) : Int) from rfl, beqN]
    simp only [aIf_if]
    by_cases h1 : 1 < n
    · have h1' : (1 : Int) < (n : Int) := by omega
      by_cases h2 : b = 48
      · subst h2; simp [h1, h1']
      · have h2' : ¬ b.toNat = 48 := fun e => h2 (UInt8.toNat_inj.1 e)
        simp [h1, h1', h2, h2']
    · have h1' : ¬ (1 : Int) < (n : Int) := by omega
      simp [h1, h1']
theorem end_fin {k lim : Int} {t : List UInt8} {r : Int × Int} (hk : k ≠ 5) :
    aIf (r.2 != 0) (some ((0, [], 0, 0), 3)) (aIf (decide (lim < r.1)) (some ((0, [], 0, 0), 3)) (some ((k, t, r.1, 0), 0))) = some (endN k t lim r) := by
  unfold endN
  simp only [aIf_if]
  by_cases h : r.2 = 0
  · by_cases h2 : lim < r.1 <;> simp [h, h2, hk, z4]
  · simp [h, z4]
theorem F32_v {N : Nat} (hN : 300 < N) {s : List UInt8} (hs0 : s ≠ []) (hs : s.length ≤ 100000) (hsN : s.length < N) : F32 N s = some (numP s) := by
  have hn := tw_len (p := dgt) s
  rw [F32_eq, F17a_v (by omega) hsN, onSome_ok, aGd04, F42_v (by omega), onSome_ok]
  unfold numP
  change _ ≤ _ at hn
  rw [show (s.takeWhile dgt).length = nD s from rfl] at hn ⊢
  generalize hnn : nD s = n at hn
  cases hd : isDt s with
  | true =>
    have h10 : 10 ≤ s.length := by
      unfold isDt at hd
      simp only [Bool.and_eq_true, decide_eq_true_eq] at hd
      exact hd.1
    rw [aIf_t, aGd01, aGd_if, if_pos (by simp; omega), aGd11, Bool.not_true, aIf_f, follow (x := 10) (q := 10) rfl, F45_d hN, onSome_ok, aGd21, if_pos (show true = true from rfl), List.drop_zero]
    simp only [aGd04, aIf_if]
    cases folB s 10 with
    | true => rfl
    | false =>
      unfold endN
      by_cases h : (parD (s.take 10)).2 = 0 <;> simp [h, z4]
  | false =>
    have e0 : List.drop (Int.toNat (n : Int)) (List.take s.length s) = s.drop n := by rw [List.take_length, Int.toNat_natCast]
    have hfr2 : F43 N (s.drop n, (2 : Int), []) = some (frB (s.drop n) 2 []) := F43_v (n := 2) (by simp; omega) (by simp; omega)
    have hfr4 : F43 N (s.drop n, (4 : Int), [37]) = some (frB (s.drop n) 4 [37]) := F43_v (n := 4) (by simp; omega) (by simp; omega)
    rw [aIf_f, aGd_if, if_pos (by first | (simp; omega) | simp), aGd_if, if_pos (by first | (simp; omega) | simp), e0, hfr2, onSome_ok, if_neg (show ¬ false = true by simp)]
    cases h2 : frB (s.drop n) 2 [] with
    | true =>
      have hl := frB_len h2
      simp only [List.length_drop, List.length_nil] at hl
      have e3 : IntKind.wrap IntKind.i64 ((n : Int) + 3) = ((n + 3 : Nat) : Int) := by rw [w64] <;> omega
      have hf : F46 N (s.take (n + 3), (2 : Int)) = some (pF 2 (s.take (n + 3))) := F46_parse (N := N) (l := s.take (n + 3)) (a1 := 2) (by simp; omega) (by simp; omega)
      rw [aIf_t, aGd01]
      simp only [e3]
      rw [aGd_if, if_pos (by first | (simp; omega) | simp), aGd_if, if_pos (by first | (simp; omega) | simp), aGd11, Bool.not_false, aIf_t]
      simp only [follow (x := ((n + 3 : Nat) : Int)) (q := n + 3) rfl, List.drop_zero, Int.toNat_natCast, hf, onSome_ok, aGd21, aGd04]
      rw [chk_fin hs0, end_fin (by decide)]
      simp only [if_true, if_false, Bool.false_eq_true]
      unfold chkN
      split
      · rfl
      · split <;> rfl
    | false =>
      rw [aIf_f, aGd_if, if_pos (by first | (simp; omega) | simp), aGd_if, if_pos (by first | (simp; omega) | simp), hfr4, onSome_ok, if_neg (show ¬ false = true by simp)]
      cases h4 : frB (s.drop n) 4 [37] with
      | true =>
        have hl := frB_len h4
        simp only [List.length_drop, List.length_singleton] at hl
        have e3 : IntKind.wrap IntKind.i64 ((n : Int) + 6) = ((n + 6 : Nat) : Int) := by rw [w64] <;> omega
        have e5 : IntKind.wrap IntKind.i64 (((n + 6 : Nat) : Int) - 1) = ((n + 5 : Nat) : Int) := by rw [w64] <;> omega
        have hf : F46 N (s.take (n + 5), (4 : Int)) = some (pF 4 (s.take (n + 5))) := F46_parse (N := N) (l := s.take (n + 5)) (a1 := 4) (by simp; omega) (by simp; omega)
        have et : List.take (n + 5) (List.take (n + 6) s) = s.take (n + 5) := by rw [List.take_take]; congr 1; omega
        have g1 : decide ((0 : Int) ≤ ((n + 5 : Nat) : Int)) = true := by simp; omega
        have g2 : decide (((n + 5 : Nat) : Int) ≤ Int.ofNat (List.take (n + 6) s).length) = true := by simp; omega
        rw [aIf_t, aGd01]
        simp only [e3, e5]
        rw [aGd_if, if_pos (by first | (simp; omega) | simp), aGd_if, if_pos (by first | (simp; omega) | simp), aGd11, Bool.not_false, aIf_t]
        simp only [follow (x := ((n + 6 : Nat) : Int)) (q := n + 6) rfl, List.drop_zero, Int.toNat_natCast, et, hf, onSome_ok, aGd21, aGd04, g1, g2, aGd_t]
        rw [chk_fin hs0, end_fin (by decide)]
        simp only [if_true, if_false, Bool.false_eq_true]
        unfold chkN
        split
        · rfl
        · split <;> rfl
      | false =>
        have hf : F47 N (s.take n) = some (parseS (s.take n)) := F47_parse (N := N) (l := s.take n) (by simp; omega)
        rw [aIf_f, aGd_if, if_pos (by first | (simp; omega) | simp), aGd_if, if_pos (by first | (simp; omega) | simp), Bool.not_false, aIf_t]
        simp only [follow (x := (n : Int)) (q := n) rfl, List.drop_zero, Int.toNat_natCast, hf, onSome_ok, aGd21, aGd04]
        rw [chk_fin hs0, end_fin (by decide)]
        simp only [if_true, if_false, Bool.false_eq_true]
        unfold chkN
        split
        · rfl
        · split <;> rfl
end Go.Proofs.Ytmnedpfilckilaa
