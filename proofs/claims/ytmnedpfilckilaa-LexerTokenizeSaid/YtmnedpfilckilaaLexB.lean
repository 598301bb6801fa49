/- The lexer's small functions, plainly. -/
import Derived.Test.YtmnedpfilckilaaLexQ
set_option linter.unusedSimpArgs false
set_option linter.unusedVariables false
namespace Go.Proofs.Ytmnedpfilckilaa
open Go.RowKit
set_option maxRecDepth 100000

def prn (b : UInt8) : Bool := decide (32 ≤ b.toNat) && decide (b.toNat ≤ 126)
def nnl (b : UInt8) : Bool := decide (b.toNat ≠ 10)
theorem F49_v (N : Nat) (b : UInt8) : F49 N (Int.ofNat b.toNat) = some (prn b) := by
  rw [F49_eq, aIf_if]; exact ge_le (a := 32) (b := 126)
theorem F18_v (N : Nat) (b : UInt8) : F18 N (Int.ofNat b.toNat) = some (nnl b) := by
  rw [F18_eq]
  unfold nnl
  by_cases h : b.toNat = 10
  · rw [h]; rfl
  · have : ¬ (b.toNat : Int) = 10 := by omega
    simp [h, this]
theorem L17a_v {N : Nat} {s : List UInt8} (hs : s.length ≤ 1000000) : ∀ (n p : Nat), p ≤ s.length → s.length - p < n → L17a_2 N n s (p : Int) = some ((p + ((s.drop p).takeWhile dgt).length : Nat) : Int)
  | 0, p, _, h => by omega
  | n + 1, p, hp, hn => by
    rw [L17a_2_eq]
    simp only [aIf_if, Int.ofNat_eq_natCast]
    by_cases hlt : p < s.length
    · have ih := L17a_v (N := N) hs n (p + 1) (by omega) (by omega)
      rw [if_pos (by simp; omega), onGet_nat hlt, show ((s[p].toNat : Nat) : Int) = Int.ofNat s[p].toNat from rfl, F31_v, onSome_ok, w64 (by omega) (by omega), List.drop_eq_getElem_cons hlt, List.takeWhile_cons]
      simp only [Int.natCast_add, Int.natCast_one] at ih ⊢
      rw [ih]
      cases dgt s[p] with
      | true => simp; omega
      | false => simp
    · rw [if_neg (by simp; omega), List.drop_eq_nil_of_le (by omega)]
      simp
theorem F17a_v {N : Nat} {s : List UInt8} (hs : s.length ≤ 1000000) (hN : s.length < N) : F17a N (s, ()) = some (((s.takeWhile dgt).length : Nat) : Int) := by
  rw [F17a_eq]
  have := L17a_v (N := N) hs N 0 (by omega) (by omega)
  simpa using this
theorem L17c_v {N : Nat} {s : List UInt8} (hs : s.length ≤ 1000000) : ∀ (n p : Nat), p ≤ s.length → s.length - p < n → L17c_2 N n s (p : Int) = some ((p + ((s.drop p).takeWhile prn).length : Nat) : Int)
  | 0, p, _, h => by omega
  | n + 1, p, hp, hn => by
    rw [L17c_2_eq]
    simp only [aIf_if, Int.ofNat_eq_natCast]
    by_cases hlt : p < s.length
    · have ih := L17c_v (N := N) hs n (p + 1) (by omega) (by omega)
      rw [if_pos (by simp; omega), onGet_nat hlt, show ((s[p].toNat : Nat) : Int) = Int.ofNat s[p].toNat from rfl, F49_v, onSome_ok, w64 (by omega) (by omega), List.drop_eq_getElem_cons hlt, List.takeWhile_cons]
      simp only [Int.natCast_add, Int.natCast_one] at ih ⊢
      rw [ih]
      cases prn s[p] with
      | true => simp; omega
      | false => simp
    · rw [if_neg (by simp; omega), List.drop_eq_nil_of_le (by omega)]
      simp
theorem F17c_v {N : Nat} {s : List UInt8} (hs : s.length ≤ 1000000) (hN : s.length < N) : F17c N (s, ()) = some (((s.takeWhile prn).length : Nat) : Int) := by
  rw [F17c_eq]
  have := L17c_v (N := N) hs N 0 (by omega) (by omega)
  simpa using this
theorem L17d_v {N : Nat} {s : List UInt8} (hs : s.length ≤ 1000000) : ∀ (n p : Nat), p ≤ s.length → s.length - p < n → L17d_2 N n s (p : Int) = some ((p + ((s.drop p).takeWhile nnl).length : Nat) : Int)
  | 0, p, _, h => by omega
  | n + 1, p, hp, hn => by
    rw [L17d_2_eq]
    simp only [aIf_if, Int.ofNat_eq_natCast]
    by_cases hlt : p < s.length
    · have ih := L17d_v (N := N) hs n (p + 1) (by omega) (by omega)
      rw [if_pos (by simp; omega), onGet_nat hlt, show ((s[p].toNat : Nat) : Int) = Int.ofNat s[p].toNat from rfl, F18_v, onSome_ok, w64 (by omega) (by omega), List.drop_eq_getElem_cons hlt, List.takeWhile_cons]
      simp only [Int.natCast_add, Int.natCast_one] at ih ⊢
      rw [ih]
      cases nnl s[p] with
      | true => simp; omega
      | false => simp
    · rw [if_neg (by simp; omega), List.drop_eq_nil_of_le (by omega)]
      simp
theorem F17d_v {N : Nat} {s : List UInt8} (hs : s.length ≤ 1000000) (hN : s.length < N) : F17d N (s, ()) = some (((s.takeWhile nnl).length : Nat) : Int) := by
  rw [F17d_eq]
  have := L17d_v (N := N) hs N 0 (by omega) (by omega)
  simpa using this
theorem aGd04 {ρ : Type} {x : Option ρ} : aGd (decide (0 + 4 ≤ 4)) x = x := rfl
theorem aGd01 {ρ : Type} {x : Option ρ} : aGd (decide (0 + 1 ≤ 4)) x = x := rfl
theorem aGd11 {ρ : Type} {x : Option ρ} : aGd (decide (1 + 1 ≤ 4)) x = x := rfl
theorem aGd21 {ρ : Type} {x : Option ρ} : aGd (decide (2 + 1 ≤ 4)) x = x := rfl
theorem aGd31 {ρ : Type} {x : Option ρ} : aGd (decide (3 + 1 ≤ 4)) x = x := rfl
theorem beqN {n m : Nat} : (Int.ofNat n == (m : Int)) = decide (n = m) := by
  by_cases h : n = m
  · subst h; simp
  · have : ¬ (n : Int) = (m : Int) := by omega
    simp [h, this]

/-! ## Dates' form -/
def dtc (i : Nat) (b : UInt8) : Bool := if i = 4 then decide (b.toNat = 45) else if i = 7 then decide (b.toNat = 45) else dgt b
def dtF (s : List UInt8) : Nat → Nat → Bool
  | 0, _ => true
  | k + 1, i => dtc i (s.getD i 0) && dtF s k (i + 1)
def isDt (s : List UInt8) : Bool := decide (10 ≤ s.length) && dtF s 10 0
theorem L42_v {N : Nat} {s : List UInt8} (hs : 10 ≤ s.length) : ∀ (k n i : Nat), i + k = 10 → k < n → L42_4 N n s (i : Int) = some (dtF s k i)
  | 0, 0, i, _, h => by omega
  | 0, n + 1, i, hi, hn => by
    rw [L42_4_eq, aIf_if, if_neg (by simp; omega)]; rfl
  | k + 1, 0, i, _, h => by omega
  | k + 1, n + 1, i, hi, hn => by
    have ih := L42_v (N := N) hs k n (i + 1) (by omega) (by omega)
    simp only [Int.natCast_add, Int.natCast_one] at ih
    have hlt : i < s.length := by omega
    rw [L42_4_eq, aIf_if, if_pos (by simp; omega)]
    simp only [aIf_if, onGet_nat hlt]
    rw [w64 (by omega) (by omega), ih, F31_v, onSome_ok, dtF, List.getD_eq_getElem?_getD, List.getElem?_eq_getElem hlt]
    simp only [Option.getD_some]
    unfold dtc
    have e4 : ((i : Int) == 4) = decide (i = 4) := beqN (n := i) (m := 4)
    have e7 : ((i : Int) == 7) = decide (i = 7) := beqN (n := i) (m := 7)
    have e45 : (Int.ofNat s[i].toNat != 45) = !decide (s[i].toNat = 45) := by rw [bne, show (45 : Int) = ((45 : Nat) : Int) from rfl, beqN]
    rw [e4, e7, e45]
    by_cases h4 : i = 4
    · by_cases h : s[i].toNat = 45 <;> simp [h4] <;> simp [h4] at h <;> simp [h]
    · by_cases h7 : i = 7
      · by_cases h : s[i].toNat = 45 <;> simp [h7] <;> simp [h7] at h <;> simp [h]
      · simp only [h4, h7, decide_false, Bool.false_eq_true, if_false]
        cases dgt s[i] <;> simp
theorem F42_v {N : Nat} {s : List UInt8} (hN : 10 < N) : F42 N s = some (isDt s) := by
  rw [F42_eq, aIf_if]
  unfold isDt
  by_cases h : s.length < 10
  · rw [if_pos (by simp; omega)]
    have : decide (10 ≤ s.length) = false := by simp; omega
    rw [this]; rfl
  · rw [if_neg (by simp; omega)]
    have : decide (10 ≤ s.length) = true := by simp; omega
    rw [this]
    exact L42_v (by omega) 10 N 0 (by omega) hN

/-! ## Fractions -/
def frB (s : List UInt8) (n : Nat) (e : List UInt8) : Bool := decide (s.head? = some 46) && (decide ((s.tail.takeWhile dgt).length = n) && decide ((s.drop (n + 1)).take e.length = e))
theorem hasPrefix_v {N : Nat} {u p : List UInt8} : F57 N (u, p) = some (decide (u.take p.length = p)) := by
  rw [F57_eq, F75_eq]
  simp only [aIf_if, aGd_if, Int.ofNat_eq_natCast, Int.toNat_natCast, List.drop_zero, decide_eq_true_eq]
  by_cases h : p.length ≤ u.length
  · rw [if_pos (by omega), if_pos (by omega), onSome_ok]
    by_cases h2 : u.take p.length = p <;> simp [h2]
  · have h2 : ¬ u.take p.length = p := fun e => by have := congrArg List.length e; simp at this; omega
    rw [if_neg (by omega), onSome_ok]
    simp [h2]
theorem tw_len {p : UInt8 → Bool} (s : List UInt8) : (s.takeWhile p).length ≤ s.length := (List.takeWhile_sublist p).length_le
theorem F43_v {N : Nat} {s e : List UInt8} {n : Nat} (hs : s.length ≤ 1000000) (hN : s.length < N) : F43 N (s, (n : Int), e) = some (frB s n e) := by
  rw [F43_eq]
  unfold frB
  cases s with
  | nil => rfl
  | cons b r =>
    have ht := tw_len (p := dgt) r
    simp only [aIf_if, aGd_if]
    rw [if_pos (by simp), show (0 : Int) = ((0 : Nat) : Int) from rfl, onGet_nat (by simp), List.getElem_cons_zero, show (46 : Int) = ((46 : Nat) : Int) from rfl, beqN]
    by_cases hb : b = 46
    · subst hb
      have hl : (46 :: r : List UInt8).length = r.length + 1 := rfl
      rw [if_pos (by decide), if_pos (by simp; omega)]
      have e1 : List.drop 1 (List.take (46 :: r : List UInt8).length (46 :: r)) = r := by rw [List.take_length]; rfl
      rw [e1, F17a_v (by simp at hs; omega) (by simp at hN; omega), onSome_ok]
      by_cases hn : (r.takeWhile dgt).length = n
      · subst hn
        rw [if_pos (by simp), w64 (by omega) (by simp at hs; omega), if_pos (by simp; omega), if_pos (by simp; omega), hasPrefix_v, onSome_ok]
        have e2 : (((r.takeWhile dgt).length : Int) + 1).toNat = (r.takeWhile dgt).length + 1 := by omega
        rw [List.take_length, e2]
        simp
      · rw [if_neg (by simp; omega)]
        simp [hn]
    · have hb' : ¬ b.toNat = 46 := fun e => hb (UInt8.toNat_inj.1 e)
      rw [if_neg (by simpa using hb')]
      simp [hb]

/-! ## What may not follow a number -/
def gl (b : UInt8) : Bool := lw b || ((decide (65 ≤ b.toNat) && decide (b.toNat ≤ 90)) || (dgt b || (decide (b.toNat = 95) || decide (b.toNat = 46))))
def folB (s : List UInt8) (q : Nat) : Bool := decide (q < s.length) && gl (s.getD q 0)
theorem F44_v (N : Nat) (b : UInt8) : F44 N (Int.ofNat b.toNat) = some (lw b || (decide (65 ≤ b.toNat) && decide (b.toNat ≤ 90))) := by
  rw [F44_eq, F21_v, onSome_ok, aIf_if, aIf_if]
  cases lw b with
  | true => rfl
  | false => exact ge_le (a := 65) (b := 90)
theorem follow {ρ : Type} {N : Nat} {K R : Option ρ} {s : List UInt8} {q : Nat} {x : Int} (hx : x = (q : Int)) :
    aIf (decide (x < Int.ofNat s.length)) (onGet s x fun z => onSome (F44 N (Int.ofNat z.toNat)) fun y => aIf y R (onGet s x fun z => onSome (F31 N (Int.ofNat z.toNat)) fun y => aIf y R (onGet s x fun z => aIf (Int.ofNat z.toNat == 95) R (onGet s x fun z => aIf (Int.ofNat z.toNat == 46) R K)))) K =
      aIf (folB s q) R K := by
  subst hx
  unfold folB
  by_cases hlt : q < s.length
  · have e : decide ((q : Int) < Int.ofNat s.length) = true := by simp; omega
    rw [e, onGet_nat hlt, F44_v, onSome_ok, onGet_nat hlt, F31_v, onSome_ok, onGet_nat hlt, onGet_nat hlt, show (95 : Int) = ((95 : Nat) : Int) from rfl, show (46 : Int) = ((46 : Nat) : Int) from rfl, beqN, beqN,
      List.getD_eq_getElem?_getD, List.getElem?_eq_getElem hlt, Option.getD_some, decide_eq_true hlt]
    unfold gl
    generalize lw s[q] = a
    generalize (decide (65 ≤ s[q].toNat) && decide (s[q].toNat ≤ 90)) = b
    generalize dgt s[q] = c
    generalize decide (s[q].toNat = 95) = d
    generalize decide (s[q].toNat = 46) = f
    cases a <;> cases b <;> cases c <;> cases d <;> cases f <;> rfl
  · have e : decide ((q : Int) < Int.ofNat s.length) = false := by simp; omega
    rw [e, decide_eq_false hlt]
    rfl
end Go.Proofs.Ytmnedpfilckilaa
