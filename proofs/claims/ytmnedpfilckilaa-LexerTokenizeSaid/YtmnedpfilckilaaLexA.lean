/- Identifiers, plainly: the program's and the reference's. -/
import Derived.Test.YtmnedpfilckilaaLexP
import Derived.Test.YtmnedpfilckilaaRd
set_option linter.unusedSimpArgs false
set_option linter.unusedVariables false
namespace Go.Proofs.Ytmnedpfilckilaa
open Go.RowKit

def lw (b : UInt8) : Bool := decide (97 ≤ b.toNat) && decide (b.toNat ≤ 122)
def dgt (b : UInt8) : Bool := decide (48 ≤ b.toNat) && decide (b.toNat ≤ 57)
def pt (b : UInt8) : Bool := lw b || (dgt b || decide (b.toNat = 95))
theorem ge_le {a b n : Nat} : (if decide ((a : Int) ≤ Int.ofNat n) = true then some (decide (Int.ofNat n ≤ (b : Int))) else some false) = some (decide (a ≤ n) && decide (n ≤ b)) := by
  by_cases h : a ≤ n
  · have h' : (a : Int) ≤ (n : Int) := by omega
    have e : ((n : Int) ≤ (b : Int)) ↔ (n ≤ b) := by omega
    simp [h, h', e]
  · have h' : ¬ (a : Int) ≤ (n : Int) := by omega
    simp [h, h']
theorem F21_v (N : Nat) (b : UInt8) : F21 N (Int.ofNat b.toNat) = some (lw b) := by
  rw [F21_eq, aIf_if]; exact ge_le (a := 97) (b := 122)
theorem F31_v (N : Nat) (b : UInt8) : F31 N (Int.ofNat b.toNat) = some (dgt b) := by
  rw [F31_eq, aIf_if]; exact ge_le (a := 48) (b := 57)
theorem F24_v (N : Nat) (b : UInt8) : F24 N (Int.ofNat b.toNat) = some (lw b) := by
  rw [F24_eq, aIf_if]; exact ge_le (a := 97) (b := 122)
theorem F36_v (N : Nat) (b : UInt8) : F36 N (Int.ofNat b.toNat) = some (dgt b) := by
  rw [F36_eq, aIf_if]; exact ge_le (a := 48) (b := 57)
theorem eq95 {n : Nat} : (Int.ofNat n == 95) = decide (n = 95) := by
  by_cases h : n = 95
  · subst h; rfl
  · have : ¬ (n : Int) = 95 := by omega
    simp [h, this]
theorem F22_v (N : Nat) (b : UInt8) : F22 N (Int.ofNat b.toNat) = some (pt b) := by
  rw [F22_eq, F21_v, onSome_ok, F31_v, onSome_ok, eq95]
  unfold pt
  cases lw b <;> cases dgt b <;> rfl
theorem F25_v (N : Nat) (b : UInt8) : F25 N (Int.ofNat b.toNat) = some (pt b) := by
  rw [F25_eq, F24_v, onSome_ok, F36_v, onSome_ok, eq95]
  unfold pt
  cases lw b <;> cases dgt b <;> rfl
theorem L17b_v {N : Nat} {s : List UInt8} (hs : s.length ≤ 1000000) : ∀ (n p : Nat), p ≤ s.length → s.length - p < n → L17b_2 N n s (p : Int) = some ((p + ((s.drop p).takeWhile pt).length : Nat) : Int)
  | 0, p, _, h => by omega
  | n + 1, p, hp, hn => by
    rw [L17b_2_eq]
    simp only [aIf_if, Int.ofNat_eq_natCast]
    by_cases hlt : p < s.length
    · have ih := L17b_v (N := N) hs n (p + 1) (by omega) (by omega)
      rw [if_pos (by simp; omega), onGet_nat hlt, show ((s[p].toNat : Nat) : Int) = Int.ofNat s[p].toNat from rfl, F22_v, onSome_ok, w64 (by omega) (by omega), List.drop_eq_getElem_cons hlt, List.takeWhile_cons]
      simp only [Int.natCast_add, Int.natCast_one] at ih ⊢
      rw [ih]
      cases pt s[p] with
      | true => simp; omega
      | false => simp
    · rw [if_neg (by simp; omega), List.drop_eq_nil_of_le (by omega)]
      simp
theorem F17b_v {N : Nat} {s : List UInt8} (hs : s.length ≤ 1000000) (hN : s.length < N) : F17b N (s, ()) = some (((s.takeWhile pt).length : Nat) : Int) := by
  rw [F17b_eq]
  have := L17b_v (N := N) hs N 0 (by omega) (by omega)
  simpa using this
theorem takeWhile_all {p : UInt8 → Bool} : ∀ (s : List UInt8), ((s.takeWhile p).length = s.length) ↔ s.all p = true
  | [] => by simp
  | b :: s => by
    have ih := takeWhile_all (p := p) s
    rw [List.takeWhile_cons]
    cases h : p b with
    | true => simp [h]; simpa using ih
    | false => simp [h]
def wordsR : List (List UInt8) := [[105, 102], [116, 104, 101, 110], [101, 108, 115, 101], [111, 114], [97, 110, 100], [110, 111, 116], [116, 114, 117, 101], [102, 97, 108, 115, 101], [116, 111, 100, 97, 121], [115, 104, 97, 114, 101], [100, 105, 118], [114, 111, 117, 110, 100], [109, 105, 110], [109, 97, 120], [112, 108, 117, 115], [109, 111, 110, 116, 104, 115], [100, 97, 121, 115], [121, 101, 97, 114, 115], [121, 101, 97, 114], [109, 111, 110, 116, 104], [116, 97, 98], [98, 97, 110, 100], [99, 111, 117, 110, 116], [115, 117, 109], [97, 108, 108], [97, 110, 121], [109, 111, 115, 116], [101, 110, 117, 109], [116, 97, 98, 108, 101], [114, 111, 119], [115, 99, 111, 112, 101], [109, 101, 109, 98, 101, 114, 115], [105, 110, 112, 117, 116], [100, 101, 102], [114, 117, 108, 101], [111, 102], [111, 118, 101, 114], [112, 114, 105, 111], [102, 114, 111, 109], [116, 111], [101, 110, 100], [119, 104, 101, 110], [105, 115], [115, 114, 99], [98, 111, 111, 108], [105, 110, 116], [109, 111, 110, 101, 121], [114, 97, 116, 101], [100, 97, 116, 101], [100, 111, 119, 110], [117, 112], [122, 101, 114, 111], [97, 119, 97, 121], [104, 97, 108, 102], [101, 118, 101, 110]]
theorem wordsR_text : ([(32 : UInt8), (105 : UInt8), (102 : UInt8), (32 : UInt8), (116 : UInt8), (104 : UInt8), (101 : UInt8), (110 : UInt8), (32 : UInt8), (101 : UInt8), (108 : UInt8), (115 : UInt8), (101 : UInt8), (32 : UInt8), (111 : UInt8), (114 : UInt8), (32 : UInt8), (97 : UInt8), (110 : UInt8), (100 : UInt8), (32 : UInt8), (110 : UInt8), (111 : UInt8), (116 : UInt8), (32 : UInt8), (116 : UInt8), (114 : UInt8), (117 : UInt8), (101 : UInt8), (32 : UInt8), (102 : UInt8), (97 : UInt8), (108 : UInt8), (115 : UInt8), (101 : UInt8), (32 : UInt8), (116 : UInt8), (111 : UInt8), (100 : UInt8), (97 : UInt8), (121 : UInt8), (32 : UInt8), (115 : UInt8), (104 : UInt8), (97 : UInt8), (114 : UInt8), (101 : UInt8), (32 : UInt8), (100 : UInt8), (105 : UInt8), (118 : UInt8), (32 : UInt8), (114 : UInt8), (111 : UInt8), (117 : UInt8), (110 : UInt8), (100 : UInt8), (32 : UInt8), (109 : UInt8), (105 : UInt8), (110 : UInt8), (32 : UInt8), (109 : UInt8), (97 : UInt8), (120 : UInt8), (32 : UInt8), (112 : UInt8), (108 : UInt8), (117 : UInt8), (115 : UInt8), (32 : UInt8), (109 : UInt8), (111 : UInt8), (110 : UInt8), (116 : UInt8), (104 : UInt8), (115 : UInt8), (32 : UInt8), (100 : UInt8), (97 : UInt8), (121 : UInt8), (115 : UInt8), (32 : UInt8), (121 : UInt8), (101 : UInt8), (97 : UInt8), (114 : UInt8), (115 : UInt8), (32 : UInt8), (121 : UInt8), (101 : UInt8), (97 : UInt8), (114 : UInt8), (32 : UInt8), (109 : UInt8), (111 : UInt8), (110 : UInt8), (116 : UInt8), (104 : UInt8), (32 : UInt8), (116 : UInt8), (97 : UInt8), (98 : UInt8), (32 : UInt8), (98 : UInt8), (97 : UInt8), (110 : UInt8), (100 : UInt8), (32 : UInt8), (99 : UInt8), (111 : UInt8), (117 : UInt8), (110 : UInt8), (116 : UInt8), (32 : UInt8), (115 : UInt8), (117 : UInt8), (109 : UInt8), (32 : UInt8), (97 : UInt8), (108 : UInt8), (108 : UInt8), (32 : UInt8), (97 : UInt8), (110 : UInt8), (121 : UInt8), (32 : UInt8), (109 : UInt8), (111 : UInt8), (115 : UInt8), (116 : UInt8), (32 : UInt8), (101 : UInt8), (110 : UInt8), (117 : UInt8), (109 : UInt8), (32 : UInt8), (116 : UInt8), (97 : UInt8), (98 : UInt8), (108 : UInt8), (101 : UInt8), (32 : UInt8), (114 : UInt8), (111 : UInt8), (119 : UInt8), (32 : UInt8), (115 : UInt8), (99 : UInt8), (111 : UInt8), (112 : UInt8), (101 : UInt8), (32 : UInt8), (109 : UInt8), (101 : UInt8), (109 : UInt8), (98 : UInt8), (101 : UInt8), (114 : UInt8), (115 : UInt8), (32 : UInt8), (105 : UInt8), (110 : UInt8), (112 : UInt8), (117 : UInt8), (116 : UInt8), (32 : UInt8), (100 : UInt8), (101 : UInt8), (102 : UInt8), (32 : UInt8), (114 : UInt8), (117 : UInt8), (108 : UInt8), (101 : UInt8), (32 : UInt8), (111 : UInt8), (102 : UInt8), (32 : UInt8), (111 : UInt8), (118 : UInt8), (101 : UInt8), (114 : UInt8), (32 : UInt8), (112 : UInt8), (114 : UInt8), (105 : UInt8), (111 : UInt8), (32 : UInt8), (102 : UInt8), (114 : UInt8), (111 : UInt8), (109 : UInt8), (32 : UInt8), (116 : UInt8), (111 : UInt8), (32 : UInt8), (101 : UInt8), (110 : UInt8), (100 : UInt8), (32 : UInt8), (119 : UInt8), (104 : UInt8), (101 : UInt8), (110 : UInt8), (32 : UInt8), (105 : UInt8), (115 : UInt8), (32 : UInt8), (115 : UInt8), (114 : UInt8), (99 : UInt8), (32 : UInt8), (98 : UInt8), (111 : UInt8), (111 : UInt8), (108 : UInt8), (32 : UInt8), (105 : UInt8), (110 : UInt8), (116 : UInt8), (32 : UInt8), (109 : UInt8), (111 : UInt8), (110 : UInt8), (101 : UInt8), (121 : UInt8), (32 : UInt8), (114 : UInt8), (97 : UInt8), (116 : UInt8), (101 : UInt8), (32 : UInt8), (100 : UInt8), (97 : UInt8), (116 : UInt8), (101 : UInt8), (32 : UInt8), (100 : UInt8), (111 : UInt8), (119 : UInt8), (110 : UInt8), (32 : UInt8), (117 : UInt8), (112 : UInt8), (32 : UInt8), (122 : UInt8), (101 : UInt8), (114 : UInt8), (111 : UInt8), (32 : UInt8), (97 : UInt8), (119 : UInt8), (97 : UInt8), (121 : UInt8), (32 : UInt8), (104 : UInt8), (97 : UInt8), (108 : UInt8), (102 : UInt8), (32 : UInt8), (101 : UInt8), (118 : UInt8), (101 : UInt8), (110 : UInt8), (32 : UInt8)] : List UInt8) = tx wordsR := by kernel_rfl
theorem tx_short : decide ((tx wordsR).length < 4294967281) = true := by kernel_rfl
theorem wordsR_len : wordsR.length = 55 := by kernel_rfl
theorem F26_v (N : Nat) : F26 N () = some (wordsR.map .str) := (F26_eq N).trans (by kernel_rfl)
theorem wordsR_32 : ∀ w ∈ wordsR, (32 : UInt8) ∉ w := by decide
theorem pt_32 {s : List UInt8} (h : s.all pt = true) : (32 : UInt8) ∉ s := fun hm => by
  have := List.all_eq_true.1 h _ hm
  exact absurd this (by decide)
def idB (s : List UInt8) : Bool := decide (s ≠ []) && (decide (s.length ≤ 16) && (lw (s.headD 0) && (s.all pt && !decide (s ∈ wordsR))))
theorem F12_v {N : Nat} {s : List UInt8} (hs : s.length ≤ 1000) (hN : 1000 < N) : F12 N s = some (idB s) := by
  rw [F12_eq, wordsR_text]
  unfold idB
  cases s with
  | nil => rfl
  | cons b r =>
    simp only [aIf_if, aGd_if, Int.ofNat_eq_natCast]
    rw [if_pos (by simp)]
    by_cases h16 : (b :: r).length ≤ 16
    · rw [if_pos (by simp at h16 ⊢; omega), show (0 : Int) = ((0 : Nat) : Int) from rfl, onGet_nat (by simp), List.getElem_cons_zero, show ((b.toNat : Nat) : Int) = Int.ofNat b.toNat from rfl, F21_v, onSome_ok]
      cases hl : lw b with
      | false => simp [hl]
      | true =>
        rw [if_pos rfl, F17b_v (by omega) (by omega), onSome_ok]
        by_cases ha : (b :: r).all pt = true
        · have e := (takeWhile_all (p := pt) (b :: r)).2 ha
          rw [if_pos (by rw [e]; simp), if_pos (by simp; simp at h16; omega), if_pos (by simp; simp at h16; omega)]
          have e2 : (32 : UInt8) :: List.append (List.append [] (b :: r)) [32] = 32 :: (b :: r ++ [32]) := rfl
          rw [e2]
          unfold F23
          rw [aGd_if, if_pos tx_short, onSome_ok, contains_tx (pt_32 ha) (by simp) wordsR_32]
          simp only [List.headD_cons, hl, ha, Bool.true_and]
          rw [decide_eq_true h16]
          simp
        · have e := fun h => ha ((takeWhile_all (p := pt) (b :: r)).1 h)
          rw [if_neg (by simp only [beq_iff_eq]; intro h; exact e (by omega))]
          simp only [Bool.not_eq_true] at ha
          simp only [ha, Bool.false_and, Bool.and_false]
    · rw [if_neg (by simp at h16 ⊢; omega)]
      have : decide ((b :: r).length ≤ 16) = false := by simpa using h16
      simp only [this, Bool.false_and, Bool.and_false]
theorem L13_10_v {N : Nat} {s : List UInt8} {ws : List (List UInt8)} (hw : ws.length ≤ 1000000) : ∀ (n p : Nat), p ≤ ws.length → ws.length - p < n → L13_10 N n s (ws.map .str) (p : Int) = some (!decide (s ∈ ws.drop p))
  | 0, p, _, h => by omega
  | n + 1, p, hp, hn => by
    rw [L13_10_eq]
    simp only [aIf_if, List.length_map, Int.ofNat_eq_natCast]
    by_cases hlt : p < ws.length
    · have ih := L13_10_v (N := N) (s := s) hw n (p + 1) (by omega) (by omega)
      rw [if_pos (by simp; omega), onGet_nat (by simpa using hlt), List.getElem_map, onStr_ok, w64 (by omega) (by omega), List.drop_eq_getElem_cons hlt]
      simp only [Int.natCast_add, Int.natCast_one] at ih
      rw [ih]
      generalize ws.drop (p + 1) = rest
      by_cases h : s = ws[p]
      · simp [← h]
      · have h' : ¬ ws[p] = s := fun e => h e.symm
        simp [h, h']
    · rw [if_neg (by simp; omega), List.drop_eq_nil_of_le (by omega)]
      simp
theorem L13_4_v {N : Nat} (hN : 1000 < N) {s : List UInt8} (hs : s.length ≤ 1000) : ∀ (n p : Nat), p ≤ s.length → s.length - p < n → L13_4 N n s (p : Int) = some ((s.drop p).all pt && !decide (s ∈ wordsR))
  | 0, p, _, h => by omega
  | n + 1, p, hp, hn => by
    rw [L13_4_eq]
    simp only [aIf_if, Int.ofNat_eq_natCast]
    by_cases hlt : p < s.length
    · have ih := L13_4_v hN hs n (p + 1) (by omega) (by omega)
      rw [if_pos (by simp; omega), onGet_nat hlt, show ((s[p].toNat : Nat) : Int) = Int.ofNat s[p].toNat from rfl, F25_v, onSome_ok, w64 (by omega) (by omega), List.drop_eq_getElem_cons hlt, List.all_cons]
      simp only [Int.natCast_add, Int.natCast_one] at ih
      rw [ih]
      cases pt s[p] <;> simp
    · rw [if_neg (by simp; omega), List.drop_eq_nil_of_le (by omega), F26_v, onSome_ok]
      have hw := wordsR_len
      have := L13_10_v (N := N) (s := s) (ws := wordsR) (by omega) N 0 (by omega) (by omega)
      rw [List.drop_zero] at this
      simp only [Int.natCast_zero] at this
      rw [this]
      simp
theorem F13_v {N : Nat} {s : List UInt8} (hs : s.length ≤ 1000) (hN : 1000 < N) : F13 N s = some (idB s) := by
  rw [F13_eq]
  unfold idB
  cases s with
  | nil => rfl
  | cons b r =>
    simp only [aIf_if, Int.ofNat_eq_natCast]
    rw [if_neg (by simp; omega)]
    by_cases h16 : (b :: r).length ≤ 16
    · rw [if_neg (by simp at h16 ⊢; omega), show (0 : Int) = ((0 : Nat) : Int) from rfl, onGet_nat (by simp), List.getElem_cons_zero, show ((b.toNat : Nat) : Int) = Int.ofNat b.toNat from rfl, F24_v, onSome_ok]
      have := L13_4_v hN hs N 0 (by omega) (by omega)
      rw [List.drop_zero] at this
      rw [this]
      have e : decide ((b :: r).length ≤ 16) = true := by simpa using h16
      have e2 : decide (b :: r ≠ []) = true := by simp
      simp only [List.headD_cons, e, e2, Bool.true_and]
      cases lw b <;> simp
    · rw [if_pos (by simp at h16 ⊢; omega)]
      have : decide ((b :: r).length ≤ 16) = false := by simpa using h16
      simp only [this, Bool.false_and, Bool.and_false]
theorem F4_true (s : List UInt8) : F4 4000 s = some true := by
  rw [F4_eq]
  simp only [aIf_if, Int.ofNat_eq_natCast]
  by_cases h : (1000 : Int) < s.length
  · rw [if_pos (by simpa using h)]
  · rw [if_neg (by simpa using h), F12_v (by omega) (by decide), onSome_ok, F13_v (by omega) (by decide), onSome_ok]
    simp
end Go.Proofs.Ytmnedpfilckilaa
