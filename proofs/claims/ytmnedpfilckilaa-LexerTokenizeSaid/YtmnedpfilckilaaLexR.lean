/- The lexer's reference, plainly: runs, dates' form, amounts, names. -/
import Derived.Test.YtmnedpfilckilaaLexU
set_option linter.unusedSimpArgs false
set_option linter.unusedVariables false
namespace Go.Proofs.Ytmnedpfilckilaa
open Go.RowKit
set_option maxRecDepth 100000

theorem L50_v {N : Nat} {s : List UInt8} (hs : s.length ≤ 1000000) : ∀ (n p : Nat), p ≤ s.length → s.length - p < n → L50_1 N n s (p : Int) = some ((p + nD (s.drop p) : Nat) : Int)
  | 0, p, _, h => by omega
  | n + 1, p, hp, hn => by
    rw [L50_1_eq]
    unfold nD
    simp only [aIf_if, Int.ofNat_eq_natCast]
    by_cases hlt : p < s.length
    · have ih := L50_v (N := N) hs n (p + 1) (by omega) (by omega)
      unfold nD at ih
      rw [if_pos (by simp; omega), onGet_nat hlt, show ((s[p].toNat : Nat) : Int) = Int.ofNat s[p].toNat from rfl, F36_v, onSome_ok, w64 (by omega) (by omega), List.drop_eq_getElem_cons hlt, List.takeWhile_cons]
      simp only [Int.natCast_add, Int.natCast_one] at ih ⊢
      rw [ih]
      cases dgt s[p] with
      | true => simp; omega
      | false => simp
    · rw [if_neg (by simp; omega), List.drop_eq_nil_of_le (by omega)]
      simp
theorem F50_v {N : Nat} {s : List UInt8} {p : Nat} (hs : s.length ≤ 1000000) (hp : p ≤ s.length) (hN : s.length < N) : F50 N (s, (p : Int)) = some ((p + nD (s.drop p) : Nat) : Int) := by
  rw [F50_eq]
  exact L50_v hs N p hp (by omega)
theorem getD_drop {s : List UInt8} {i j : Nat} (h : i + j < s.length) : (s.drop i).getD j 0 = s[i + j] := by
  rw [List.getD_eq_getElem?_getD, List.getElem?_drop, List.getElem?_eq_getElem h]; rfl
theorem L51_v {N : Nat} {s : List UInt8} {i : Nat} (hs : s.length ≤ 1000000) (hi : i + 10 ≤ s.length) : ∀ (k n j : Nat), j + k = 10 → k < n → L51_4 N n s (i : Int) (j : Int) = some (dtF (s.drop i) k j)
  | 0, 0, j, _, h => by omega
  | 0, n + 1, j, hi, hn => by
    rw [L51_4_eq, aIf_if, if_neg (by simp; omega)]; rfl
  | k + 1, 0, j, _, h => by omega
  | k + 1, n + 1, j, hj, hn => by
    have ih := L51_v (N := N) hs hi k n (j + 1) (by omega) (by omega)
    simp only [Int.natCast_add, Int.natCast_one] at ih
    have hlt : i + j < s.length := by omega
    have e0 : IntKind.wrap IntKind.i64 ((i : Int) + (j : Int)) = ((i + j : Nat) : Int) := by rw [w64] <;> omega
    rw [L51_4_eq, aIf_if, if_pos (by simp; omega)]
    simp only [aIf_if, e0, onGet_nat hlt]
    rw [w64 (by omega) (by omega), ih, F36_v, onSome_ok, dtF, getD_drop hlt]
    unfold dtc
    have e4 : ((j : Int) == 4) = decide (j = 4) := beqN (n := j) (m := 4)
    have e7 : ((j : Int) == 7) = decide (j = 7) := beqN (n := j) (m := 7)
    have e45 : (Int.ofNat s[i + j].toNat != 45) = !decide (s[i + j].toNat = 45) := by rw [bne, show (45 : Int) = ((45 : Nat) : Int) from rfl, beqN]
    rw [e4, e7, e45]
    by_cases h4 : j = 4
    · by_cases h : s[i + j].toNat = 45 <;> simp [h4] <;> simp [h4] at h <;> simp [h]
    · by_cases h7 : j = 7
      · by_cases h : s[i + j].toNat = 45 <;> simp [h7] <;> simp [h7] at h <;> simp [h]
      · simp only [h4, h7, decide_false, Bool.false_eq_true, if_false]
        cases dgt s[i + j] <;> simp
theorem F51_v {N : Nat} {s : List UInt8} {i : Nat} (hs : s.length ≤ 1000000) (hi : i ≤ s.length) (hN : 10 < N) : F51 N (s, (i : Int)) = some (isDt (s.drop i)) := by
  have e0 : IntKind.wrap IntKind.i64 ((s.length : Int) - (i : Int)) = ((s.length - i : Nat) : Int) := by rw [w64] <;> omega
  rw [F51_eq, aIf_if]
  simp only [Int.ofNat_eq_natCast, e0]
  unfold isDt
  by_cases h : s.length - i < 10
  · rw [if_pos (by simp; omega)]
    have : decide (10 ≤ (s.drop i).length) = false := by simp; omega
    rw [this]; rfl
  · rw [if_neg (by simp; omega)]
    have : decide (10 ≤ (s.drop i).length) = true := by simp; omega
    rw [this]
    exact L51_v hs (by omega) 10 N 0 (by omega) hN
theorem F52_v (N : Nat) (b : UInt8) : F52 N (Int.ofNat b.toNat) = some (gl b) := by
  have e46 : (Int.ofNat b.toNat == 46) = decide (b.toNat = 46) := beqN (m := 46)
  have e65 : decide ((65 : Int) ≤ Int.ofNat b.toNat) = decide (65 ≤ b.toNat) := decide_eq_decide.2 (by simp only [Int.ofNat_eq_natCast]; omega)
  have e90 : decide (Int.ofNat b.toNat ≤ (90 : Int)) = decide (b.toNat ≤ 90) := decide_eq_decide.2 (by simp only [Int.ofNat_eq_natCast]; omega)
  rw [F52_eq, F25_v, onSome_ok, e46, e65, e90]
  unfold gl pt
  generalize lw b = a
  generalize dgt b = c
  generalize decide (b.toNat = 95) = d
  generalize decide (b.toNat = 46) = f
  generalize decide (65 ≤ b.toNat) = g
  generalize decide (b.toNat ≤ 90) = h
  cases a <;> cases c <;> cases d <;> cases f <;> cases g <;> cases h <;> rfl

/-! ## Amounts -/
def dvl : Nat → List UInt8 → Nat
  | v, [] => v
  | v, b :: l => dvl (if dgt b = true then v * 10 + (b.toNat - 48) else v) l
theorem dvl_mono : ∀ (l : List UInt8) (v : Nat), v ≤ dvl v l
  | [], v => Nat.le_refl _
  | b :: l, v => by
    rw [dvl]
    have := dvl_mono l (if dgt b = true then v * 10 + (b.toNat - 48) else v)
    split at this <;> simp_all <;> omega
theorem dvl_app : ∀ (a b : List UInt8) (v : Nat), dvl v (a ++ b) = dvl (dvl v a) b
  | [], b, v => rfl
  | c :: a, b, v => by rw [List.cons_append, dvl, dvl, dvl_app]
theorem dvl_digits : ∀ (l : List UInt8) (v : Nat), l.all dg = true → dvl v l = vl v l
  | [], v, _ => rfl
  | b :: l, v, h => by
    rw [List.all_cons, Bool.and_eq_true] at h
    rw [dvl, vl_cons, if_pos (show dgt b = true from h.1), dvl_digits l _ h.2]
theorem L54_v {N : Nat} {s : List UInt8} {lim : Nat} (hlim : lim ≤ 1000000000000000) (hs : s.length ≤ 1000000) : ∀ (n p v : Nat), p ≤ s.length → s.length - p < n → v ≤ lim →
    L54_3 N n s (lim : Int) (v : Int) (p : Int) = some (if lim < dvl v (s.drop p) then ((lim + 1 : Nat) : Int) else ((dvl v (s.drop p) : Nat) : Int))
  | 0, p, v, _, h, _ => by omega
  | n + 1, p, v, hp, hn, hv => by
    rw [L54_3_eq]
    simp only [aIf_if, Int.ofNat_eq_natCast]
    have el : IntKind.wrap IntKind.i64 ((lim : Int) + 1) = ((lim + 1 : Nat) : Int) := by rw [w64] <;> omega
    by_cases hlt : p < s.length
    · have ep : IntKind.wrap IntKind.i64 ((p : Int) + 1) = ((p + 1 : Nat) : Int) := by rw [w64] <;> omega
      rw [if_pos (by simp; omega), onGet_nat hlt, show ((s[p].toNat : Nat) : Int) = Int.ofNat s[p].toNat from rfl, F36_v, onSome_ok, List.drop_eq_getElem_cons hlt, dvl]
      cases hd : dgt s[p] with
      | true =>
        have hd' : 48 ≤ s[p].toNat ∧ s[p].toNat ≤ 57 := by unfold dgt at hd; simpa using hd
        have e8 : IntKind.wrap IntKind.u8 (((s[p].toNat : Nat) : Int) - 48) = ((s[p].toNat - 48 : Nat) : Int) := by
          rw [w8] <;> omega
        have ev : IntKind.wrap IntKind.i64 ((v : Int) * 10) = ((v * 10 : Nat) : Int) := by rw [w64] <;> omega
        have e9 : IntKind.wrap IntKind.i64 (((s[p].toNat - 48 : Nat)) : Int) = ((s[p].toNat - 48 : Nat) : Int) := by rw [w64] <;> omega
        have e10 : IntKind.wrap IntKind.i64 (((v * 10 : Nat) : Int) + ((s[p].toNat - 48 : Nat) : Int)) = ((v * 10 + (s[p].toNat - 48) : Nat) : Int) := by rw [w64] <;> omega
        simp only [if_true, onGet_nat hlt, Int.ofNat_eq_natCast, e8, ev, e9, e10, ep, el]
        by_cases hg : lim < v * 10 + (s[p].toNat - 48)
        · have := dvl_mono (s.drop (p + 1)) (v * 10 + (s[p].toNat - 48))
          rw [if_pos (by simp; omega), if_pos (by omega)]
        · rw [if_neg (by simp; omega)]
          exact L54_v hlim hs n (p + 1) _ (by omega) (by omega) (by omega)
      | false =>
        simp only [Bool.false_eq_true, if_false, ep, el]
        rw [if_neg (by simp; omega)]
        exact L54_v hlim hs n (p + 1) v (by omega) (by omega) hv
    · rw [if_neg (by simp; omega), List.drop_eq_nil_of_le (by omega), dvl, if_neg (by omega)]
theorem F54_v {N : Nat} {s : List UInt8} {lim : Nat} (hlim : lim ≤ 1000000000000000) (hs : s.length ≤ 1000000) (hN : s.length < N) :
    F54 N (s, (lim : Int)) = some (if lim < dvl 0 s then ((lim + 1 : Nat) : Int) else ((dvl 0 s : Nat) : Int)) := by
  rw [F54_eq]
  exact L54_v hlim hs N 0 0 (by omega) (by omega) (by omega)

/-! ## What the reference answers at a place -/
/-- The reference's answer y at i is the program's answer: token t, length, code. -/
def AtI (i : Nat) (y : TokT × Int × Int) (t : TokT) (len c : Int) : Prop := y.2.2 = c ∧ (c = 0 → y.1 = (t.1, t.2.1, t.2.2.1, (i : Int)) ∧ y.2.1 = (i : Int) + len)
theorem sub_take {s : List UInt8} {i q : Nat} : List.drop i (List.take (i + q) s) = (s.drop i).take q := by
  rw [List.drop_take, Nat.add_sub_cancel_left]
/-- The end of a name, at x = i + q. -/
theorem name_end {s : List UInt8} {i q : Nat} (hs : s.length ≤ 1000000) (hq : i + q ≤ s.length) :
    ∃ y, aIf (decide ((16 : Int) < IntKind.wrap IntKind.i64 (((i + q : Nat) : Int) - (i : Int)))) (aGd (decide (0 + 4 ≤ 4)) (some ((((0 : Int), [], (0 : Int), (0 : Int)) : TokT), (0 : Int), (4 : Int))))
      (aGd (decide ((0 : Int) ≤ ((i + q : Nat) : Int))) (aGd (decide (((i + q : Nat) : Int) ≤ Int.ofNat s.length)) (aGd (decide ((0 : Int) ≤ (i : Int))) (aGd (decide ((i : Int) ≤ Int.ofNat (Int.toNat ((i + q : Nat) : Int))))
        (aGd (decide (0 + 4 ≤ 4)) (some (((1 : Int), List.drop (Int.toNat (i : Int)) (List.take (Int.toNat ((i + q : Nat) : Int)) s), (0 : Int), (i : Int)), ((i + q : Nat) : Int), (0 : Int)))))))) = some y ∧
      AtI i y (if 16 < q then z4 else (1, (s.drop i).take q, 0, 0)) (if 16 < q then 0 else (q : Int)) (if 16 < q then 4 else 0) := by
  have e0 : IntKind.wrap IntKind.i64 (((i + q : Nat) : Int) - (i : Int)) = (q : Int) := by rw [w64] <;> omega
  rw [e0, aIf_if]
  by_cases h : 16 < q
  · rw [if_pos (by simp; omega), if_pos h]
    exact ⟨_, rfl, by rw [if_pos h], fun e => by rw [if_pos h] at e; cases e⟩
  · rw [if_neg (by simp; omega), aGd_if, if_pos (by simp; omega), aGd_if, if_pos (by simp; omega), aGd_if, if_pos (by simp), aGd_if, if_pos (by simp; omega), aGd04, if_neg h, if_neg h, if_neg h]
    refine ⟨_, rfl, rfl, fun _ => ?_⟩
    exact ⟨by simp only [Int.toNat_natCast, sub_take], Int.natCast_add i q⟩
theorem L35_v {N : Nat} {s : List UInt8} {i : Nat} (hs : s.length ≤ 1000000) : ∀ (n q : Nat), i + q ≤ s.length → s.length - (i + q) < n →
    ∃ y, L35_2 N n s (i : Int) ((i + q : Nat) : Int) 0 [] 0 0 = some y ∧
      AtI i y (if 16 < q + ((s.drop (i + q)).takeWhile pt).length then z4 else (1, (s.drop i).take (q + ((s.drop (i + q)).takeWhile pt).length), 0, 0)) (if 16 < q + ((s.drop (i + q)).takeWhile pt).length then 0 else ((q + ((s.drop (i + q)).takeWhile pt).length : Nat) : Int)) (if 16 < q + ((s.drop (i + q)).takeWhile pt).length then 4 else 0)
  | 0, q, _, h => by omega
  | n + 1, q, hq, hn => by
    rw [L35_2_eq]
    by_cases hlt : i + q < s.length
    · have ep : IntKind.wrap IntKind.i64 (((i + q : Nat) : Int) + 1) = ((i + (q + 1) : Nat) : Int) := by rw [w64] <;> omega
      rw [aIf_if, if_pos (by simp; omega), onGet_nat hlt, F25_v, onSome_ok, List.drop_eq_getElem_cons hlt, List.takeWhile_cons]
      cases hp : pt s[i + q] with
      | true =>
        have ih := L35_v (N := N) (i := i) hs n (q + 1) (by omega) (by omega)
        rw [aIf_t, ep]
        simp only [if_true, List.length_cons]
        rw [show q + (((s.drop (i + q + 1)).takeWhile pt).length + 1) = q + 1 + ((s.drop (i + (q + 1))).takeWhile pt).length by rw [Nat.add_assoc i q 1]; omega]
        exact ih
      | false =>
        rw [aIf_f]
        simp only [Bool.false_eq_true, if_false, List.length_nil, Nat.add_zero]
        exact name_end hs hq
    · have e : s.drop (i + q) = [] := List.drop_eq_nil_of_le (by omega)
      rw [aIf_if, if_neg (by simp; omega), e]
      exact name_end hs hq
theorem F35_v {N : Nat} {s : List UInt8} {i : Nat} (hs : s.length ≤ 1000000) (hi : i ≤ s.length) (hN : s.length < N) :
    ∃ y, F35 N (s, (i : Int)) = some y ∧ AtI i y (if 16 < ((s.drop i).takeWhile pt).length then z4 else (1, (s.drop i).take ((s.drop i).takeWhile pt).length, 0, 0)) (if 16 < ((s.drop i).takeWhile pt).length then 0 else (((s.drop i).takeWhile pt).length : Int)) (if 16 < ((s.drop i).takeWhile pt).length then 4 else 0) := by
  have := L35_v (N := N) (i := i) hs N 0 (by omega) (by omega)
  rw [F35_eq]
  simpa only [Nat.add_zero, Nat.zero_add] using this
end Go.Proofs.Ytmnedpfilckilaa
