/- Notices: written, and read back, plainly. -/
import Derived.Test.YtaapljpfhgahbaaDoorNotB
set_option linter.unusedSimpArgs false
set_option linter.unusedVariables false
namespace Go.Proofs.YtaapljpfhgahbaaDoor
open Go.RowKit

def idR (h m : Int) : Int × Int := if h < 0 then (0, 3) else if 1048576 < h then (0, 3) else if m < 0 then (0, 3) else if 3599 < m then (0, 3) else (h * 4096 + m, 0)
theorem id_if {h m : Int} : (aIf (decide (h < 0)) (some ((0 : Int), (3 : Int))) (aIf (decide (1048576 < h)) (some (0, 3)) (aIf (decide (m < 0)) (some (0, 3)) (aIf (decide (3599 < m)) (some (0, 3)) (some (IntKind.i64.wrap (IntKind.i64.wrap (h * 4096) + m), 0)))))) = some (idR h m) := by
  simp only [aIf_if, decide_eq_true_eq, idR]
  by_cases h1 : h < 0
  · rw [if_pos h1, if_pos h1]
  by_cases h2 : 1048576 < h
  · rw [if_neg h1, if_neg h1, if_pos h2, if_pos h2]
  by_cases h3 : m < 0
  · rw [if_neg h1, if_neg h1, if_neg h2, if_neg h2, if_pos h3, if_pos h3]
  by_cases h4 : 3599 < m
  · rw [if_neg h1, if_neg h1, if_neg h2, if_neg h2, if_neg h3, if_neg h3, if_pos h4, if_pos h4]
  rw [if_neg h1, if_neg h1, if_neg h2, if_neg h2, if_neg h3, if_neg h3, if_neg h4, if_neg h4, w64 (x := h * 4096) (by omega) (by omega), w64 (by omega) (by omega)]
theorem F29_v (N : Nat) (h m : Int) : F29 N (h, m) = some (idR h m) := by rw [F29_eq]; exact id_if
theorem F30_v (N : Nat) (h m : Int) : F30 N (h, m) = some (idR h m) := by rw [F30_eq]; exact id_if
theorem idR_ok {h m : Int} (he : (idR h m).2 = 0) : 0 ≤ h ∧ h ≤ 1048576 ∧ 0 ≤ m ∧ m ≤ 3599 ∧ (idR h m).1 = h * 4096 + m := by
  unfold idR at he ⊢
  repeat' split at he
  all_goals first | (simp at he; done) | skip
  rename_i h1 h2 h3 h4
  rw [if_neg h1, if_neg h2, if_neg h3, if_neg h4]
  refine ⟨by omega, by omega, by omega, by omega, rfl⟩
abbrev Ntc := Int × Int × Int × Int × Int
def validN (n : Ntc) : Bool := decide ((idR n.2.1 n.2.2.1).2 = 0 ∧ (idR n.2.1 n.2.2.1).1 = n.1 ∧ 1 ≤ n.2.2.2.1 ∧ n.2.2.2.1 ≤ 4 ∧ 0 ≤ n.2.2.2.2 ∧ n.2.2.2.2 ≤ 1000000000000000)
theorem valid_if {x y a k c : Int} : (aIf (y == 0) (aIf (x == a) (aIf (decide (1 ≤ k)) (aIf (decide (k ≤ 4)) (aIf (decide (0 ≤ c)) (some (decide (c ≤ 1000000000000000))) (some false)) (some false)) (some false)) (some false)) (some false)) = some (decide (y = 0 ∧ x = a ∧ 1 ≤ k ∧ k ≤ 4 ∧ 0 ≤ c ∧ c ≤ 1000000000000000)) := by
  simp only [aIf_if, decide_eq_true_eq, beq_iff_eq]
  by_cases h1 : y = 0
  rotate_left
  · simp [h1]
  by_cases h2 : x = a
  rotate_left
  · simp [h1, h2]
  by_cases h3 : 1 ≤ k
  rotate_left
  · simp [h1, h2, h3]
  by_cases h4 : k ≤ 4
  rotate_left
  · simp [h1, h2, h3, h4]
  by_cases h5 : 0 ≤ c <;> simp [h1, h2, h3, h4, h5]
theorem F51_v (N : Nat) (a h m k c : Int) : F51 N (a, h, m, k, c) = some (validN (a, h, m, k, c)) := by
  rw [F51_eq, F29_v, onSome_ok, valid_if]; rfl
theorem F55_v (N : Nat) (a h m k c : Int) : F55 N (a, h, m, k, c) = some (validN (a, h, m, k, c)) := by
  rw [F55_eq, F30_v, onSome_ok, valid_if]; rfl
def kindsL : List (List UInt8) := [[], [97, 114, 114, 101, 97, 114, 115], [114, 101, 103, 117, 108, 97, 114], [114, 101, 99, 111, 118, 101, 114, 121], [110, 111, 110, 101]]
def wNotice : List UInt8 := [110, 111, 116, 105, 99, 101]
def wHouse : List UInt8 := [104, 111, 117, 115, 101, 104, 111, 108, 100]
def wMonth : List UInt8 := [109, 111, 110, 116, 104]
def wordsN (n : Ntc) : List (List UInt8) := [wNotice, itoaF n.1, wHouse, itoaF n.2.1, wMonth, fmtM n.2.2.1, kindsL.getD n.2.2.2.1.toNat [], fixS 2 (itoaF n.2.2.2.2)]
def fmtN (n : Ntc) : List UInt8 := if validN n then jw (wordsN n) else []
theorem validN_ok {n : Ntc} (h : validN n = true) : 0 ≤ n.2.1 ∧ n.2.1 ≤ 1048576 ∧ 0 ≤ n.2.2.1 ∧ n.2.2.1 ≤ 3599 ∧ n.1 = n.2.1 * 4096 + n.2.2.1 ∧ 1 ≤ n.2.2.2.1 ∧ n.2.2.2.1 ≤ 4 ∧ 0 ≤ n.2.2.2.2 ∧ n.2.2.2.2 ≤ 1000000000000000 := by
  have h := of_decide_eq_true h
  have := idR_ok h.1
  omega
theorem fmtM_len (m : Int) : (fmtM m).length ≤ 61 := by
  unfold fmtM
  have h1 := padS_len (w := 4) (n := 1900 + m / 12) (by decide)
  have h2 := padS_len (w := 2) (n := m % 12 + 1) (by decide)
  split
  · simp; omega
  · simp
theorem kinds_len (k : Nat) : (kindsL.getD k []).length ≤ 8 := by
  match k with
  | 0 => decide
  | 1 => decide
  | 2 => decide
  | 3 => decide
  | 4 => decide
  | k + 5 => simp [kindsL]
theorem join8 (a b c d e f g h : List UInt8) : Lib.join [a, b, c, d, e, f, g, h] [32] = jw [a, b, c, d, e, f, g, h] := by
  simp [Lib.join, List.intercalate, List.intersperse, jw]
theorem jw8_len {a b c d e f g h : List UInt8} : (jw [a, b, c, d, e, f, g, h]).length = a.length + b.length + c.length + d.length + e.length + f.length + g.length + h.length + 7 := by
  simp [jw]; omega
theorem F34_v (N : Nat) (n : Ntc) : F34 N n = some (fmtN n) := by
  obtain ⟨a, h, m, k, c⟩ := n
  rw [F34_eq, F51_v, onSome_ok, fmtN]
  cases hv : validN (a, h, m, k, c) with
  | false => rfl
  | true =>
    have hb := validN_ok hv
    dsimp only at hb
    have l1 := itoaF_len a
    have l2 := itoaF_len h
    have l3 := fmtM_len m
    have l4 := kinds_len k.toNat
    have l5 := fixS_len 2 (itoaF c)
    have l6 := itoaF_len c
    rw [aIf_if, if_neg (by simp), F39_itoa (by omega) (by omega), onSome_ok, F39_itoa (by omega) (by omega), onSome_ok, F53_v, onSome_ok, F54_eq, onSome_ok]
    have hk : (onGet [PV.str [], PV.str [(97 : UInt8), (114 : UInt8), (114 : UInt8), (101 : UInt8), (97 : UInt8), (114 : UInt8), (115 : UInt8)], PV.str [(114 : UInt8), (101 : UInt8), (103 : UInt8), (117 : UInt8), (108 : UInt8), (97 : UInt8), (114 : UInt8)], PV.str [(114 : UInt8), (101 : UInt8), (99 : UInt8), (111 : UInt8), (118 : UInt8), (101 : UInt8), (114 : UInt8), (121 : UInt8)], PV.str [(110 : UInt8), (111 : UInt8), (110 : UInt8), (101 : UInt8)]] k : (PV → Option (List UInt8)) → Option (List UInt8)) = onGet (kindsL.map PV.str) k := rfl
    rw [hk, onMem (by omega) (by show k < ((5 : Nat) : Int); omega), F40_fix (by omega) (by omega), onSome_ok]
    have hj : F52 N ([PV.str wNotice, PV.str (itoaF a), PV.str wHouse, PV.str (itoaF h), PV.str wMonth, PV.str (fmtM m), PV.str (kindsL.getD k.toNat []), PV.str (fixS 2 (itoaF c))], [32]) = some (jw (wordsN (a, h, m, k, c))) := by
      show onStrs ((wordsN (a, h, m, k, c)).map PV.str) _ = _
      rw [onStrs_ok, aGd_if, if_pos (by simp [wordsN]), aGd_if]
      have : Lib.join (wordsN (a, h, m, k, c)) [32] = jw (wordsN (a, h, m, k, c)) := join8 _ _ _ _ _ _ _ _
      have hw : wNotice.length = 6 ∧ wHouse.length = 9 ∧ wMonth.length = 5 := ⟨rfl, rfl, rfl⟩
      rw [this, if_pos]
      rw [decide_eq_true_eq]
      unfold wordsN
      rw [jw8_len]
      dsimp only
      omega
    exact (congrArg (fun o => onSome o fun y => some y) hj).trans rfl
theorem F57_v (N : Nat) {k : Int} (h1 : 1 ≤ k) (h2 : k ≤ 4) : F57 N k = some (kindsL.getD k.toNat []) := by
  rw [F57_eq]
  have : k = 1 ∨ k = 2 ∨ k = 3 ∨ k = 4 := by omega
  rcases this with rfl | rfl | rfl | rfl <;> rfl
theorem F35_v {N : Nat} (hN : 300 < N) (n : Ntc) : F35 N n = some (fmtN n) := by
  obtain ⟨a, h, m, k, c⟩ := n
  rw [F35_eq, F55_v, onSome_ok, fmtN]
  cases hv : validN (a, h, m, k, c) with
  | false => rfl
  | true =>
    have hb := validN_ok hv
    dsimp only at hb
    have l1 := itoaF_len a
    have l2 := itoaF_len h
    have l3 := fmtM_len m
    have l4 := kinds_len k.toNat
    have l5 := fixS_len 2 (itoaF c)
    have l6 := itoaF_len c
    rw [aIf_if, if_neg (by simp)]
    simp only [F42_itoa (N := N) (n := a) (by omega) (by omega), F42_itoa (N := N) (n := h) (by omega) (by omega), F56_v, F57_v N hb.2.2.2.2.2.1 hb.2.2.2.2.2.2.1, F43_fix (N := N) (n := c) (a1 := 2) (by omega) (by omega) (by omega), onSome_ok, aGd_if, show clampN 2 = 2 from rfl]
    simp only [wordsN]
    generalize kindsL.getD k.toNat [] = K at *
    repeat rw [if_pos (by simp; omega)]
    simp [jw, wNotice, wHouse, wMonth]
end Go.Proofs.YtaapljpfhgahbaaDoor
