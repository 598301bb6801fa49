/- Equality of cases, plainly. -/
import Derived.Test.YtflpiekacionaaaDoorCasB
set_option linter.unusedSimpArgs false
set_option linter.unusedVariables false
namespace Go.Proofs.YtflpiekacionaaaDoor
open Go.RowKit

theorem eq_step {α : Type} [DecidableEq α] (a b : α) (l m : List α) : (if (!decide (a = b)) = true then some false else some (decide (l = m))) = some (decide (a :: l = b :: m)) := by
  by_cases h : a = b <;> simp [h]
theorem v3_beq (v w : ValT) : (v.1 == w.1 && (v.2.1 == w.2.1 && (v.2.2 == w.2.2 && true))) = decide (v = w) := by
  obtain ⟨a, b, c⟩ := v
  obtain ⟨d, e, f⟩ := w
  by_cases h1 : a = d <;> by_cases h2 : b = e <;> by_cases h3 : c = f <;> simp [h1, h2, h3]
theorem L62_v {N : Nat} {V U : List ValT} (hV : V.length ≤ 1000000) (hl : V.length = U.length) : ∀ (n p : Nat), p ≤ V.length → V.length - p < n →
    L62_4 N n (V.map valPV) (U.map valPV) (p : Int) = some (decide (V.drop p = U.drop p))
  | 0, p, _, h => by omega
  | n + 1, p, hp, hn => by
    rw [L62_4_eq]
    simp only [aIf_if, List.length_map, Int.ofNat_eq_natCast]
    by_cases hlt : p < V.length
    · have hlt2 : p < U.length := by omega
      have ih := L62_v (N := N) hV hl n (p + 1) (by omega) (by omega)
      rw [if_pos (by simp; omega), if_pos (by simp; omega), onGetMap hlt, onVal3, onGetMap hlt2, onVal3, v3_beq, w64 (by omega) (by omega), List.drop_eq_getElem_cons hlt, List.drop_eq_getElem_cons hlt2]
      simp only [Int.natCast_add, Int.natCast_one] at ih
      rw [ih]
      exact eq_step _ _ _ _
    · rw [if_neg (by simp; omega), List.drop_eq_nil_of_le (by omega), List.drop_eq_nil_of_le (by omega)]
      simp
theorem F62_v {N : Nat} {V U : List ValT} (hV : V.length < N) (hN : N ≤ 1000000) : F62 N (V.map valPV, U.map valPV) = some (decide (V = U)) := by
  rw [F62_eq]
  simp only [aIf_if, List.length_map, Int.ofNat_eq_natCast]
  by_cases h : V.length = U.length
  · rw [if_neg (by simp [h])]
    exact L62_v (by omega) h N 0 (by omega) (by omega)
  · have h2 : ¬ V = U := fun e => h (by rw [e])
    rw [if_pos (by simp; omega)]
    simp [h2]
theorem L63_v {N : Nat} (hN : N ≤ 1000000) {V U : List (List ValT)} (hV : V.length ≤ 1000000) (hm : ∀ m ∈ V, m.length < N) (hl : V.length = U.length) : ∀ (n p : Nat), p ≤ V.length → V.length - p < n →
    L63_4 N n (V.map memPV) (U.map memPV) (p : Int) = some (decide (V.drop p = U.drop p))
  | 0, p, _, h => by omega
  | n + 1, p, hp, hn => by
    rw [L63_4_eq]
    simp only [aIf_if, List.length_map, Int.ofNat_eq_natCast]
    by_cases hlt : p < V.length
    · have hlt2 : p < U.length := by omega
      have ih := L63_v hN hV hm hl n (p + 1) (by omega) (by omega)
      rw [if_pos (by simp; omega), if_pos (by simp; omega), onGetMap hlt, onMem3, onGetMap hlt2, onMem3, F62_v (hm _ (List.getElem_mem hlt)) hN, onSome_ok, w64 (by omega) (by omega), List.drop_eq_getElem_cons hlt, List.drop_eq_getElem_cons hlt2]
      simp only [Int.natCast_add, Int.natCast_one] at ih
      rw [ih]
      exact eq_step _ _ _ _
    · rw [if_neg (by simp; omega), List.drop_eq_nil_of_le (by omega), List.drop_eq_nil_of_le (by omega)]
      simp
theorem F63_v {N : Nat} (hN : N ≤ 1000000) {V U : List (List ValT)} (hV : V.length < N) (hm : ∀ m ∈ V, m.length < N) : F63 N (V.map memPV, U.map memPV) = some (decide (V = U)) := by
  rw [F63_eq]
  simp only [aIf_if, List.length_map, Int.ofNat_eq_natCast]
  by_cases h : V.length = U.length
  · rw [if_neg (by simp [h])]
    exact L63_v hN (by omega) hm h N 0 (by omega) (by omega)
  · have h2 : ¬ V = U := fun e => h (by rw [e])
    rw [if_pos (by simp; omega)]
    simp [h2]
theorem F27_v {N : Nat} (hN : N ≤ 1000000) {c b : CasT} (h1 : c.2.1.length < N) (h2 : c.2.2.length < N) (hm : ∀ m ∈ c.2.2, m.length < N) : F27 N ((c.1, c.2.1.map valPV, c.2.2.map memPV), b.1, b.2.1.map valPV, b.2.2.map memPV) = some (decide (c = b)) := by
  obtain ⟨d, I, M⟩ := c
  obtain ⟨d2, I2, M2⟩ := b
  dsimp only at h1 h2 hm
  rw [F27_eq]
  dsimp only
  rw [F62_v h1 hN, onSome_ok, F63_v hN h2 hm, onSome_ok]
  simp only [aIf_if]
  by_cases a : d = d2 <;> by_cases b : I = I2 <;> simp [a, b]
theorem L66_v {N : Nat} {V U : List ValT} (hV : V.length ≤ 1000000) (hl : V.length = U.length) : ∀ (n p : Nat), p ≤ V.length → V.length - p < n →
    L66_4 N n (V.map valPV) (U.map valPV) (V.length : Int) (p : Int) = some (decide (V.drop p = U.drop p))
  | 0, p, _, h => by omega
  | n + 1, p, hp, hn => by
    rw [L66_4_eq]
    simp only [aIf_if]
    by_cases hlt : p < V.length
    · have hlt2 : p < U.length := by omega
      have ih := L66_v (N := N) hV hl n (p + 1) (by omega) (by omega)
      rw [if_pos (by simp; omega), onGetMap hlt, onVal3, onGetMap hlt2, onVal3, v3_beq, w64 (by omega) (by omega), List.drop_eq_getElem_cons hlt, List.drop_eq_getElem_cons hlt2]
      simp only [Int.natCast_add, Int.natCast_one] at ih
      rw [ih]
      exact eq_step _ _ _ _
    · rw [if_neg (by simp; omega), List.drop_eq_nil_of_le (by omega), List.drop_eq_nil_of_le (by omega)]
      simp
theorem F66_v {N : Nat} {V U : List ValT} (hV : V.length < N) (hN : N ≤ 1000000) : F66 N (V.map valPV, U.map valPV) = some (decide (V = U)) := by
  rw [F66_eq]
  simp only [aIf_if, List.length_map, Int.ofNat_eq_natCast]
  by_cases h : V.length = U.length
  · rw [if_neg (by simp [h])]
    exact L66_v (by omega) h N 0 (by omega) (by omega)
  · have h2 : ¬ V = U := fun e => h (by rw [e])
    rw [if_pos (by simp; omega)]
    simp [h2]
theorem L67_v {N : Nat} (hN : N ≤ 1000000) {V U : List (List ValT)} (hV : V.length ≤ 1000000) (hm : ∀ m ∈ V, m.length < N) (hl : V.length = U.length) : ∀ (n p : Nat), p ≤ V.length → V.length - p < n →
    L67_4 N n (U.map memPV) (V.map memPV) (V.length : Int) (p : Int) = some (decide (V.drop p = U.drop p))
  | 0, p, _, h => by omega
  | n + 1, p, hp, hn => by
    rw [L67_4_eq]
    simp only [aIf_if]
    by_cases hlt : p < V.length
    · have hlt2 : p < U.length := by omega
      have ih := L67_v hN hV hm hl n (p + 1) (by omega) (by omega)
      rw [if_pos (by simp; omega), onGetMap hlt, onMem3, onGetMap hlt2, onMem3, F66_v (hm _ (List.getElem_mem hlt)) hN, onSome_ok, w64 (by omega) (by omega), List.drop_eq_getElem_cons hlt, List.drop_eq_getElem_cons hlt2]
      simp only [Int.natCast_add, Int.natCast_one] at ih
      rw [ih]
      exact eq_step _ _ _ _
    · rw [if_neg (by simp; omega), List.drop_eq_nil_of_le (by omega), List.drop_eq_nil_of_le (by omega)]
      simp
theorem F29_v {N : Nat} (hN : N ≤ 1000000) {c b : CasT} (h1 : c.2.1.length < N) (h2 : c.2.2.length < N) (hm : ∀ m ∈ c.2.2, m.length < N) : F29 N ((c.1, c.2.1.map valPV, c.2.2.map memPV), b.1, b.2.1.map valPV, b.2.2.map memPV) = some (decide (c = b)) := by
  obtain ⟨d, I, M⟩ := c
  obtain ⟨d2, I2, M2⟩ := b
  dsimp only at h1 h2 hm
  have hf : F67 N (M.map memPV, M2.map memPV, PUnit.unit) = some (decide (M = M2)) := by
    rw [F67_eq]
    simp only [aIf_if, List.length_map, Int.ofNat_eq_natCast]
    by_cases h : M.length = M2.length
    · rw [if_neg (by simp [h])]
      exact L67_v hN (by omega) hm h N 0 (by omega) (by omega)
    · have h2 : ¬ M = M2 := fun e => h (by rw [e])
      rw [if_pos (by simp; omega)]
      simp [h2]
  rw [F29_eq]
  dsimp only
  rw [F66_v h1 hN, onSome_ok, hf, onSome_ok]
  simp only [aIf_if]
  by_cases a : d = d2 <;> by_cases b : I = I2 <;> simp [a, b]
theorem F11_true (c b : CasT) : F11 4000 ((c.1, c.2.1.map valPV, c.2.2.map memPV), b.1, b.2.1.map valPV, b.2.2.map memPV) = some true := by
  rw [F11_eq]
  dsimp only
  obtain ⟨x, hx, hc⟩ := F22_v (N := 4000) (by decide) c
  obtain ⟨y, hy, hb⟩ := F22_v (N := 4000) (by decide) b
  rw [hx, onSome_ok, aIf_if]
  cases x with
  | false => rfl
  | true =>
    rw [if_neg (by simp), hy, onSome_ok, aIf_if]
    cases y with
    | false => rfl
    | true =>
      obtain ⟨c1, c2, c3⟩ := hc rfl
      obtain ⟨b1, b2, b3⟩ := hb rfl
      have c3' : ∀ m ∈ c.2.2, m.length < 4000 := fun m hm => by have := c3 m hm; omega
      have b3' : ∀ m ∈ b.2.2, m.length < 4000 := fun m hm => by have := b3 m hm; omega
      rw [if_neg (by simp), F29_v (by decide) (by omega) (by omega) c3', onSome_ok, F27_v (by decide) (by omega) (by omega) c3', onSome_ok, F29_v (by decide) (by omega) (by omega) c3', onSome_ok,
        F29_v (by decide) (by omega) (by omega) b3', onSome_ok]
      simp only [aIf_if]
      by_cases h : c = b
      · subst h; simp [onSome_ok]
      · have h' : ¬ b = c := fun e => h e.symm
        simp [h, h', onSome_ok]
end Go.Proofs.YtflpiekacionaaaDoor
