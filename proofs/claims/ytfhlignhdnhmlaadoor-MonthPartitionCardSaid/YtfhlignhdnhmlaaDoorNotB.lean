/- Notices: their texts, and how they are read, plainly. -/
import Derived.Test.YtfhlignhdnhmlaaDoorNotA
import Derived.Test.YtfhlignhdnhmlaaDoorValD
set_option linter.unusedSimpArgs false
set_option linter.unusedVariables false
namespace Go.Proofs.YtfhlignhdnhmlaaDoor
open Go.RowKit

/-! ## Months read -/
def parM (s : List UInt8) : Int × Int :=
  if s.length = 7 ∧ s[4]? = some 45 ∧ (s.take 4).all dg = true ∧ (s.drop 5).all dg = true
  then (if vl 0 (s.take 4) < 1900 ∨ 2199 < vl 0 (s.take 4) ∨ vl 0 (s.drop 5) < 1 ∨ 12 < vl 0 (s.drop 5) then (0, 3) else ((12 * ((vl 0 (s.take 4) : Int) - 1900) + vl 0 (s.drop 5) - 1), 0)) else (0, 2)
theorem list7 {s : List UInt8} (h : s.length = 7) : ∃ a b c d e f g, s = [a, b, c, d, e, f, g] := by
  match s, h with | [a, b, c, d, e, f, g], _ => exact ⟨a, b, c, d, e, f, g, rfl⟩
theorem L24_step {N n : Nat} {s : List UInt8} {v p : Nat} (hl : s.length = 7) (hp : p < 7) (h4 : p ≠ 4) (hv : v < 10 ^ 10) :
    L24_5 N (n + 1) s (v : Int) 7 (p : Int) = if dg (s[p]'(by omega)) = true then L24_5 N n s ((v * 10 + ((s[p]'(by omega)).toNat - 48) : Nat) : Int) 7 ((p + 1 : Nat) : Int) else some (0, 2) := by
  have hlt : p < s.length := by omega
  rw [L24_5_eq, aIf_if, if_pos (by simp; omega), aIf_if, if_neg (by simp; omega)]
  simp only [onGet_nat hlt, aIf_if, decide_eq_true_eq, Int.ofNat_eq_natCast]
  by_cases hd : dg s[p] = true
  · have hd' := dg_iff.1 hd
    rw [if_neg (by omega), if_neg (by omega), dg_step hd, w64 (x := 10 * (v : Int)) (by omega) (by omega), w64 (x := (p : Int) + 1) (by omega) (by omega), w64 (by omega) (by omega), if_pos hd]
    rw [show (10 * (v : Int) + ((s[p].toNat - 48 : Nat) : Int)) = ((v * 10 + (s[p].toNat - 48) : Nat) : Int) by omega, show (p : Int) + 1 = ((p + 1 : Nat) : Int) by omega]
  · have hd2 : dg s[p] = false := by simpa using hd
    rw [if_neg hd]
    simp [dg] at hd2
    by_cases h1 : (s[p].toNat : Int) < 48
    · rw [if_pos h1]
    · rw [if_neg h1, if_pos (by have := hd2 (by omega); omega)]
theorem L24_4 {N n : Nat} {s : List UInt8} {v : Nat} : L24_5 N (n + 1) s (v : Int) 7 4 = L24_5 N n s (v : Int) 7 5 := by
  rw [L24_5_eq, aIf_if, if_pos (by simp), aIf_if, if_pos (by simp), w64 (by omega) (by omega)]
  rfl
theorem L24_end {N n : Nat} {s : List UInt8} {v : Nat} (hv : v < 1000000) : L24_5 N (n + 1) s (v : Int) 7 7 = some (if v / 100 < 1900 ∨ 2199 < v / 100 ∨ v % 100 < 1 ∨ 12 < v % 100 then (0, 3) else (12 * ((v / 100 : Nat) - 1900 : Int) + (v % 100 : Nat) - 1, 0)) := by
  have e1 : (v : Int).tdiv 100 = ((v / 100 : Nat) : Int) := by rw [Int.tdiv_eq_ediv_of_nonneg (by omega)]; omega
  have e2 : (v : Int).tmod 100 = ((v % 100 : Nat) : Int) := by rw [Int.tmod_eq_emod_of_nonneg (by omega)]; omega
  rw [L24_5_eq, aIf_if, if_neg (by simp), e1, e2]
  have w1 : IntKind.i64.wrap ((v / 100 : Nat) : Int) = ((v / 100 : Nat) : Int) := w64 (by omega) (by omega)
  simp only [w1, aIf_if, decide_eq_true_eq]
  by_cases h1 : v / 100 < 1900
  · rw [if_pos (by omega), if_pos (.inl h1)]
  by_cases h2 : 2199 < v / 100
  · rw [if_neg (by omega), if_pos (by omega), if_pos (.inr (.inl h2))]
  by_cases h3 : v % 100 < 1
  · rw [if_neg (by omega), if_neg (by omega), if_pos (by omega), if_pos (.inr (.inr (.inl h3)))]
  by_cases h4 : 12 < v % 100
  · rw [if_neg (by omega), if_neg (by omega), if_neg (by omega), if_pos (by omega), if_pos (.inr (.inr (.inr h4)))]
  rw [if_neg (by omega), if_neg (by omega), if_neg (by omega), if_neg (by omega), if_neg (by omega)]
  rw [w64 (x := ((v / 100 : Nat) : Int) - 1900) (by omega) (by omega), w64 (x := 12 * (((v / 100 : Nat) : Int) - 1900)) (by omega) (by omega), w64 (x := 12 * (((v / 100 : Nat) : Int) - 1900) + ((v % 100 : Nat) : Int)) (by omega) (by omega), w64 (by omega) (by omega)]
theorem parM_7 {a b c d f g : UInt8} : parM [a, b, c, d, 45, f, g] = if dg a = true ∧ dg b = true ∧ dg c = true ∧ dg d = true ∧ dg f = true ∧ dg g = true then
    (if vl 0 [a, b, c, d] < 1900 ∨ 2199 < vl 0 [a, b, c, d] ∨ vl 0 [f, g] < 1 ∨ 12 < vl 0 [f, g] then (0, 3) else ((12 * ((vl 0 [a, b, c, d] : Int) - 1900) + vl 0 [f, g] - 1), 0)) else (0, 2) := by
  unfold parM
  simp only [List.length_cons, List.length_nil, List.take_succ_cons, List.take_zero, List.drop_succ_cons, List.drop_zero, List.all_cons, List.all_nil, Bool.and_true, Bool.and_eq_true]
  by_cases h : dg a = true ∧ dg b = true ∧ dg c = true ∧ dg d = true ∧ dg f = true ∧ dg g = true
  · rw [if_pos h, if_pos (by simp [h])]
  · rw [if_neg h, if_neg (by
      simp
      intro h1 h2 h3 h4 h5
      cases hg : dg g with
      | false => rfl
      | true => exact absurd ⟨h1, h2, h3, h4, h5, hg⟩ h)]
theorem F24_v {N : Nat} (hN : 20 < N) (s : List UInt8) : F24 N s = some (parM s) := by
  rw [F24_eq]
  simp only [aIf_if]
  by_cases hl : s.length = 7
  rotate_left
  · rw [if_pos (by simp; omega), parM, if_neg (by simp [hl])]
  rw [if_neg (by simp; omega)]
  obtain ⟨a, b, c, d, e, f, g, rfl⟩ := list7 hl
  rw [show (4 : Int) = ((4 : Nat) : Int) from rfl, onGet_nat (by simp)]
  simp only [List.getElem_cons_succ, List.getElem_cons_zero, Int.ofNat_eq_natCast, b45, Bool.not_eq_true', decide_eq_false_iff_not]
  by_cases he : e = 45
  rotate_left
  · rw [if_pos he, parM, if_neg (by simp [he])]
  subst he
  rw [if_neg (by simp), parM_7]
  obtain ⟨n, rfl⟩ : ∃ n, N = n + 9 := ⟨N - 9, by omega⟩
  have step := @L24_step (n + 9)
  have v4 := @L24_4 (n + 9)
  have vend := @L24_end (n + 9)
  have bd : ∀ x : UInt8, x.toNat < 256 := fun x => x.toNat_lt
  have s0 := step (n := n + 8) (s := [a, b, c, d, 45, f, g]) (v := 0) (p := 0) rfl (by decide) (by decide) (by decide)
  simp only [List.getElem_cons_zero, Nat.zero_mul, Nat.zero_add] at s0
  show L24_5 (n + 9) (n + 8 + 1) [a, b, c, d, 45, f, g] ((0 : Nat) : Int) 7 ((0 : Nat) : Int) = _
  rw [s0]
  by_cases ha : dg a = true
  rotate_left
  · rw [if_neg ha, if_neg (fun h => ha h.1)]
  rw [if_pos ha]
  have da := dg_iff.1 ha
  have s1 := step (n := n + 7) (s := [a, b, c, d, 45, f, g]) (v := a.toNat - 48) (p := 1) rfl (by decide) (by decide) (by omega)
  simp only [List.getElem_cons_succ, List.getElem_cons_zero] at s1
  rw [s1]
  by_cases hb : dg b = true
  rotate_left
  · rw [if_neg hb, if_neg (fun h => hb h.2.1)]
  rw [if_pos hb]
  have db := dg_iff.1 hb
  have s2 := step (n := n + 6) (s := [a, b, c, d, 45, f, g]) (v := (a.toNat - 48) * 10 + (b.toNat - 48)) (p := 2) rfl (by decide) (by decide) (by omega)
  simp only [List.getElem_cons_succ, List.getElem_cons_zero] at s2
  rw [s2]
  by_cases hc : dg c = true
  rotate_left
  · rw [if_neg hc, if_neg (fun h => hc h.2.2.1)]
  rw [if_pos hc]
  have dc := dg_iff.1 hc
  have s3 := step (n := n + 5) (s := [a, b, c, d, 45, f, g]) (v := ((a.toNat - 48) * 10 + (b.toNat - 48)) * 10 + (c.toNat - 48)) (p := 3) rfl (by decide) (by decide) (by omega)
  simp only [List.getElem_cons_succ, List.getElem_cons_zero] at s3
  rw [s3]
  by_cases hd : dg d = true
  rotate_left
  · rw [if_neg hd, if_neg (fun h => hd h.2.2.2.1)]
  rw [if_pos hd]
  have dd := dg_iff.1 hd
  rw [show ((3 + 1 : Nat) : Int) = 4 from rfl, v4 (n := n + 4)]
  have s5 := step (n := n + 3) (s := [a, b, c, d, 45, f, g]) (v := (((a.toNat - 48) * 10 + (b.toNat - 48)) * 10 + (c.toNat - 48)) * 10 + (d.toNat - 48)) (p := 5) rfl (by decide) (by decide) (by omega)
  simp only [List.getElem_cons_succ, List.getElem_cons_zero] at s5
  rw [show (5 : Int) = ((5 : Nat) : Int) from rfl, s5]
  by_cases hf : dg f = true
  rotate_left
  · rw [if_neg hf, if_neg (fun h => hf h.2.2.2.2.1)]
  rw [if_pos hf]
  have df := dg_iff.1 hf
  have s6 := step (n := n + 2) (s := [a, b, c, d, 45, f, g]) (v := ((((a.toNat - 48) * 10 + (b.toNat - 48)) * 10 + (c.toNat - 48)) * 10 + (d.toNat - 48)) * 10 + (f.toNat - 48)) (p := 6) rfl (by decide) (by decide) (by omega)
  simp only [List.getElem_cons_succ, List.getElem_cons_zero] at s6
  rw [s6]
  by_cases hg : dg g = true
  rotate_left
  · rw [if_neg hg, if_neg (fun h => hg h.2.2.2.2.2)]
  rw [if_pos hg]
  have dgg := dg_iff.1 hg
  have hall : dg a = true ∧ dg b = true ∧ dg c = true ∧ dg d = true ∧ dg f = true ∧ dg g = true := ⟨ha, hb, hc, hd, hf, hg⟩
  rw [if_pos hall, show ((6 + 1 : Nat) : Int) = 7 from rfl, vend (n := n + 1) (by omega)]
  have e1 : vl 0 [a, b, c, d] = (((a.toNat - 48) * 10 + (b.toNat - 48)) * 10 + (c.toNat - 48)) * 10 + (d.toNat - 48) := by simp [vl]
  have e2 : vl 0 [f, g] = (f.toNat - 48) * 10 + (g.toNat - 48) := by simp [vl]
  rw [e1, e2]
  generalize hY : (((a.toNat - 48) * 10 + (b.toNat - 48)) * 10 + (c.toNat - 48)) * 10 + (d.toNat - 48) = Y at *
  have m1 : ((Y * 10 + (f.toNat - 48)) * 10 + (g.toNat - 48)) / 100 = Y := by omega
  have m2 : ((Y * 10 + (f.toNat - 48)) * 10 + (g.toNat - 48)) % 100 = (f.toNat - 48) * 10 + (g.toNat - 48) := by omega
  rw [m1, m2]
theorem fmtM_parse {m : Int} (h0 : 0 ≤ m) (h1 : m ≤ 3599) : parM (fmtM m) = (m, 0) := by
  obtain ⟨y, hy⟩ := nat_of (show 0 ≤ 1900 + m / 12 by omega)
  obtain ⟨k, hk⟩ := nat_of (show 0 ≤ m % 12 + 1 by omega)
  obtain ⟨a1, a2, a3⟩ := padS_spec (w := 4) (v := y) (by decide) (by decide) (by omega)
  obtain ⟨b1, b2, b3⟩ := padS_spec (w := 2) (v := k) (by decide) (by decide) (by omega)
  unfold fmtM
  rw [if_pos (by simp [mvB']; omega), hy, hk]
  generalize padS 4 (y : Int) = A at *
  generalize padS 2 (k : Int) = B at *
  have e1 : (A ++ [45] ++ B).take 4 = A := by
    rw [List.append_assoc, List.take_append_of_le_length (by omega), List.take_of_length_le (by omega)]
  have e2 : (A ++ [45] ++ B).drop 5 = B := by
    rw [List.drop_append, List.drop_eq_nil_of_le (by simp; omega), List.nil_append]
    simp [a1]
  have e4 : (A ++ [45] ++ B)[4]? = some 45 := by
    rw [List.append_assoc, List.getElem?_append_right (by omega)]
    simp [a1]
  unfold parM
  rw [e1, e2, if_pos ⟨by simp; omega, e4, a2, b2⟩, a3, b3, if_neg (by omega)]
  congr 1
  omega
end Go.Proofs.YtfhlignhdnhmlaaDoor
