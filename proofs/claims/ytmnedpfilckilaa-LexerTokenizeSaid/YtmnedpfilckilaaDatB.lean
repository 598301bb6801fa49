/- The program's texts of dates, by its pure reading: how they are written, and how they are read. -/
import Derived.Test.YtmnedpfilckilaaDatA
import Derived.Test.YtmnedpfilckilaaNumH
set_option linter.unusedSimpArgs false
set_option linter.unusedVariables false
namespace Go.Proofs.Ytmnedpfilckilaa
open Go.RowKit

/-! ## Digits -/
theorem dg_step {b : UInt8} (h : dg b = true) : IntKind.i64.wrap (IntKind.u8.wrap ((b.toNat : Int) - 48)) = ((b.toNat - 48 : Nat) : Int) := by
  rw [dg_iff] at h
  rw [w8 (by omega) (by omega), w64 (by omega) (by omega)]
  omega
theorem vl_step (v : Nat) (b : UInt8) (l : List UInt8) : vl v (b :: l) = vl (v * 10 + (b.toNat - 48)) l := by unfold vl; rw [List.foldl_cons]
theorem pow_10 {p : Nat} (h : p ≤ 10) : 10 ^ p ≤ 10 ^ 10 := Nat.pow_le_pow_right (by decide) h
theorem L58_v {N : Nat} {s : List UInt8} (hs : s.length ≤ 10) : ∀ (k n p v : Nat), s.length - p = k → p ≤ s.length → k < n → v < 10 ^ p →
    L58_3 N n s (v : Int) (s.length : Int) (p : Int) = some (if (s.drop p).all dg = true then (((vl v (s.drop p) : Nat) : Int), true) else (0, false)) := by
  intro k
  induction k with
  | zero =>
    intro n p v hk hp hn hv
    obtain ⟨n, rfl⟩ : ∃ m, n = m + 1 := ⟨n - 1, by omega⟩
    have : s.drop p = [] := List.drop_eq_nil_of_le (by omega)
    rw [L58_3_eq, aIf_if, if_neg (by simp; omega), this]
    rfl
  | succ k ih =>
    intro n p v hk hp hn hv
    obtain ⟨n, rfl⟩ : ∃ m, n = m + 1 := ⟨n - 1, by omega⟩
    have hlt : p < s.length := by omega
    have hv10 : v < 10 ^ 10 := Nat.lt_of_lt_of_le hv (pow_10 (by omega))
    rw [L58_3_eq, aIf_if, if_pos (by simp; omega)]
    simp only [onGet_nat hlt, aIf_if, decide_eq_true_eq, Int.ofNat_eq_natCast]
    rw [drop_cons hlt, List.all_cons, vl_step]
    by_cases hd : dg s[p] = true
    · have hd' := dg_iff.1 hd
      rw [if_neg (by omega), if_neg (by omega), dg_step hd, w64 (x := 10 * (v : Int)) (by omega) (by omega), w64 (x := (p : Int) + 1) (by omega) (by omega), w64 (by omega) (by omega)]
      have := ih n (p + 1) (v * 10 + (s[p].toNat - 48)) (by omega) (by omega) (by omega) (by rw [Nat.pow_succ]; omega)
      rw [show (10 * (v : Int) + ((s[p].toNat - 48 : Nat) : Int)) = ((v * 10 + (s[p].toNat - 48) : Nat) : Int) by omega, show (p : Int) + 1 = ((p + 1 : Nat) : Int) by omega, this, hd, Bool.true_and]
    · have hd2 : dg s[p] = false := by simpa using hd
      simp only [hd2, Bool.false_and, Bool.false_eq_true, if_false]
      simp [dg] at hd2
      by_cases h1 : (s[p].toNat : Int) < 48
      · rw [if_pos h1]
      · rw [if_neg h1, if_pos (by have := hd2 (by omega); omega)]
theorem F58_v {N : Nat} {s : List UInt8} (hs : s.length ≤ 10) (hN : 10 < N) : F58 N s = some (if s.all dg = true then (((vl 0 s : Nat) : Int), true) else (0, false)) := by
  rw [F58_eq]
  exact L58_v (N := N) hs s.length N 0 0 (by omega) (by omega) (by omega) (by decide)
theorem L69_v {N : Nat} {s : List UInt8} (hs : s.length ≤ 10) : ∀ (k n p v : Nat), s.length - p = k → p ≤ s.length → k < n → v < 10 ^ p →
    L69_3 N n s (v : Int) (p : Int) = some (if (s.drop p).all dg = true then ((vl v (s.drop p) : Nat) : Int) else -1) := by
  intro k
  induction k with
  | zero =>
    intro n p v hk hp hn hv
    obtain ⟨n, rfl⟩ : ∃ m, n = m + 1 := ⟨n - 1, by omega⟩
    have : s.drop p = [] := List.drop_eq_nil_of_le (by omega)
    rw [L69_3_eq, aIf_if, if_neg (by simp; omega), this]
    rfl
  | succ k ih =>
    intro n p v hk hp hn hv
    obtain ⟨n, rfl⟩ : ∃ m, n = m + 1 := ⟨n - 1, by omega⟩
    have hlt : p < s.length := by omega
    have hv10 : v < 10 ^ 10 := Nat.lt_of_lt_of_le hv (pow_10 (by omega))
    rw [L69_3_eq, aIf_if, if_pos (by simp; omega)]
    simp only [onGet_nat hlt, aIf_if, decide_eq_true_eq, Int.ofNat_eq_natCast]
    rw [drop_cons hlt, List.all_cons, vl_step]
    by_cases hd : dg s[p] = true
    · have hd' := dg_iff.1 hd
      rw [if_neg (by omega), if_neg (by omega), dg_step hd, w64 (x := 10 * (v : Int)) (by omega) (by omega), w64 (x := (p : Int) + 1) (by omega) (by omega), w64 (by omega) (by omega)]
      have := ih n (p + 1) (v * 10 + (s[p].toNat - 48)) (by omega) (by omega) (by omega) (by rw [Nat.pow_succ]; omega)
      rw [show (10 * (v : Int) + ((s[p].toNat - 48 : Nat) : Int)) = ((v * 10 + (s[p].toNat - 48) : Nat) : Int) by omega, show (p : Int) + 1 = ((p + 1 : Nat) : Int) by omega, this, hd, Bool.true_and]
    · have hd2 : dg s[p] = false := by simpa using hd
      simp only [hd2, Bool.false_and, Bool.false_eq_true, if_false]
      simp [dg] at hd2
      by_cases h1 : (s[p].toNat : Int) < 48
      · rw [if_pos h1]
      · rw [if_neg h1, if_pos (by have := hd2 (by omega); omega)]
theorem F69_v {N : Nat} {s : List UInt8} (hs : s.length ≤ 10) (hN : 10 < N) : F69 N s = some (if s.all dg = true then ((vl 0 s : Nat) : Int) else -1) := by
  rw [F69_eq]
  exact L69_v (N := N) hs s.length N 0 0 (by omega) (by omega) (by omega) (by decide)

/-! ## Parse -/
/-- The form of a date: its year, month and day as written. -/
def parD (s : List UInt8) : Int × Int :=
  if s.length = 10 ∧ s[4]? = some 45 ∧ s[7]? = some 45 ∧ (s.take 4).all dg = true ∧ ((s.take 7).drop 5).all dg = true ∧ (s.drop 8).all dg = true
  then fromR (vl 0 (s.take 4) : Nat) (vl 0 ((s.take 7).drop 5) : Nat) (vl 0 (s.drop 8) : Nat) else (0, 2)
theorem b45 {b : UInt8} : ((b.toNat : Int) != 45) = !decide (b = 45) := by
  by_cases h : b = 45
  · subst h; rfl
  · have : ¬ b.toNat = 45 := fun e => h (UInt8.toNat_inj.1 e)
    have h2 : ¬ ((b.toNat : Int) = 45) := by omega
    simp [h, bne, h2]
theorem F45_d {N : Nat} (hN : 300 < N) (s : List UInt8) : F45 N s = some (parD s) := by
  rw [F45_eq, parD]
  simp only [aIf_if]
  by_cases hl : s.length = 10
  rotate_left
  · rw [if_pos (by simp; omega), if_neg (by simp [hl])]
  rw [if_neg (by simp; omega)]
  have h4 : 4 < s.length := by omega
  have h7 : 7 < s.length := by omega
  rw [show (4 : Int) = ((4 : Nat) : Int) from rfl, show (7 : Int) = ((7 : Nat) : Int) from rfl, onGet_nat h4, onGet_nat h7]
  simp only [Int.ofNat_eq_natCast, b45, aGd_if, hl, List.getElem?_eq_getElem h4, List.getElem?_eq_getElem h7, Option.some.injEq, List.drop_zero, Bool.not_eq_true', decide_eq_false_iff_not]
  by_cases e4 : s[4] = 45
  rotate_left
  · rw [if_pos (by simp [e4]), if_neg (by simp [e4])]
  rw [if_neg (by simp [e4])]
  by_cases e7 : s[7] = 45
  rotate_left
  · rw [if_pos (by simp [e7]), if_neg (by simp [e7])]
  rw [if_neg (by simp [e7])]
  have t8 : (s.take 10).drop 8 = s.drop 8 := by rw [List.take_of_length_le (by omega)]
  rw [F58_v (by simp; omega) (by omega), F58_v (by simp; omega) (by omega), t8, F58_v (by simp; omega) (by omega)]
  simp only [onSome_ok]
  by_cases d1 : (s.take 4).all dg = true
  rotate_left
  · simp [d1]
  by_cases d2 : ((s.take 7).drop 5).all dg = true
  rotate_left
  · simp [d1, d2]
  by_cases d3 : (s.drop 8).all dg = true
  rotate_left
  · simp [d1, d2, d3]
  rw [if_pos d1, if_pos d2, if_pos d3]
  simp only [F59_d hN, onSome_ok, d1, d2, d3, e4, e7]
  simp
theorem F53_d {N : Nat} (hN : 300 < N) (s : List UInt8) : F53 N s = some (parD s) := by
  rw [F53_eq, parD]
  simp only [aIf_if]
  by_cases hl : s.length = 10
  rotate_left
  · rw [if_pos (by simp; omega), if_neg (by simp [hl])]
  rw [if_neg (by simp; omega)]
  have h4 : 4 < s.length := by omega
  have h7 : 7 < s.length := by omega
  rw [show (4 : Int) = ((4 : Nat) : Int) from rfl, show (7 : Int) = ((7 : Nat) : Int) from rfl, onGet_nat h4, onGet_nat h7]
  simp only [Int.ofNat_eq_natCast, b45, aGd_if, hl, List.getElem?_eq_getElem h4, List.getElem?_eq_getElem h7, Option.some.injEq, List.drop_zero, Bool.not_eq_true', decide_eq_false_iff_not]
  by_cases e4 : s[4] = 45
  rotate_left
  · rw [if_pos (by simp [e4]), if_neg (by simp [e4])]
  rw [if_neg (by simp [e4])]
  by_cases e7 : s[7] = 45
  rotate_left
  · rw [if_pos (by simp [e7]), if_neg (by simp [e7])]
  rw [if_neg (by simp [e7])]
  have t8 : (s.take 10).drop 8 = s.drop 8 := by rw [List.take_of_length_le (by omega)]
  rw [F69_v (by simp; omega) (by omega), F69_v (by simp; omega) (by omega), t8, F69_v (by simp; omega) (by omega)]
  simp only [onSome_ok]
  have n1 : ¬ ((vl 0 (s.take 4) : Nat) : Int) < 0 := by omega
  have n2 : ¬ ((vl 0 ((s.take 7).drop 5) : Nat) : Int) < 0 := by omega
  have n3 : ¬ ((vl 0 (s.drop 8) : Nat) : Int) < 0 := by omega
  by_cases d1 : (s.take 4).all dg = true
  rotate_left
  · simp [d1]
  by_cases d2 : ((s.take 7).drop 5).all dg = true
  rotate_left
  · simp [d1, d2, n1]
  by_cases d3 : (s.drop 8).all dg = true
  rotate_left
  · simp [d1, d2, d3, n1, n2]
  rw [if_pos d1, if_pos d2, if_pos d3]
  simp only [F70_d hN, onSome_ok, d1, d2, d3, e4, e7]
  simp [n1, n2, n3]

/-! ## Format -/
def padS (w : Nat) (n : Int) : List UInt8 := List.replicate (w - (itoaF n).length) 48 ++ itoaF n
def fmtD (n : Int) : List UInt8 := if vdB n then padS 4 (toY n) ++ [45] ++ padS 2 (toM n) ++ [45] ++ padS 2 (toD n) else []
theorem padS_len {w : Nat} {n : Int} (hw : w ≤ 9) : (padS w n).length ≤ 30 := by
  have := itoaF_len n
  simp [padS]; omega
/-! ## Round trips -/
theorem padS_spec {w v : Nat} (hw : 0 < w) (hw2 : w ≤ 9) (hv : v < 10 ^ w) : (padS w (v : Int)).length = w ∧ (padS w (v : Int)).all dg = true ∧ vl 0 (padS w (v : Int)) = v := by
  have hv20 : v < 10 ^ 20 := Nat.lt_of_lt_of_le hv (Nat.pow_le_pow_right (by decide) (by omega))
  have hs := decF_short 20 v w hv hw
  unfold padS
  rw [itoaF_nat]
  refine ⟨by simp; omega, ?_, ?_⟩
  · rw [List.all_append, decF_all, Bool.and_true, List.all_eq_true]
    intro x hx
    rw [(List.mem_replicate.1 hx).2]; decide
  · rw [vl_append, vl_zeros, Nat.zero_mul, decF_vl 20 v hv20]
theorem padS_back {w : Nat} {t : List UInt8} (hw : 0 < w) (hw2 : w ≤ 9) (hl : t.length = w) (hd : t.all dg = true) : padS w ((vl 0 t : Nat) : Int) = t := by
  have hb := vl_high t 0 hd
  rw [hl, Nat.zero_add, Nat.one_mul] at hb
  obtain ⟨h1, h2, h3⟩ := padS_spec hw hw2 hb
  exact (vl_inj _ _ 0 0 (by omega) h2 hd h3).2
theorem nat_of {n : Int} (h : 0 ≤ n) : ∃ k : Nat, n = k := ⟨n.toNat, by omega⟩
theorem fmtD_parse {n : Int} (hv : vdB n = true) : parD (fmtD n) = (n, 0) := by
  have ht := toY_bd hv
  have hd := dim_nn (toY n) (toM n)
  obtain ⟨y, hy⟩ := nat_of (show 0 ≤ toY n by omega)
  obtain ⟨m, hm⟩ := nat_of (show 0 ≤ toM n by omega)
  obtain ⟨d, hdd⟩ := nat_of (show 0 ≤ toD n by omega)
  obtain ⟨a1, a2, a3⟩ := padS_spec (w := 4) (v := y) (by decide) (by decide) (by omega)
  obtain ⟨b1, b2, b3⟩ := padS_spec (w := 2) (v := m) (by decide) (by decide) (by omega)
  obtain ⟨c1, c2, c3⟩ := padS_spec (w := 2) (v := d) (by decide) (by decide) (by omega)
  unfold fmtD
  rw [if_pos hv, hy, hm, hdd]
  generalize padS 4 (y : Int) = A at *
  generalize padS 2 (m : Int) = B at *
  generalize padS 2 (d : Int) = C at *
  have e1 : (A ++ [45] ++ B ++ [45] ++ C).take 4 = A := by
    rw [List.append_assoc, List.append_assoc, List.append_assoc]
    rw [List.take_append_of_le_length (by omega), List.take_of_length_le (by omega)]
  have e2 : ((A ++ [45] ++ B ++ [45] ++ C).take 7).drop 5 = B := by
    rw [show A ++ [45] ++ B ++ [45] ++ C = (A ++ [45]) ++ (B ++ ([45] ++ C)) by simp]
    rw [List.take_append, List.take_of_length_le (by simp; omega), List.drop_append, List.drop_eq_nil_of_le (by simp; omega), List.nil_append]
    simp only [List.length_append, List.length_singleton, a1]
    rw [List.take_append_of_le_length (by omega), List.take_of_length_le (by omega)]
    rfl
  have e3 : (A ++ [45] ++ B ++ [45] ++ C).drop 8 = C := by
    rw [List.drop_append, List.drop_eq_nil_of_le (by simp; omega), List.nil_append]
    simp [a1, b1]
  have e4 : (A ++ [45] ++ B ++ [45] ++ C)[4]? = some 45 := by
    rw [List.append_assoc, List.append_assoc, List.append_assoc, List.getElem?_append_right (by omega)]
    simp [a1]
  have e5 : (A ++ [45] ++ B ++ [45] ++ C)[7]? = some 45 := by
    rw [List.append_assoc, List.getElem?_append_right (by simp; omega)]
    simp [a1, b1]
  unfold parD
  rw [e1, e2, e3, if_pos ⟨by simp; omega, e4, e5, a2, b2, c2⟩, a3, b3, c3, ← hy, ← hm, ← hdd]
  obtain ⟨t1, t2⟩ := to_spec hv
  unfold fromR
  rw [if_pos t1, t2]
theorem parD_ok {s : List UInt8} {n : Int} (h : parD s = (n, 0)) : vdB n = true ∧ fmtD n = s := by
  unfold parD at h
  split at h
  rotate_left
  · simp at h
  rename_i hc
  obtain ⟨hl, h4, h7, d1, d2, d3⟩ := hc
  unfold fromR at h
  split at h
  rotate_left
  · simp at h
  rename_i hb
  simp only [Prod.mk.injEq, and_true] at h
  have hn := num_bd hb
  rw [h] at hn
  have hv : vdB n = true := vdB_mk hn.1 hn.2.1
  obtain ⟨e1, e2, e3⟩ := to_of hb h
  refine ⟨hv, ?_⟩
  unfold fmtD
  rw [if_pos hv, e1, e2, e3, padS_back (by decide) (by decide) (by simp; omega) d1, padS_back (by decide) (by decide) (by simp; omega) d2, padS_back (by decide) (by decide) (by simp; omega) d3]
  have g4 : 4 < s.length := by omega
  have g7 : 7 < s.length := by omega
  rw [List.getElem?_eq_getElem g4, Option.some.injEq] at h4
  rw [List.getElem?_eq_getElem g7, Option.some.injEq] at h7
  have s1 : s.take 4 ++ [45] = s.take 5 := by rw [← h4]; exact (List.take_append_getElem g4)
  have s2 : s.take 5 ++ (s.take 7).drop 5 = s.take 7 := by
    have := List.take_append_drop 5 (s.take 7)
    rwa [List.take_take, show min 5 7 = 5 from rfl] at this
  have s3 : s.take 7 ++ [45] = s.take 8 := by rw [← h7]; exact (List.take_append_getElem g7)
  rw [s1, s2, s3, List.take_append_drop]
end Go.Proofs.Ytmnedpfilckilaa
