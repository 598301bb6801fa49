/- Months as texts, splitting at blanks, words: what the program's functions compute, plainly. -/
import Derived.Test.YtfhlignhdnhmlaaDoorValA
set_option linter.unusedSimpArgs false
set_option linter.unusedVariables false
namespace Go.Proofs.YtfhlignhdnhmlaaDoor
open Go.RowKit

/-! ## Splitting at a byte -/
def spl (c : UInt8) : List UInt8 → List (List UInt8)
  | [] => [[]]
  | b :: l => if b = c then [] :: spl c l else match spl c l with | [] => [[b]] | w :: ws => (b :: w) :: ws
theorem spl_ne (c : UInt8) : ∀ l, spl c l ≠ []
  | [] => by simp [spl]
  | b :: l => by
    unfold spl
    split
    · simp
    · split <;> simp
theorem spl_word {c : UInt8} : ∀ {w : List UInt8} (r : List UInt8), c ∉ w → spl c (w ++ c :: r) = w :: spl c r
  | [], r, _ => by simp [spl]
  | b :: w, r, h => by
    simp only [List.mem_cons, not_or] at h
    have ih := spl_word (c := c) (w := w) r h.2
    simp only [List.cons_append, spl]
    rw [if_neg (Ne.symm h.1), ih]
theorem spl_last {c : UInt8} : ∀ {w : List UInt8}, c ∉ w → spl c w = [w]
  | [], _ => rfl
  | b :: w, h => by
    simp only [List.mem_cons, not_or] at h
    simp only [spl]
    rw [if_neg (Ne.symm h.1), spl_last h.2]
theorem spl_length {c : UInt8} : ∀ (l : List UInt8), (spl c l).length = l.count c + 1
  | [] => rfl
  | b :: l => by
    have ih := spl_length (c := c) l
    unfold spl
    rw [List.count_cons]
    by_cases hb : b = c
    · rw [if_pos hb, if_pos (by simp [hb])]; simp [ih]
    · rw [if_neg hb, if_neg (by simp [hb])]
      split
      · rename_i h; exact absurd h (spl_ne c l)
      · rename_i w ws h; rw [h] at ih; simpa using ih
theorem setCells_str (u s : List UInt8) : setCells (.str u) 0 [PV.str s] = .str s := rfl
/-! ## Words -/
/-- The words of a text: w is the one that is being read. -/
def fld : Option (List UInt8) → List UInt8 → List (List UInt8)
  | none, [] => []
  | some w, [] => [w]
  | c, b :: l => if b.toNat = 32 ∨ b.toNat = 9 then (match c with | some w => w :: fld none l | none => fld none l) else fld (some (c.getD [] ++ [b])) l
theorem fld_sep {b : UInt8} {l : List UInt8} (w : List UInt8) (h : b.toNat = 32 ∨ b.toNat = 9) : fld (some w) (b :: l) = w :: fld none l := by
  conv => lhs; unfold fld
  rw [if_pos h]
theorem fld_sep0 {b : UInt8} {l : List UInt8} (h : b.toNat = 32 ∨ b.toNat = 9) : fld none (b :: l) = fld none l := by
  conv => lhs; unfold fld
  rw [if_pos h]
theorem fld_chr {b : UInt8} {l : List UInt8} (c : Option (List UInt8)) (h : ¬ (b.toNat = 32 ∨ b.toNat = 9)) : fld c (b :: l) = fld (some (c.getD [] ++ [b])) l := by
  cases c <;> (conv => lhs; unfold fld) <;> rw [if_neg h]
/-- No blank, no tab. -/
def solid (w : List UInt8) : Bool := w.all fun b => decide (b.toNat ≠ 32) && decide (b.toNat ≠ 9)
theorem fld_solid : ∀ {w : List UInt8} (u : List UInt8) (r : List UInt8), solid w = true → fld (some u) (w ++ r) = fld (some (u ++ w)) r
  | [], u, r, _ => by simp
  | b :: w, u, r, h => by
    simp only [solid, List.all_cons, Bool.and_eq_true, decide_eq_true_eq] at h
    have ih := fld_solid (w := w) (u ++ [b]) r (by simpa [solid] using h.2)
    simp only [List.cons_append]
    conv => lhs; unfold fld
    rw [if_neg (by omega)]
    simpa using ih
theorem fld_start {w : List UInt8} (r : List UInt8) (h : solid w = true) (hne : w ≠ []) : fld none (w ++ r) = fld (some w) r := by
  match w, hne with
  | b :: w, _ =>
    simp only [solid, List.all_cons, Bool.and_eq_true, decide_eq_true_eq] at h
    simp only [List.cons_append]
    conv => lhs; unfold fld
    rw [if_neg (by omega)]
    have := fld_solid (w := w) [b] r (by simpa [solid] using h.2)
    simpa using this
theorem fld_word {w : List UInt8} (r : List UInt8) (h : solid w = true) (hne : w ≠ []) : fld none (w ++ 32 :: r) = w :: fld none r := by
  rw [fld_start _ h hne]
  conv => lhs; unfold fld
  rw [if_pos (by decide)]
theorem fld_last {w : List UInt8} (h : solid w = true) (hne : w ≠ []) : fld none w = [w] := by
  have := fld_start [] h hne
  rw [List.append_nil] at this
  rw [this]; rfl
theorem solid_32 {w : List UInt8} (h : solid w = true) : (32 : UInt8) ∉ w := fun hm => by
  have := List.all_eq_true.1 h _ hm
  simp at this
/-- Words joined by blanks. -/
def jw : List (List UInt8) → List UInt8
  | [] => []
  | [w] => w
  | w :: ws => w ++ 32 :: jw ws
theorem spl_jw : ∀ {ws : List (List UInt8)}, ws ≠ [] → (∀ w ∈ ws, solid w = true) → spl 32 (jw ws) = ws
  | [w], _, h => spl_last (solid_32 (h w (by simp)))
  | w :: v :: ws, _, h => by
    rw [show jw (w :: v :: ws) = w ++ 32 :: jw (v :: ws) from rfl, spl_word _ (solid_32 (h w (by simp))), spl_jw (ws := v :: ws) (by simp) (fun x hx => h x (by simp [hx]))]
theorem fld_jw : ∀ {ws : List (List UInt8)}, (∀ w ∈ ws, solid w = true ∧ w ≠ []) → fld none (jw ws) = ws
  | [], _ => rfl
  | [w], h => fld_last (h w (by simp)).1 (h w (by simp)).2
  | w :: v :: ws, h => by
    rw [show jw (w :: v :: ws) = w ++ 32 :: jw (v :: ws) from rfl, fld_word _ (h w (by simp)).1 (h w (by simp)).2, fld_jw (ws := v :: ws) (fun x hx => h x (by simp [hx]))]

/-! ## Months as texts -/
def mvB' (m : Int) : Bool := decide (0 ≤ m) && decide (m ≤ 3599)
def fmtM (m : Int) : List UInt8 := if mvB' m then padS 4 (1900 + m / 12) ++ [45] ++ padS 2 (m % 12 + 1) else []
theorem F47_v (N : Nat) (m : Int) : F47 N m = some (mvB' m) := by
  rw [F47_eq, aIf_if]
  exact vv_if
theorem pad4 {y : Int} (h0 : 1000 ≤ y) (h1 : y ≤ 9999) : padS 4 y = itoaF y := by
  obtain ⟨k, rfl⟩ := nat_of (show 0 ≤ y by omega)
  have : (itoaF (k : Int)).length = 4 := by
    rw [itoaF_nat]
    have h2 := decF_short 20 k 4 (by omega) (by decide)
    have h3 : 4 ≤ (decF 20 k).length := by
      rcases Nat.lt_or_ge (decF 20 k).length 4 with h | h
      · have hv := decF_vl 20 k (by omega)
        have hb := vl_high (decF 20 k) 0 (decF_all 20 k)
        rw [hv] at hb
        have : 10 ^ (decF 20 k).length ≤ 10 ^ 3 := Nat.pow_le_pow_right (by decide) (by omega)
        omega
      · exact h
    omega
  unfold padS
  rw [this]; rfl
theorem pad2 {m : Int} (h0 : 0 ≤ m) (h1 : m ≤ 99) : (if (itoaF m).length < 2 then 48 :: itoaF m else itoaF m) = padS 2 m := by
  unfold padS
  have hne : itoaF m ≠ [] := by
    obtain ⟨k, rfl⟩ := nat_of h0
    rw [itoaF_nat]; exact decF_ne (by decide)
  have hl : 1 ≤ (itoaF m).length := by
    cases h : itoaF m with
    | nil => exact absurd h hne
    | cons a l => simp
  by_cases h : (itoaF m).length < 2
  · rw [if_pos h, show 2 - (itoaF m).length = 1 by omega]; rfl
  · rw [if_neg h, show 2 - (itoaF m).length = 0 by omega]; rfl
theorem fmt_month {a y : List UInt8} (ha : a.length ≤ 30) (hy : y.length ≤ 30) : (if decide (Int.ofNat a.length < 2) = true then (if decide (1 + a.length ≤ 9223372036854775807) = true then (onSome (some y) fun y2 => if decide (y2.length + 1 ≤ 9223372036854775807) = true then (if decide ((y2 ++ [(45 : UInt8)]).length + ((48 : UInt8) :: List.append [] a).length ≤ 9223372036854775807) = true then some (y2 ++ [(45 : UInt8)] ++ (48 : UInt8) :: List.append [] a) else none) else none) else none)
    else (onSome (some y) fun y3 => if decide (y3.length + 1 ≤ 9223372036854775807) = true then (if decide ((y3 ++ [(45 : UInt8)]).length + a.length ≤ 9223372036854775807) = true then some (y3 ++ [(45 : UInt8)] ++ a) else none) else none)) = some (y ++ [45] ++ (if a.length < 2 then 48 :: a else a)) := by
  by_cases h : a.length < 2
  · rw [if_pos (by simp; omega), if_pos (by simp; omega), onSome_ok, if_pos (by simp; omega), if_pos (by simp; omega), if_pos h]; rfl
  · rw [if_neg (by simp; omega), onSome_ok, if_pos (by simp; omega), if_pos (by simp; omega), if_neg h]
theorem F26_v (N : Nat) (m : Int) : F26 N m = some (fmtM m) := by
  rw [F26_eq, F47_v, onSome_ok, fmtM]
  cases h : mvB' m with
  | false => rfl
  | true =>
    have hm : 0 ≤ m ∧ m ≤ 3599 := by simpa [mvB'] using h
    have e1 : m.tmod 12 = m % 12 := Int.tmod_eq_emod_of_nonneg hm.1
    have e2 : m.tdiv 12 = m / 12 := Int.tdiv_eq_ediv_of_nonneg hm.1
    simp only [aIf_if, aGd_if, Bool.not_true, Bool.false_eq_true, if_false, e1, e2, if_true]
    have w1 : IntKind.i64.wrap (m % 12 + 1) = m % 12 + 1 := w64 (by omega) (by omega)
    have w2 : IntKind.i64.wrap (m / 12) = m / 12 := w64 (by omega) (by omega)
    have w3 : IntKind.i64.wrap (1900 + m / 12) = 1900 + m / 12 := w64 (by omega) (by omega)
    have l1 := itoaF_len (m % 12 + 1)
    have l2 := itoaF_len (1900 + m / 12)
    rw [w2, w3, w1, F56_itoa (by omega) (by omega), onSome_ok, F56_itoa (by omega) (by omega), fmt_month (by omega) (by omega), pad2 (by omega) (by omega), pad4 (by omega) (by omega)]
end Go.Proofs.YtfhlignhdnhmlaaDoor
