/- Months as texts, splitting at blanks, words: what the program's functions compute, plainly. -/
import Derived.Test.YtflpiekacionaaaDoorValA
set_option linter.unusedSimpArgs false
set_option linter.unusedVariables false
namespace Go.Proofs.YtflpiekacionaaaDoor
open Go.RowKit

/-! ## Splitting at a byte -/
def spl (c : UInt8) : List UInt8 → List (List UInt8)
  | [] => [[]]
  | b :: l => if b = c then [] :: spl c l else match spl c l with | [] => [[b]] | w :: ws => (b :: w) :: ws
theorem spl_ne (c : UInt8) : ∀ l, spl c l ≠ []
  | [] => by simp [spl]
  | b :: l => by
    unfold spl
    split
    · simp
    · split <;> simp
theorem spl_word {c : UInt8} : ∀ {w : List UInt8} (r : List UInt8), c ∉ w → spl c (w ++ c :: r) = w :: spl c r
  | [], r, _ => by simp [spl]
  | b :: w, r, h => by
    simp only [List.mem_cons, not_or] at h
    have ih := spl_word (c := c) (w := w) r h.2
    simp only [List.cons_append, spl]
    rw [if_neg (Ne.symm h.1), ih]
theorem spl_last {c : UInt8} : ∀ {w : List UInt8}, c ∉ w → spl c w = [w]
  | [], _ => rfl
  | b :: w, h => by
    simp only [List.mem_cons, not_or] at h
    simp only [spl]
    rw [if_neg (Ne.symm h.1), spl_last h.2]
theorem indexByte_none {c : UInt8} : -- of 106
  ∀ {l : List UInt8}, l.count c = 0 → Lib.indexByte l c = -1
  | [], _ => rfl
  | b :: l, h => by
    rw [List.count_cons] at h
    have h1 : l.count c = 0 := by omega
    have h2 : ¬ (b == c) = true := by intro e; rw [if_pos e] at h; omega
    unfold Lib.indexByte
    rw [if_neg h2, indexByte_none h1]; rfl
theorem indexByte_some {c : UInt8} : -- of 106
  ∀ {l : List UInt8}, 0 < l.count c → ∃ m : Nat, Lib.indexByte l c = m ∧ m < l.length ∧ spl c l = l.take m :: spl c (l.drop (m + 1)) ∧ (l.drop (m + 1)).count c + 1 = l.count c
  | [], h => by simp at h
  | b :: l, h => by
    unfold Lib.indexByte
    by_cases hb : (b == c) = true
    · have e : b = c := by simpa using hb
      subst e
      refine ⟨0, by simp, by simp, by simp [spl], by simp⟩
    · have hne : ¬ b = c := by simpa using hb
      rw [List.count_cons, if_neg hb, Nat.add_zero] at h
      obtain ⟨m, h1, h2, h3, h4⟩ := indexByte_some h
      refine ⟨m + 1, ?_, by simpa using h2, ?_, ?_⟩
      · rw [if_neg hb, h1, if_neg (by simp)]; omega
      · simp only [spl, if_neg hne, h3, List.take_succ_cons, List.drop_succ_cons]
      · rw [List.count_cons, if_neg hb]; simpa using h4
theorem spl_length {c : UInt8} : ∀ (l : List UInt8), (spl c l).length = l.count c + 1
  | [] => rfl
  | b :: l => by
    have ih := spl_length (c := c) l
    unfold spl
    rw [List.count_cons]
    by_cases hb : b = c
    · rw [if_pos hb, if_pos (by simp [hb])]; simp [ih]
    · rw [if_neg hb, if_neg (by simp [hb])]
      split
      · rename_i h; exact absurd h (spl_ne c l)
      · rename_i w ws h; rw [h] at ih; simpa using ih
theorem setCells_str (u s : List UInt8) : setCells (.str u) 0 [PV.str s] = .str s := rfl
theorem L80_v {N : Nat} {c : UInt8} {M : Nat} (hM : M ≤ 1000000) : ∀ (k n i : Nat) (s : List UInt8) (A : List (List UInt8)), s.length ≤ 1000000 → s.count c = k → M = i + k → A.length = M + 1 → k < n →
    L80_11 N n s [c] 0 (M : Int) (i : Int) (A.map .str) = some (((A.take i) ++ spl c s).map .str) := by
  intro k
  induction k with
  | zero =>
    intro n i s A hs hk hi hA hn
    obtain ⟨n, rfl⟩ : ∃ m, n = m + 1 := ⟨n - 1, by omega⟩
    have hlt : i < A.length := by omega
    rw [L80_11_eq, aIf_if, if_neg (by simp; omega)]
    simp only [aGd_if]
    rw [if_pos (by simp), if_pos (by simp; omega), if_pos (by simp)]
    simp only [Int.toNat_natCast, Int.ofNat_eq_natCast]
    rw [onGet_nat (by simpa using hlt), w64 (by omega) (by omega)]
    simp only [List.getElem_map, setCells_str, List.length_set, List.length_map]
    rw [if_pos (by simp; omega), if_pos (by simp; omega)]
    have e : ((i : Int) + 1).toNat = i + 1 := by omega
    have hcn : c ∉ s := List.count_eq_zero.1 hk
    rw [e, List.drop_zero, spl_last hcn, List.map_append, List.take_succ_eq_append_getElem (by simpa using hlt)]
    simp only [List.getElem_set_self, List.map_take, List.map_cons, List.map_nil]
    rw [List.take_set_of_le (Nat.le_refl _)]
  | succ k ih =>
    intro n i s A hs hk hi hA hn
    obtain ⟨n, rfl⟩ : ∃ m, n = m + 1 := ⟨n - 1, by omega⟩
    have hlt : i < A.length := by omega
    obtain ⟨m, h1, h2, h3, h4⟩ := indexByte_some (c := c) (l := s) (by omega)
    rw [L80_11_eq, aIf_if, if_pos (by simp; omega)]
    rw [show F106 N (s, [c]) = some (Lib.indexByte s c) from rfl, onSome_ok, h1]
    simp only [aIf_if, aGd_if, List.length_singleton, Int.ofNat_eq_natCast]
    have e0 : IntKind.i64.wrap ((m : Int) + 0) = (m : Int) := by rw [w64 (by omega) (by omega)]; omega
    have e1 : IntKind.i64.wrap ((m : Int) + ((1 : Nat) : Int)) = ((m + 1 : Nat) : Int) := by rw [w64 (by omega) (by omega)]; omega
    have e2 : IntKind.i64.wrap ((i : Int) + 1) = ((i + 1 : Nat) : Int) := by rw [w64 (by omega) (by omega)]; omega
    simp only [e0, e1, e2, Int.toNat_natCast]
    rw [if_neg (by simp), if_pos (by simp), if_pos (by simp; omega), if_pos (by simp), if_pos (by simp; omega), if_pos (by simp)]
    rw [onGet_nat (by simpa using hlt), if_pos (by simp; omega), if_pos (by simp; omega)]
    simp only [List.getElem_map, setCells_str, List.take_length, List.drop_zero]
    have es : (A.map PV.str).set i (.str (s.take m)) = (A.set i (s.take m)).map PV.str := by rw [List.map_set]
    rw [es, ih n (i + 1) (s.drop (m + 1)) (A.set i (s.take m)) (by simp; omega) (by omega) (by omega) (by simpa using hA) (by omega), h3]
    congr 2
    rw [List.take_succ_eq_append_getElem (by simpa using hlt), List.getElem_set_self, List.take_set_of_le (Nat.le_refl _)]
    simp
theorem F49_v {N : Nat} {c : UInt8} {s : List UInt8} (hs : s.length ≤ 1000000) (hN : s.length < N) : F49 N (s, [c]) = some ((spl c s).map .str) := by
  have hc : s.count c ≤ s.length := List.count_le_length
  rw [F49_eq, F80_eq]
  simp only [aIf_if, aGd_if]
  rw [if_neg (by simp), if_neg (by simp), if_pos (by simp), show F105 N (s, [c]) = some (Int.ofNat (Lib.countByte s c)) from rfl, onSome_ok]
  have e : min (IntKind.i64.wrap (Int.ofNat (Lib.countByte s c) + 1)) (IntKind.i64.wrap (Int.ofNat s.length + 1)) = ((s.count c + 1 : Nat) : Int) := by
    unfold Lib.countByte
    rw [w64 (by simp; omega) (by simp; omega), w64 (by simp; omega) (by simp; omega)]
    simp; omega
  simp only [e]
  rw [if_pos (by simp; omega), if_pos (by simp; omega), w64 (by omega) (by omega)]
  have := L80_v (N := N) (c := c) (M := s.count c) (by omega) (s.count c) N 0 s (List.replicate (s.count c + 1) []) hs rfl (by omega) (by simp) (by omega)
  simp only [List.map_replicate, List.take_zero, List.nil_append, Int.natCast_zero] at this
  rw [show (((s.count c + 1 : Nat) : Int) - 1) = ((s.count c : Nat) : Int) by omega, Int.toNat_natCast, this, onSome_ok]

/-! ## Words -/
/-- The words of a text: w is the one that is being read. -/
def fld : Option (List UInt8) → List UInt8 → List (List UInt8)
  | none, [] => []
  | some w, [] => [w]
  | c, b :: l => if b.toNat = 32 ∨ b.toNat = 9 then (match c with | some w => w :: fld none l | none => fld none l) else fld (some (c.getD [] ++ [b])) l
theorem fld_sep {b : UInt8} {l : List UInt8} (w : List UInt8) (h : b.toNat = 32 ∨ b.toNat = 9) : fld (some w) (b :: l) = w :: fld none l := by
  conv => lhs; unfold fld
  rw [if_pos h]
theorem fld_sep0 {b : UInt8} {l : List UInt8} (h : b.toNat = 32 ∨ b.toNat = 9) : fld none (b :: l) = fld none l := by
  conv => lhs; unfold fld
  rw [if_pos h]
theorem fld_chr {b : UInt8} {l : List UInt8} (c : Option (List UInt8)) (h : ¬ (b.toNat = 32 ∨ b.toNat = 9)) : fld c (b :: l) = fld (some (c.getD [] ++ [b])) l := by
  cases c <;> (conv => lhs; unfold fld) <;> rw [if_neg h]
/-- No blank, no tab. -/
def solid (w : List UInt8) : Bool := w.all fun b => decide (b.toNat ≠ 32) && decide (b.toNat ≠ 9)
theorem fld_solid : ∀ {w : List UInt8} (u : List UInt8) (r : List UInt8), solid w = true → fld (some u) (w ++ r) = fld (some (u ++ w)) r
  | [], u, r, _ => by simp
  | b :: w, u, r, h => by
    simp only [solid, List.all_cons, Bool.and_eq_true, decide_eq_true_eq] at h
    have ih := fld_solid (w := w) (u ++ [b]) r (by simpa [solid] using h.2)
    simp only [List.cons_append]
    conv => lhs; unfold fld
    rw [if_neg (by omega)]
    simpa using ih
theorem fld_start {w : List UInt8} (r : List UInt8) (h : solid w = true) (hne : w ≠ []) : fld none (w ++ r) = fld (some w) r := by
  match w, hne with
  | b :: w, _ =>
    simp only [solid, List.all_cons, Bool.and_eq_true, decide_eq_true_eq] at h
    simp only [List.cons_append]
    conv => lhs; unfold fld
    rw [if_neg (by omega)]
    have := fld_solid (w := w) [b] r (by simpa [solid] using h.2)
    simpa using this
theorem fld_word {w : List UInt8} (r : List UInt8) (h : solid w = true) (hne : w ≠ []) : fld none (w ++ 32 :: r) = w :: fld none r := by
  rw [fld_start _ h hne]
  conv => lhs; unfold fld
  rw [if_pos (by decide)]
theorem fld_last {w : List UInt8} (h : solid w = true) (hne : w ≠ []) : fld none w = [w] := by
  have := fld_start [] h hne
  rw [List.append_nil] at this
  rw [this]; rfl
theorem solid_32 {w : List UInt8} (h : solid w = true) : (32 : UInt8) ∉ w := fun hm => by
  have := List.all_eq_true.1 h _ hm
  simp at this
/-- Words joined by blanks. -/
def jw : List (List UInt8) → List UInt8
  | [] => []
  | [w] => w
  | w :: ws => w ++ 32 :: jw ws
theorem spl_jw : ∀ {ws : List (List UInt8)}, ws ≠ [] → (∀ w ∈ ws, solid w = true) → spl 32 (jw ws) = ws
  | [w], _, h => spl_last (solid_32 (h w (by simp)))
  | w :: v :: ws, _, h => by
    rw [show jw (w :: v :: ws) = w ++ 32 :: jw (v :: ws) from rfl, spl_word _ (solid_32 (h w (by simp))), spl_jw (ws := v :: ws) (by simp) (fun x hx => h x (by simp [hx]))]
theorem fld_jw : ∀ {ws : List (List UInt8)}, (∀ w ∈ ws, solid w = true ∧ w ≠ []) → fld none (jw ws) = ws
  | [], _ => rfl
  | [w], h => fld_last (h w (by simp)).1 (h w (by simp)).2
  | w :: v :: ws, h => by
    rw [show jw (w :: v :: ws) = w ++ 32 :: jw (v :: ws) from rfl, fld_word _ (h w (by simp)).1 (h w (by simp)).2, fld_jw (ws := v :: ws) (fun x hx => h x (by simp [hx]))]

/-! ## Months as texts -/
def mvB' (m : Int) : Bool := decide (0 ≤ m) && decide (m ≤ 3599)
def fmtM (m : Int) : List UInt8 := if mvB' m then padS 4 (1900 + m / 12) ++ [45] ++ padS 2 (m % 12 + 1) else []
theorem pad4 {y : Int} (h0 : 1000 ≤ y) (h1 : y ≤ 9999) : padS 4 y = itoaF y := by
  obtain ⟨k, rfl⟩ := nat_of (show 0 ≤ y by omega)
  have : (itoaF (k : Int)).length = 4 := by
    rw [itoaF_nat]
    have h2 := decF_short 20 k 4 (by omega) (by decide)
    have h3 : 4 ≤ (decF 20 k).length := by
      rcases Nat.lt_or_ge (decF 20 k).length 4 with h | h
      · have hv := decF_vl 20 k (by omega)
        have hb := vl_high (decF 20 k) 0 (decF_all 20 k)
        rw [hv] at hb
        have : 10 ^ (decF 20 k).length ≤ 10 ^ 3 := Nat.pow_le_pow_right (by decide) (by omega)
        omega
      · exact h
    omega
  unfold padS
  rw [this]; rfl
theorem pad2 {m : Int} (h0 : 0 ≤ m) (h1 : m ≤ 99) : (if (itoaF m).length < 2 then 48 :: itoaF m else itoaF m) = padS 2 m := by
  unfold padS
  have hne : itoaF m ≠ [] := by
    obtain ⟨k, rfl⟩ := nat_of h0
    rw [itoaF_nat]; exact decF_ne (by decide)
  have hl : 1 ≤ (itoaF m).length := by
    cases h : itoaF m with
    | nil => exact absurd h hne
    | cons a l => simp
  by_cases h : (itoaF m).length < 2
  · rw [if_pos h, show 2 - (itoaF m).length = 1 by omega]; rfl
  · rw [if_neg h, show 2 - (itoaF m).length = 0 by omega]; rfl
theorem fmt_month {a y : List UInt8} (ha : a.length ≤ 30) (hy : y.length ≤ 30) : (if decide (Int.ofNat a.length < 2) = true then (if decide (1 + a.length ≤ 9223372036854775807) = true then (onSome (some y) fun y2 => if decide (y2.length + 1 ≤ 9223372036854775807) = true then (if decide ((y2 ++ [(45 : UInt8)]).length + ((48 : UInt8) :: List.append [] a).length ≤ 9223372036854775807) = true then some (y2 ++ [(45 : UInt8)] ++ (48 : UInt8) :: List.append [] a) else none) else none) else none)
    else (onSome (some y) fun y3 => if decide (y3.length + 1 ≤ 9223372036854775807) = true then (if decide ((y3 ++ [(45 : UInt8)]).length + a.length ≤ 9223372036854775807) = true then some (y3 ++ [(45 : UInt8)] ++ a) else none) else none)) = some (y ++ [45] ++ (if a.length < 2 then 48 :: a else a)) := by
  by_cases h : a.length < 2
  · rw [if_pos (by simp; omega), if_pos (by simp; omega), onSome_ok, if_pos (by simp; omega), if_pos (by simp; omega), if_pos h]; rfl
  · rw [if_neg (by simp; omega), onSome_ok, if_pos (by simp; omega), if_pos (by simp; omega), if_neg h]
end Go.Proofs.YtflpiekacionaaaDoor
