/- The program's values, by its pure reading: what the functions of package value and of its reference compute. -/
import Derived.Test.YtflpiekacionaaaDoorDatB
set_option linter.unusedSimpArgs false
set_option linter.unusedVariables false
namespace Go.Proofs.YtflpiekacionaaaDoor
open Go.RowKit

/-- An enumeration: its name, its members' names. -/
abbrev EnT := List UInt8 × List (List UInt8)
def enPV (e : EnT) : PV := .agg [.str e.1, .sl 1 (e.2.map .str)]
def ensPV (E : List EnT) : List PV := E.map enPV
/-- The members of enumeration i. -/
def mem (E : List EnT) (i : Int) : List (List UInt8) := ((E[i.toNat]?).map (·.2)).getD []
theorem ensPV_len (E : List EnT) : (ensPV E).length = E.length := by simp [ensPV]
theorem onEn {ρ : Type} {E : List EnT} {i : Int} {k : List PV → Option ρ} (h0 : 0 ≤ i) (h1 : i < E.length) : (onGet (ensPV E) i fun z => onSome (PV.cells z)[1]? fun y => onSl 1 y k) = k ((mem E i).map .str) := by
  have hl : i.toNat < E.length := by omega
  rw [onGet_ok h0 (by rw [ensPV_len]; exact h1)]
  have e : mem E i = (E[i.toNat]'hl).2 := by simp [mem, List.getElem?_eq_getElem hl]
  rw [e]
  simp only [ensPV, List.getElem_map]
  rfl
theorem onMem {ρ : Type} {l : List (List UInt8)} {i : Int} {k : List UInt8 → Option ρ} (h0 : 0 ≤ i) (h1 : i < l.length) : (onGet (l.map PV.str) i fun z => onStr z k) = k (l.getD i.toNat []) := by
  have hl : i.toNat < l.length := by omega
  rw [onGet_ok h0 (by simpa using h1)]
  simp only [List.getElem_map, onStr_ok]
  rw [List.getD_eq_getElem?_getD, List.getElem?_eq_getElem hl]; rfl
/-- Few enumerations, each of few members. -/
def few (E : List EnT) : Prop := E.length ≤ 20 ∧ ∀ x ∈ E, x.2.length ≤ 40
theorem few_mem {E : List EnT} (h : few E) (i : Int) : (mem E i).length ≤ 40 := by
  unfold mem
  cases hx : E[i.toNat]? with
  | none => simp
  | some x => exact h.2 x (List.mem_of_getElem? hx)

/-! ## Types and bounds -/
def vt (k e : Int) (E : List EnT) : Bool := if k = 6 then decide (0 ≤ e) && decide (e < E.length) else decide (1 ≤ k) && (decide (k ≤ 5) && decide (e = 0))
theorem vt_6 {e : Int} {E : List EnT} (h : vt 6 e E = true) : 0 ≤ e ∧ e < E.length := by simpa [vt] using h
theorem vt_lo {k e : Int} {E : List EnT} (h : vt k e E = true) : 1 ≤ k ∧ k ≤ 6 ∧ (k ≠ 6 → e = 0) := by
  unfold vt at h
  split at h
  · omega
  · simp at h; omega
theorem F107_v (N : Nat) (k e : Int) (E : List EnT) : F107 N ((k, e), ensPV E) = some (vt k e E) := by
  rw [F107_eq]
  simp only [aIf_if, ensPV_len, Int.ofNat_eq_natCast, decide_eq_true_eq, beq_iff_eq, vt]
  by_cases h1 : k = 1
  · subst h1; simp; rfl
  by_cases h2 : k = 2
  · subst h2; simp; rfl
  by_cases h3 : k = 3
  · subst h3; simp; rfl
  by_cases h4 : k = 4
  · subst h4; simp; rfl
  by_cases h5 : k = 5
  · subst h5; simp; rfl
  by_cases h6 : k = 6
  · subst h6; by_cases h0 : 0 ≤ e <;> simp [h0]
  · have : ¬ (1 ≤ k ∧ k ≤ 5) := by omega
    simp [h1, h2, h3, h4, h5, h6]
    omega
theorem F124_v (N : Nat) (k e : Int) (E : List EnT) : F124 N ((k, e), ensPV E) = some (vt k e E) := by
  rw [F124_eq]
  simp only [aIf_if, ensPV_len, Int.ofNat_eq_natCast, decide_eq_true_eq, beq_iff_eq, vt]
  by_cases h6 : k = 6
  · subst h6; by_cases h0 : 0 ≤ e <;> simp [h0]
  · by_cases h1 : 1 ≤ k <;> by_cases h5 : k ≤ 5 <;> simp [h6, h1, h5]
    rfl
def bd (k e : Int) (E : List EnT) : Int × Int :=
  if vt k e E = false then (0, -1) else if k = 1 then (0, 1) else if k = 2 then (-1000000000000, 1000000000000) else if k = 3 then (-1000000000000000, 1000000000000000) else if k = 4 then (-1000000000, 1000000000) else if k = 5 then (0, 109572) else (0, (mem E e).length - 1)
theorem bounds_v {k e : Int} {E : List EnT} (hE : few E) : (aIf (!vt k e E) (some ((0 : Int), (-1 : Int)))
    (aIf (k == (1 : Int)) (some ((0 : Int), (1 : Int)))
      (aIf (k == (2 : Int)) (some ((-1000000000000 : Int), (1000000000000 : Int)))
        (aIf (k == (3 : Int)) (some ((-1000000000000000 : Int), (1000000000000000 : Int)))
          (aIf (k == (4 : Int)) (some ((-1000000000 : Int), (1000000000 : Int)))
            (aIf (k == (5 : Int)) (some ((0 : Int), (109572 : Int)))
              (onGet (ensPV E) e fun z1 =>
                onSome (PV.cells z1)[(1 : Nat)]? fun y2 => onSl (1 : Nat) y2 fun l3 => some ((0 : Int), IntKind.wrap IntKind.i64 (Int.ofNat (List.length l3) - (1 : Int)))))))))) = some (bd k e E) := by
  simp only [aIf_if, beq_iff_eq, bd]
  cases hv : vt k e E with
  | false => simp
  | true =>
    simp only [Bool.not_true, Bool.false_eq_true, if_false, Bool.true_eq_false]
    by_cases h1 : k = 1
    · simp [h1]
    by_cases h2 : k = 2
    · simp [h2]
    by_cases h3 : k = 3
    · simp [h3]
    by_cases h4 : k = 4
    · simp [h4]
    by_cases h5 : k = 5
    · simp [h5]
    have hl := vt_lo hv
    have h6 : k = 6 := by omega
    subst h6
    obtain ⟨h0, h7⟩ := vt_6 hv
    have hm := few_mem hE e
    simp only [h1, h2, h3, h4, h5, if_false]
    rw [onEn h0 h7, w64 (by simp; omega) (by simp; omega)]
    simp
theorem F84_v {N : Nat} {k e : Int} {E : List EnT} (hE : few E) : F84 N ((k, e), ensPV E) = some (bd k e E) := by
  rw [F84_eq, F107_v, onSome_ok]
  exact bounds_v hE
theorem F108_v {N : Nat} {k e : Int} {E : List EnT} (hE : few E) : F108 N ((k, e), ensPV E) = some (bd k e E) := by
  rw [F108_eq, F124_v, onSome_ok]
  exact bounds_v hE
def vv (n k e : Int) (E : List EnT) : Bool := decide ((bd k e E).1 ≤ n) && decide (n ≤ (bd k e E).2)
theorem vv_if {n a b : Int} : (if decide (a ≤ n) = true then some (decide (n ≤ b)) else some false) = some (decide (a ≤ n) && decide (n ≤ b)) := by
  by_cases h : a ≤ n <;> simp [h]
theorem vv_vt {n k e : Int} {E : List EnT} (h : vv n k e E = true) : vt k e E = true := by
  cases hv : vt k e E with
  | true => rfl
  | false =>
    simp [vv, bd, hv] at h
    omega
theorem F113_v {N : Nat} {n k e : Int} {E : List EnT} (hE : few E) : F113 N (n, (k, e), ensPV E) = some (vv n k e E) := by
  rw [F113_eq, F84_v hE, onSome_ok]
  simp only [aIf_if]
  exact vv_if
theorem F86_v {N : Nat} {n k e : Int} {E : List EnT} (hE : few E) : F86 N (n, (k, e), ensPV E) = some (vv n k e E) := by
  rw [F86_eq, F108_v hE, onSome_ok]
  simp only [aIf_if]
  exact vv_if
theorem F115_v (N : Nat) (k e n : Int) : F115 N (k, e, n) = some (k, e) := by rw [F115_eq, aGd_if, if_pos (by simp)]
theorem F85_v (N : Nat) (k e n : Int) : F85 N (k, e, n) = some (k, e) := by rw [F85_eq, aGd_if, if_pos (by simp)]
theorem F116_v {N : Nat} {k e n : Int} {E : List EnT} (hE : few E) : F116 N ((k, e, n), ensPV E) = some (vv n k e E) := by
  rw [F116_eq, F115_v, onSome_ok, F113_v hE, onSome_ok]
/-! ## Format -/
def tTrue : List UInt8 := [116, 114, 117, 101]
def tFalse : List UInt8 := [102, 97, 108, 115, 101]
def fmtV (k e n : Int) (E : List EnT) : List UInt8 × Int :=
  if vt k e E = false then ([], 8) else if vv n k e E = false then ([], 3) else
  (if k = 1 then (if n = 1 then tTrue else tFalse) else if k = 2 then itoaF n else if k = 3 then fixS 2 (itoaF n) else if k = 4 then fixS 4 (itoaF n) ++ [37] else if k = 5 then fmtD n else (mem E e).getD n.toNat [], 0)
theorem bd_2 {n e : Int} {E : List EnT} (k : Int) (hk : k = 2 ∨ k = 3 ∨ k = 4 ∨ k = 5) (h : vv n k e E = true) : -1000000000000000 ≤ n ∧ n ≤ 1000000000000000 := by
  have hv := vv_vt h
  rcases hk with rfl | rfl | rfl | rfl <;> simp [vv, bd, hv] at h <;> omega
theorem bd_1 {n e : Int} {E : List EnT} (h : vv n 1 e E = true) : n = 0 ∨ n = 1 := by
  have hv := vv_vt h
  simp [vv, bd, hv] at h; omega
theorem bd_5 {n e : Int} {E : List EnT} (h : vv n 5 e E = true) : vdB n = true := by
  have hv := vv_vt h
  simp [vv, bd, hv] at h
  exact vdB_mk h.1 h.2
theorem bd_6 {n e : Int} {E : List EnT} (h : vv n 6 e E = true) : 0 ≤ e ∧ e < E.length ∧ 0 ≤ n ∧ n < (mem E e).length := by
  have hv := vv_vt h
  have := vt_6 hv
  simp [vv, bd, hv] at h
  omega
theorem F95_v {N : Nat} {k e n : Int} {E : List EnT} (hE : few E) (hN : 300 < N) : F95 N ((k, e, n), ensPV E) = some (fmtV k e n E) := by
  rw [F95_eq, F115_v, onSome_ok, F107_v, onSome_ok, F116_v hE, onSome_ok, fmtV]
  simp only [aIf_if, beq_iff_eq]
  cases hv : vt k e E with
  | false => simp
  | true =>
  cases hn : vv n k e E with
  | false => simp
  | true =>
  simp only [Bool.not_true, Bool.false_eq_true, if_false, Bool.true_eq_false]
  by_cases h1 : k = 1
  · subst h1
    by_cases h : n = 1 <;> simp [h, tTrue, tFalse]
  by_cases h2 : k = 2
  · subst h2
    have := bd_2 2 (by simp) hn
    simp [F44_itoa (N := N) (n := n) (by omega) (by omega), onSome_ok]
  by_cases h3 : k = 3
  · subst h3
    have := bd_2 3 (by simp) hn
    simp [F117_fix (N := N) (n := n) (a1 := 2) (by omega) (by omega), onSome_ok]; rfl
  by_cases h4 : k = 4
  · subst h4
    have := bd_2 4 (by simp) hn
    have hl := fixS_len 4 (itoaF n)
    have hl2 := itoaF_len n
    rw [if_neg (by decide), if_neg (by decide), if_neg (by decide), if_pos rfl, F117_fix (N := N) (n := n) (a1 := 4) (by omega) (by omega), onSome_ok, show clampN 4 = 4 from rfl, aGd_if, if_pos (by simp; omega)]
    simp
  by_cases h5 : k = 5
  · subst h5
    simp [F64_d hN, onSome_ok]
  have hl := vt_lo hv
  have h6 : k = 6 := by omega
  subst h6
  obtain ⟨h0, h7, h8, h9⟩ := bd_6 hn
  simp only [h1, h2, h3, h4, h5, if_false]
  rw [onEn h0 h7, onMem h8 h9]
end Go.Proofs.YtflpiekacionaaaDoor
