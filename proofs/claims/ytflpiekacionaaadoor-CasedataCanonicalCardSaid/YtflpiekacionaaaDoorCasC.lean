/- Validate, plainly: the program's and the reference's. -/
import Derived.Test.YtflpiekacionaaaDoorCasB
set_option linter.unusedSimpArgs false
set_option linter.unusedVariables false
namespace Go.Proofs.YtflpiekacionaaaDoor
open Go.RowKit

/-- The first error of values against inputs of the same number. -/
def mtL (E : List EnT) : List ValT → List FldT → Nat → Int × Int
  | v :: l, f :: fs, i => if v.1 = f.2.1 ∧ v.2.1 = f.2.2 then (if vv v.2.2 f.2.1 f.2.2 E = true then mtL E l fs (i + 1) else ((i : Int), 3)) else ((i : Int), 8)
  | _, _, _ => (0, 0)
def mt (E : List EnT) (V : List ValT) (I : List FldT) : Int × Int :=
  if V.length < I.length then ((V.length : Int), 5) else if I.length < V.length then ((I.length : Int), 4) else mtL E V I 0
theorem L54_v {N : Nat} {E : List EnT} (hE : few E) {I : List FldT} {V : List ValT} (hV : V.length ≤ 1000000) (hl : V.length = I.length) : ∀ (n p : Nat), p ≤ V.length → V.length - p < n →
    L54_6 N n (I.map fldPV) (ensPV E) (V.map valPV) (V.length : Int) (p : Int) = some (mtL E (V.drop p) (I.drop p) p)
  | 0, p, _, h => by omega
  | n + 1, p, hp, hn => by
    rw [L54_6_eq]
    simp only [aIf_if]
    by_cases hlt : p < V.length
    · have hlt2 : p < I.length := by omega
      have ih := L54_v (N := N) hE hV hl n (p + 1) (by omega) (by omega)
      rw [if_pos (by simp; omega), onGetMap hlt, onVal3, aGd_if, if_pos (by simp), onGetMap hlt2, onFld2, aGd_if, if_pos (by simp), F84_v hE, onSome_ok, w64 (by omega) (by omega), List.drop_eq_getElem_cons hlt, List.drop_eq_getElem_cons hlt2, mtL]
      simp only [Int.natCast_add, Int.natCast_one] at ih
      rw [ih]
      generalize V[p] = v
      generalize I[p] = f
      by_cases h1 : v.1 = f.2.1
      · by_cases h2 : v.2.1 = f.2.2
        · by_cases h3 : v.2.2 < (bd f.2.1 f.2.2 E).1
          · have h3' : ¬ (bd f.2.1 f.2.2 E).1 ≤ v.2.2 := by omega
            simp [h1, h2, h3, h3', vv]
          · have h3' : (bd f.2.1 f.2.2 E).1 ≤ v.2.2 := by omega
            by_cases h4 : (bd f.2.1 f.2.2 E).2 < v.2.2
            · have h4' : ¬ v.2.2 ≤ (bd f.2.1 f.2.2 E).2 := by omega
              simp [h1, h2, h3, h3', h4, h4', vv]
            · have h4' : v.2.2 ≤ (bd f.2.1 f.2.2 E).2 := by omega
              simp [h1, h2, h3, h3', h4, h4', vv]
        · simp [h1, h2]
      · simp [h1]
    · rw [if_neg (by simp; omega), List.drop_eq_nil_of_le (by omega)]
      rfl
theorem F54_v {N : Nat} {E : List EnT} (hE : few E) {I : List FldT} {V : List ValT} (hV : V.length < N) (hN : N ≤ 1000000) : F54 N (V.map valPV, I.map fldPV, ensPV E) = some (mt E V I) := by
  rw [F54_eq]
  simp only [aIf_if, List.length_map, Int.ofNat_eq_natCast, decide_eq_true_eq, mt]
  by_cases h1 : V.length < I.length
  · rw [if_pos (by omega), if_pos h1]
  · rw [if_neg (by omega), if_neg h1]
    by_cases h2 : I.length < V.length
    · rw [if_pos (by omega), if_pos h2]
    · rw [if_neg (by omega), if_neg h2]
      exact L54_v hE (by omega) (by omega) N 0 (by omega) (by omega)
theorem L57_v {N : Nat} {E : List EnT} (hE : few E) {x4 x5 : List PV} {I : List FldT} {V : List ValT} (hV : V.length ≤ 1000000) (hl : V.length = I.length) : ∀ (n p : Nat), p ≤ V.length → V.length - p < n →
    L57_6 N n (I.map fldPV) (V.map valPV) (p : Int) (ensPV E) x4 x5 = some (mtL E (V.drop p) (I.drop p) p)
  | 0, p, _, h => by omega
  | n + 1, p, hp, hn => by
    rw [L57_6_eq]
    simp only [aIf_if, List.length_map, Int.ofNat_eq_natCast]
    by_cases hlt : p < V.length
    · have hlt2 : p < I.length := by omega
      have ih := L57_v (N := N) hE (x4 := x4) (x5 := x5) hV hl n (p + 1) (by omega) (by omega)
      rw [if_pos (by simp; omega), onGetMap hlt, onVal3, F85_v, onSome_ok, onGetMap hlt2, onFld2, onGetMap hlt, onValN, onGetMap hlt2, onFld2, F86_v hE, onSome_ok, w64 (by omega) (by omega), List.drop_eq_getElem_cons hlt, List.drop_eq_getElem_cons hlt2, mtL]
      simp only [Int.natCast_add, Int.natCast_one] at ih
      rw [ih]
      generalize V[p] = v
      generalize I[p] = f
      by_cases h1 : v.1 = f.2.1
      · by_cases h2 : v.2.1 = f.2.2
        · cases h3 : vv v.2.2 f.2.1 f.2.2 E <;> simp [h1, h2, h3]
        · simp [h1, h2]
      · simp [h1]
    · rw [if_neg (by simp; omega), List.drop_eq_nil_of_le (by omega)]
      rfl
theorem F57_v {N : Nat} {E : List EnT} (hE : few E) {T S : List PV} {I : List FldT} {V : List ValT} (hV : V.length < N) (hN : N ≤ 1000000) : F57 N ((ensPV E, T, S), I.map fldPV, V.map valPV) = some (mt E V I) := by
  rw [F57_eq]
  simp only [aIf_if, List.length_map, Int.ofNat_eq_natCast, decide_eq_true_eq, mt]
  by_cases h1 : V.length < I.length
  · rw [if_pos (by omega), if_pos h1]
  · rw [if_neg (by omega), if_neg h1]
    by_cases h2 : I.length < V.length
    · rw [if_pos (by omega), if_pos h2]
    · rw [if_neg (by omega), if_neg h2]
      exact L57_v hE (by omega) (by omega) N 0 (by omega) (by omega)

/-! ## Member scopes -/
def msc (S : List ScT) (s : ScT) : Option ScT := if s.2.1 < 0 ∨ (S.length : Int) ≤ s.2.1 then none else S[s.2.1.toNat]?
def lim (S : List ScT) (s : ScT) : Int := if (msc S s).isSome = true then 8 else 0
def inpM (S : List ScT) (s : ScT) : List FldT := ((msc S s).map (fun t => t.2.2.1)).getD []
theorem msc_some {S : List ScT} {s : ScT} (h : ¬ (s.2.1 < 0 ∨ (S.length : Int) ≤ s.2.1)) : ∃ (q : Nat) (hq : q < S.length), s.2.1 = q ∧ msc S s = some S[q] := by
  refine ⟨s.2.1.toNat, by omega, by omega, ?_⟩
  unfold msc
  rw [if_neg h, List.getElem?_eq_getElem]
theorem F56_v {N : Nat} {T1 T2 : List PV} {S : List ScT} {q : Nat} (hq : q < S.length) : F56 N ((T1, T2, S.map scPV), (q : Int)) =
    some (match msc S S[q] with | some s => ((s.1, s.2.1, s.2.2.1.map fldPV, s.2.2.2.1.map fldPV, s.2.2.2.2.map rulPV), true) | none => (([], 0, [], [], []), false)) := by
  rw [F56_eq]
  dsimp only
  rw [onGetMap hq, onScMs]
  simp only [aIf_if, aGd_if, List.length_map, Int.ofNat_eq_natCast, decide_eq_true_eq]
  generalize S[q] = s
  by_cases h : s.2.1 < 0 ∨ (S.length : Int) ≤ s.2.1
  · have : msc S s = none := if_pos h
    rw [this]
    rcases h with h | h
    · simp [h]
    · by_cases h2 : s.2.1 < 0
      · simp [h2]
      · simp [h, h2]
  · obtain ⟨r, hr, e, hm⟩ := msc_some h
    rw [hm, if_neg (by omega), if_neg (by omega), e, onGetMap hr, onSc5]
    simp
theorem F55_v {N : Nat} {T1 T2 : List PV} {S : List ScT} {q : Nat} (hq : q < S.length) : F55 N ((T1, T2, S.map scPV), (q : Int)) = some (lim S S[q]) := by
  rw [F55_eq]
  dsimp only
  rw [F56_v hq, onSome_ok, aGd_if, if_pos (by simp), aIf_if]
  unfold lim
  cases msc S S[q] <;> rfl
theorem F58_v {N : Nat} {T1 T2 : List PV} {S : List ScT} {q : Nat} (hq : q < S.length) : ∃ at_, F58 N ((T1, T2, S.map scPV), (q : Int)) = some (at_, lim S S[q]) ∧
    (lim S S[q] ≠ 0 → ∃ (r : Nat) (hr : r < S.length), at_ = r ∧ S[r].2.2.1 = inpM S S[q]) := by
  rw [F58_eq]
  dsimp only
  rw [onGetMap hq, onScMs]
  simp only [aIf_if, List.length_map, Int.ofNat_eq_natCast, decide_eq_true_eq]
  generalize S[q] = s
  by_cases h : s.2.1 < 0 ∨ (S.length : Int) ≤ s.2.1
  · have : msc S s = none := if_pos h
    simp only [lim, this]
    refine ⟨-1, ?_, by simp⟩
    rcases h with h | h
    · simp [h]
    · by_cases h2 : s.2.1 < 0
      · simp [h2]
      · simp [h, h2]
  · obtain ⟨r, hr, e, hm⟩ := msc_some h
    refine ⟨s.2.1, ?_, fun _ => ⟨r, hr, e, ?_⟩⟩
    · rw [if_neg (by omega), if_neg (by omega)]
      simp [lim, hm]
    · simp [inpM, hm]

/-! ## Validate -/
def vmL (E : List EnT) (I : List FldT) : List (List ValT) → Nat → Int × Int × Int
  | m :: ms, k => if (mt E m I).2 ≠ 0 then ((k : Int), (mt E m I).1, (mt E m I).2) else vmL E I ms (k + 1)
  | [], _ => (0, 0, 0)
def valC (E : List EnT) (S : List ScT) (sc d : Int) (I : List ValT) (M : List (List ValT)) : Int × Int × Int :=
  if sc < 0 ∨ (S.length : Int) ≤ sc then (-1, -1, 6)
  else if d < 0 ∨ 109572 < d then (-1, -1, 3)
  else match S[sc.toNat]? with
    | none => (-1, -1, 6)
    | some s => if (mt E I s.2.2.1).2 ≠ 0 then (-1, (mt E I s.2.2.1).1, (mt E I s.2.2.1).2)
      else if lim S s < (M.length : Int) then (lim S s, -1, 4) else vmL E (inpM S s) M 0
theorem L24_v {N : Nat} (hN : 1000 < N) (hN2 : N ≤ 1000000) {E : List EnT} (hE : few E) {S : List ScT} {I : List FldT} {M : List (List ValT)} (hM : M.length ≤ 1000) (hm : ∀ m ∈ M, m.length ≤ 1000)
    {x4 : List PV} {x6 : Int} {x7 x8 x12 x13 : List PV} {x9 : List UInt8} {x10 : Int} : ∀ (n p : Nat), p ≤ M.length → M.length - p < n →
    L24_13 N n (M.map memPV) (M.length : Int) (p : Int) (ensPV E) x4 (S.map scPV) x6 x7 x8 x9 x10 (I.map fldPV) x12 x13 = some (vmL E I (M.drop p) p)
  | 0, p, _, h => by omega
  | n + 1, p, hp, hn => by
    rw [L24_13_eq]
    simp only [aIf_if]
    by_cases hlt : p < M.length
    · have ih := L24_v (N := N) hN hN2 hE (S := S) (I := I) hM hm (x4 := x4) (x6 := x6) (x7 := x7) (x8 := x8) (x12 := x12) (x13 := x13) (x9 := x9) (x10 := x10) n (p + 1) (by omega) (by omega)
      have hml := hm _ (List.getElem_mem hlt)
      rw [if_pos (by simp; omega), onGetMap hlt, onMem3, F54_v hE (by omega) (by omega), onSome_ok, w64 (by omega) (by omega), List.drop_eq_getElem_cons hlt, vmL]
      simp only [Int.natCast_add, Int.natCast_one] at ih
      rw [ih]
      by_cases h : (mt E M[p] I).2 = 0 <;> simp [h]
    · rw [if_neg (by simp; omega), List.drop_eq_nil_of_le (by omega)]
      rfl
theorem F24_v {N : Nat} (hN : 1000 < N) (hN2 : N ≤ 1000000) {E : List EnT} (hE : few E) {T : List PV} {S : List ScT} {sc d : Int} {I : List ValT} {M : List (List ValT)} (hI : I.length ≤ 1000) (hM : M.length ≤ 1000) (hm : ∀ m ∈ M, m.length ≤ 1000) :
    F24 N ((ensPV E, T, S.map scPV), sc, d, I.map valPV, M.map memPV) = some (valC E S sc d I M) := by
  rw [F24_eq]
  simp only [aIf_if, List.length_map, Int.ofNat_eq_natCast, decide_eq_true_eq, valC]
  by_cases h1 : sc < 0
  · rw [if_pos h1, if_pos (.inl h1)]
  rw [if_neg h1]
  by_cases h2 : (S.length : Int) ≤ sc
  · rw [if_pos h2, if_pos (.inr h2)]
  rw [if_neg h2, if_neg (show ¬ (sc < 0 ∨ (S.length : Int) ≤ sc) by omega)]
  by_cases h3 : d < 0
  · rw [if_pos h3, if_pos (.inl h3)]
  rw [if_neg h3]
  by_cases h4 : 109572 < d
  · rw [if_pos h4, if_pos (.inr h4)]
  rw [if_neg h4, if_neg (show ¬ (d < 0 ∨ 109572 < d) by omega)]
  obtain ⟨q, rfl⟩ : ∃ q : Nat, sc = q := ⟨sc.toNat, by omega⟩
  have hq : q < S.length := by omega
  rw [Int.toNat_natCast, List.getElem?_eq_getElem hq, onGetMap hq, onScIn, F54_v hE (by omega) (by omega), onSome_ok, F55_v hq, onSome_ok, F56_v hq, onSome_ok, aGd55]
  dsimp only
  by_cases h5 : (mt E I S[q].2.2.1).2 = 0
  · simp only [h5, bne_self_eq_false, Bool.false_eq_true, if_false, ne_eq, not_true_eq_false]
    by_cases h6 : lim S S[q] < (M.length : Int)
    · rw [if_pos h6, if_pos h6]
    · rw [if_neg h6, if_neg h6]
      have key : ∀ (x9 : List UInt8) (x10 : Int) (x12 x13 : List PV) (K : List FldT), K = inpM S S[q] → L24_13 N N (M.map memPV) (M.length : Int) 0 (ensPV E) T (S.map scPV) d (I.map valPV) (M.map memPV) x9 x10 (K.map fldPV) x12 x13 = some (vmL E (inpM S S[q]) M 0) := fun x9 x10 x12 x13 K hK => by
        have := L24_v hN hN2 hE (S := S) (I := K) hM hm (x4 := T) (x6 := d) (x7 := I.map valPV) (x8 := M.map memPV) (x9 := x9) (x10 := x10) (x12 := x12) (x13 := x13) N 0 (by omega) (by omega)
        rw [hK] at this ⊢
        simpa using this
      cases hms : msc S S[q] with
      | none => exact key [] 0 [] [] [] (by simp [inpM, hms])
      | some s => exact key s.1 s.2.1 _ _ s.2.2.1 (by simp [inpM, hms])
  · simp [h5]
theorem L25_v {N : Nat} (hN : 1000 < N) (hN2 : N ≤ 1000000) {E : List EnT} (hE : few E) {S : List ScT} {I : List FldT} {M : List (List ValT)} (hM : M.length ≤ 1000) (hm : ∀ m ∈ M, m.length ≤ 1000)
    {x0 x5 : Int} {x3 x6 : List PV} : ∀ (n p : Nat), p ≤ M.length → M.length - p < n → (p < M.length → ∃ (r : Nat) (hr : r < S.length), x0 = r ∧ S[r].2.2.1 = I) →
    L25_12 N n x0 (p : Int) (ensPV E) x3 (S.map scPV) x5 x6 (M.map memPV) = some (vmL E I (M.drop p) p)
  | 0, p, _, h, _ => by omega
  | n + 1, p, hp, hn, hx => by
    rw [L25_12_eq]
    simp only [aIf_if, List.length_map, Int.ofNat_eq_natCast]
    by_cases hlt : p < M.length
    · have ih := L25_v (N := N) hN hN2 hE (S := S) (I := I) hM hm (x0 := x0) (x3 := x3) (x5 := x5) (x6 := x6) n (p + 1) (by omega) (by omega) (fun _ => hx hlt)
      have hml := hm _ (List.getElem_mem hlt)
      obtain ⟨r, hr, rfl, hI⟩ := hx hlt
      rw [if_pos (by simp; omega), onGetMap hr, onScIn, onGetMap hlt, onMem3, F57_v hE (by omega) (by omega), onSome_ok, w64 (by omega) (by omega), List.drop_eq_getElem_cons hlt, vmL, hI]
      simp only [Int.natCast_add, Int.natCast_one] at ih
      rw [ih]
      by_cases h : (mt E M[p] I).2 = 0 <;> simp [h]
    · rw [if_neg (by simp; omega), List.drop_eq_nil_of_le (by omega)]
      rfl
theorem F25_v {N : Nat} (hN : 1000 < N) (hN2 : N ≤ 1000000) {E : List EnT} (hE : few E) {T : List PV} {S : List ScT} {sc d : Int} {I : List ValT} {M : List (List ValT)} (hI : I.length ≤ 1000) (hM : M.length ≤ 1000) (hm : ∀ m ∈ M, m.length ≤ 1000) :
    F25 N ((ensPV E, T, S.map scPV), sc, d, I.map valPV, M.map memPV) = some (valC E S sc d I M) := by
  rw [F25_eq]
  simp only [aIf_if, List.length_map, Int.ofNat_eq_natCast, decide_eq_true_eq, valC]
  by_cases h1 : sc < 0
  · rw [if_pos h1, if_pos (.inl h1)]
  rw [if_neg h1]
  by_cases h2 : (S.length : Int) ≤ sc
  · rw [if_pos h2, if_pos (.inr h2)]
  rw [if_neg h2, if_neg (show ¬ (sc < 0 ∨ (S.length : Int) ≤ sc) by omega)]
  by_cases h3 : d < 0
  · rw [if_pos h3, if_pos (.inl h3)]
  rw [if_neg h3]
  by_cases h4 : 109572 < d
  · rw [if_pos h4, if_pos (.inr h4)]
  rw [if_neg h4, if_neg (show ¬ (d < 0 ∨ 109572 < d) by omega)]
  obtain ⟨q, rfl⟩ : ∃ q : Nat, sc = q := ⟨sc.toNat, by omega⟩
  have hq : q < S.length := by omega
  obtain ⟨at_, ha, ha2⟩ := F58_v (N := N) (T1 := ensPV E) (T2 := T) hq
  rw [Int.toNat_natCast, List.getElem?_eq_getElem hq, onGetMap hq, onScIn, F57_v hE (by omega) (by omega), onSome_ok, ha, onSome_ok]
  dsimp only
  by_cases h5 : (mt E I S[q].2.2.1).2 = 0
  · simp only [h5, bne_self_eq_false, Bool.false_eq_true, if_false, ne_eq, not_true_eq_false]
    by_cases h6 : lim S S[q] < (M.length : Int)
    · rw [if_pos h6, if_pos h6]
    · rw [if_neg h6, if_neg h6]
      have := L25_v hN hN2 hE (S := S) (I := inpM S S[q]) hM hm (x0 := at_) (x3 := T) (x5 := d) (x6 := I.map valPV) N 0 (by omega) (by omega) (fun h => ha2 (by omega))
      simpa using this
  · simp [h5]
theorem F9_true (l : LawT) (sc : Int) (c : CasT) : F9 4000 ((ensPV l.1, l.2.1.map tabPV, l.2.2.map scPV), sc, c.1, c.2.1.map valPV, c.2.2.map memPV) = some true := by
  rw [F9_eq]
  dsimp only
  obtain ⟨b, hb, hl⟩ := F21_v (N := 4000) (by decide) l
  obtain ⟨b', hb', hc⟩ := F22_v (N := 4000) (by decide) c
  rw [hb, onSome_ok, aIf_if]
  cases b with
  | false => rfl
  | true =>
    rw [if_neg (by simp), hb', onSome_ok, aIf_if]
    cases b' with
    | false => rfl
    | true =>
      obtain ⟨hE, -, -⟩ := hl rfl
      obtain ⟨h1, h2, h3⟩ := hc rfl
      have h3' : ∀ m ∈ c.2.2, m.length ≤ 1000 := fun m hm => by have := h3 m hm; omega
      rw [if_neg (by simp), F24_v (by decide) (by decide) hE.few (by omega) (by omega) h3', onSome_ok, F25_v (by decide) (by decide) hE.few (by omega) (by omega) h3', onSome_ok]
      simp [aIf_if]
end Go.Proofs.YtflpiekacionaaaDoor
