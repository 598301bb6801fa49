/- Format of cases, plainly: the program's and the reference's. -/
import Derived.Test.YtflpiekacionaaaDoorCasC
set_option linter.unusedSimpArgs false
set_option linter.unusedVariables false
namespace Go.Proofs.YtflpiekacionaaaDoor
open Go.RowKit

def tIn : List UInt8 := [105, 110]
def tMem : List UInt8 := [109, 101, 109, 98, 101, 114]
def tDate : List UInt8 := [100, 97, 116, 101, 32]
/-- The words of values, each behind a blank. -/
def wds (E : List EnT) : List ValT → List UInt8
  | [] => []
  | v :: l => 32 :: (fmtV v.1 v.2.1 v.2.2 E).1 ++ wds E l
def lineS (w : List UInt8) (E : List EnT) (V : List ValT) : List UInt8 := w ++ wds E V ++ [10]
def mems (E : List EnT) : List (List ValT) → List UInt8
  | [] => []
  | m :: l => lineS tMem E m ++ mems E l
def fmtC (E : List EnT) (S : List ScT) (sc d : Int) (I : List ValT) (M : List (List ValT)) : List UInt8 × Int :=
  if (valC E S sc d I M).2.2 ≠ 0 then ([], (valC E S sc d I M).2.2) else (tDate ++ (fmtD d ++ [10]) ++ lineS tIn E I ++ mems E M, 0)
theorem fmtD_len (n : Int) : (fmtD n).length ≤ 100 := by
  unfold fmtD
  split
  · have := padS_len (w := 4) (n := toY n) (by decide)
    have := padS_len (w := 2) (n := toM n) (by decide)
    have := padS_len (w := 2) (n := toD n) (by decide)
    simp; omega
  · simp
theorem mem_len {E : List EnT} (hE : smallE E) (e : Int) : ∀ m ∈ mem E e, m.length ≤ 80 := by
  intro m hm
  unfold mem at hm
  cases hx : E[e.toNat]? with
  | none => rw [hx] at hm; simp at hm
  | some x =>
    rw [hx] at hm
    exact (hE.2 x (List.mem_of_getElem? hx)).2 m (by simpa using hm)
theorem fmtV_len' {k e n : Int} {E : List EnT} (hE : smallE E) : (fmtV k e n E).1.length ≤ 100 := by
  by_cases h6 : k = 6
  · subst h6
    unfold fmtV
    split
    · simp
    split
    · simp
    dsimp only
    rw [if_neg (by decide), if_neg (by decide), if_neg (by decide), if_neg (by decide), if_neg (by decide), List.getD_eq_getElem?_getD]
    cases hx : (mem E e)[n.toNat]? with
    | none => simp
    | some m => have := mem_len hE e m (List.mem_of_getElem? hx); simp; omega
  · exact fmtV_len h6
theorem wds_len {E : List EnT} (hE : smallE E) : ∀ (V : List ValT), (wds E V).length ≤ 101 * V.length
  | [] => by simp [wds]
  | v :: l => by
    have := fmtV_len' (k := v.1) (e := v.2.1) (n := v.2.2) hE
    have := wds_len hE l
    simp [wds]; omega
theorem L65_v {N : Nat} (hN : 300 < N) {E : List EnT} (hE : smallE E) {V : List ValT} (hV : V.length ≤ 1000) : ∀ (n p : Nat) (w : List UInt8), p ≤ V.length → V.length - p < n → w.length ≤ 200 * p + 200 →
    L65_2 N n w (ensPV E) (V.map valPV) (V.length : Int) (p : Int) = some (w ++ wds E (V.drop p) ++ [10])
  | 0, p, _, _, h, _ => by omega
  | n + 1, p, w, hp, hn, hw => by
    rw [L65_2_eq]
    simp only [aIf_if]
    by_cases hlt : p < V.length
    · have hf := fmtV_len' (k := V[p].1) (e := V[p].2.1) (n := V[p].2.2) hE
      have ih := L65_v hN hE hV n (p + 1) (w ++ 32 :: (fmtV V[p].1 V[p].2.1 V[p].2.2 E).1) (by omega) (by omega) (by simp; omega)
      rw [if_pos (by simp; omega), onGetMap hlt, onVal3, aGd33, F95_v hE.few hN, onSome_ok, aGd_if, if_pos (by simp; omega), aGd_if, if_pos (by simp; omega), w64 (by omega) (by omega), List.drop_eq_getElem_cons hlt]
      simp only [Int.natCast_add, Int.natCast_one] at ih
      show L65_2 N n (w ++ 32 :: (fmtV V[p].1 V[p].2.1 V[p].2.2 E).1) _ _ _ _ = _
      rw [ih, wds]
      simp
    · rw [if_neg (by simp; omega), List.drop_eq_nil_of_le (by omega), aGd_if, if_pos (by simp; omega)]
      simp [wds]
theorem F65_v {N : Nat} (hN : 2000 < N) {E : List EnT} (hE : smallE E) {V : List ValT} (hV : V.length ≤ 1000) {w : List UInt8} (hw : w.length ≤ 200) : F65 N (w, V.map valPV, ensPV E) = some (lineS w E V) := by
  rw [F65_eq, List.length_map]
  exact L65_v (by omega) hE hV N 0 w (by omega) (by omega) (by omega)
theorem lineS_len {E : List EnT} (hE : smallE E) {w : List UInt8} {V : List ValT} (hV : V.length ≤ 1000) (hw : w.length ≤ 200) : (lineS w E V).length ≤ 102000 := by
  have := wds_len hE V
  simp [lineS]; omega
theorem L28_v {N : Nat} (hN : 2000 < N) {E : List EnT} (hE : smallE E) {M : List (List ValT)} (hM : M.length ≤ 1000) (hm : ∀ m ∈ M, m.length ≤ 1000) {x5 x6 x8 x9 : List PV} {x7 : Int} : ∀ (n p : Nat) (w : List UInt8), p ≤ M.length → M.length - p < n → w.length ≤ 200000 * p + 200000 →
    L28_6 N n w (M.map memPV) (M.length : Int) (p : Int) (ensPV E) x5 x6 x7 x8 x9 = some (w ++ mems E (M.drop p), 0)
  | 0, p, _, _, h, _ => by omega
  | n + 1, p, w, hp, hn, hw => by
    rw [L28_6_eq]
    simp only [aIf_if]
    by_cases hlt : p < M.length
    · have hml := hm _ (List.getElem_mem hlt)
      have hf := lineS_len hE (w := tMem) hml (by decide)
      have ih := L28_v hN hE hM hm (x5 := x5) (x6 := x6) (x7 := x7) (x8 := x8) (x9 := x9) n (p + 1) (w ++ lineS tMem E M[p]) (by omega) (by omega) (by simp; omega)
      rw [if_pos (by simp; omega), onGetMap hlt, onMem3, F65_v hN hE hml (by decide), onSome_ok, aGd_if]
      change (if decide (_ + (lineS tMem E M[p]).length ≤ 9223372036854775807) = true then L28_6 N n (w ++ lineS tMem E M[p]) _ _ _ _ _ _ _ _ _ else none) = _
      rw [if_pos (by simp; omega), w64 (by omega) (by omega), List.drop_eq_getElem_cons hlt]
      simp only [Int.natCast_add, Int.natCast_one] at ih
      rw [ih, mems]
      simp
    · rw [if_neg (by simp; omega), List.drop_eq_nil_of_le (by omega)]
      simp [mems]
theorem F28_v {N : Nat} (hN : 2000 < N) (hN2 : N ≤ 1000000) {E : List EnT} (hE : smallE E) {T : List PV} {S : List ScT} {sc d : Int} {I : List ValT} {M : List (List ValT)} (hI : I.length ≤ 1000) (hM : M.length ≤ 1000) (hm : ∀ m ∈ M, m.length ≤ 1000) :
    F28 N ((ensPV E, T, S.map scPV), sc, d, I.map valPV, M.map memPV) = some (fmtC E S sc d I M) := by
  rw [F28_eq, fmtC]
  dsimp only
  rw [F24_v (by omega) hN2 hE.few hI hM hm, onSome_ok, aIf_if]
  by_cases h : (valC E S sc d I M).2.2 = 0
  · have hd := fmtD_len d
    have hf := lineS_len hE (w := tIn) hI (by decide)
    rw [if_neg (by simp [h]), F64_d (by omega), onSome_ok, aGd_if, if_pos (by simp; omega), aGd_if, if_pos (by simp; omega)]
    rw [show ([105, 110] : List UInt8) = tIn from rfl, F65_v hN hE hI (by decide), onSome_ok, aGd_if, if_pos (by simp; omega), if_neg (by simp [h])]
    have := L28_v hN hE hM hm (x5 := T) (x6 := S.map scPV) (x7 := d) (x8 := I.map valPV) (x9 := M.map memPV) N 0 (tDate ++ (fmtD d ++ [10]) ++ lineS tIn E I) (by omega) (by omega) (by simp [tDate]; omega)
    rw [List.drop_zero] at this
    rw [← this, List.length_map]
    simp [tDate]
  · rw [if_pos (by simpa using h), if_pos h]
end Go.Proofs.YtflpiekacionaaaDoor
