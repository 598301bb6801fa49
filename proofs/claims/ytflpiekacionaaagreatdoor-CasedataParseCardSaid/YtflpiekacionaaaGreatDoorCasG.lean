/- Format of cases, plainly: the program's and the reference's. -/
import Derived.Test.YtflpiekacionaaaGreatDoorCasC
set_option linter.unusedSimpArgs false
set_option linter.unusedVariables false
namespace Go.Proofs.YtflpiekacionaaaGreatDoor
open Go.RowKit

def tIn : List UInt8 := [105, 110]
def tMem : List UInt8 := [109, 101, 109, 98, 101, 114]
def tDate : List UInt8 := [100, 97, 116, 101, 32]
/-- The words of values, each behind a blank. -/
def wds (E : List EnT) : List ValT → List UInt8
  | [] => []
  | v :: l => 32 :: (fmtV v.1 v.2.1 v.2.2 E).1 ++ wds E l
def lineS (w : List UInt8) (E : List EnT) (V : List ValT) : List UInt8 := w ++ wds E V ++ [10]
def mems (E : List EnT) : List (List ValT) → List UInt8
  | [] => []
  | m :: l => lineS tMem E m ++ mems E l
def fmtC (E : List EnT) (S : List ScT) (sc d : Int) (I : List ValT) (M : List (List ValT)) : List UInt8 × Int :=
  if (valC E S sc d I M).2.2 ≠ 0 then ([], (valC E S sc d I M).2.2) else (tDate ++ (fmtD d ++ [10]) ++ lineS tIn E I ++ mems E M, 0)
theorem fmtD_len (n : Int) : (fmtD n).length ≤ 100 := by
  unfold fmtD
  split
  · have := padS_len (w := 4) (n := toY n) (by decide)
    have := padS_len (w := 2) (n := toM n) (by decide)
    have := padS_len (w := 2) (n := toD n) (by decide)
    simp; omega
  · simp
theorem mem_len {E : List EnT} (hE : smallE E) (e : Int) : ∀ m ∈ mem E e, m.length ≤ 80 := by
  intro m hm
  unfold mem at hm
  cases hx : E[e.toNat]? with
  | none => rw [hx] at hm; simp at hm
  | some x =>
    rw [hx] at hm
    exact (hE.2 x (List.mem_of_getElem? hx)).2 m (by simpa using hm)
theorem fmtV_len' {k e n : Int} {E : List EnT} (hE : smallE E) : (fmtV k e n E).1.length ≤ 100 := by
  by_cases h6 : k = 6
  · subst h6
    unfold fmtV
    split
    · simp
    split
    · simp
    dsimp only
    rw [if_neg (by decide), if_neg (by decide), if_neg (by decide), if_neg (by decide), if_neg (by decide), List.getD_eq_getElem?_getD]
    cases hx : (mem E e)[n.toNat]? with
    | none => simp
    | some m => have := mem_len hE e m (List.mem_of_getElem? hx); simp; omega
  · exact fmtV_len h6
theorem wds_len {E : List EnT} (hE : smallE E) : ∀ (V : List ValT), (wds E V).length ≤ 101 * V.length
  | [] => by simp [wds]
  | v :: l => by
    have := fmtV_len' (k := v.1) (e := v.2.1) (n := v.2.2) hE
    have := wds_len hE l
    simp [wds]; omega
theorem L20_v {N : Nat} (hN : 300 < N) {E : List EnT} (hE : smallE E) {V : List ValT} (hV : V.length ≤ 1000) : ∀ (n p : Nat) (w : List UInt8), p ≤ V.length → V.length - p < n → w.length ≤ 200 * p + 200 →
    L20_2 N n w (ensPV E) (V.map valPV) (V.length : Int) (p : Int) = some (w ++ wds E (V.drop p) ++ [10])
  | 0, p, _, _, h, _ => by omega
  | n + 1, p, w, hp, hn, hw => by
    rw [L20_2_eq]
    simp only [aIf_if]
    by_cases hlt : p < V.length
    · have hf := fmtV_len' (k := V[p].1) (e := V[p].2.1) (n := V[p].2.2) hE
      have ih := L20_v hN hE hV n (p + 1) (w ++ 32 :: (fmtV V[p].1 V[p].2.1 V[p].2.2 E).1) (by omega) (by omega) (by simp; omega)
      rw [if_pos (by simp; omega), onGetMap hlt, onVal3, aGd33, F43_v hE.few hN, onSome_ok, aGd_if, if_pos (by simp; omega), aGd_if, if_pos (by simp; omega), w64 (by omega) (by omega), List.drop_eq_getElem_cons hlt]
      simp only [Int.natCast_add, Int.natCast_one] at ih
      show L20_2 N n (w ++ 32 :: (fmtV V[p].1 V[p].2.1 V[p].2.2 E).1) _ _ _ _ = _
      rw [ih, wds]
      simp
    · rw [if_neg (by simp; omega), List.drop_eq_nil_of_le (by omega), aGd_if, if_pos (by simp; omega)]
      simp [wds]
theorem F20_v {N : Nat} (hN : 2000 < N) {E : List EnT} (hE : smallE E) {V : List ValT} (hV : V.length ≤ 1000) {w : List UInt8} (hw : w.length ≤ 200) : F20 N (w, V.map valPV, ensPV E) = some (lineS w E V) := by
  rw [F20_eq, List.length_map]
  exact L20_v (by omega) hE hV N 0 w (by omega) (by omega) (by omega)
theorem L23_v {N : Nat} (hN : 300 < N) {E : List EnT} (hE : smallE E) {T S : List PV} {V : List ValT} (hV : V.length ≤ 1000) : ∀ (n p : Nat) (w : List UInt8), p ≤ V.length → V.length - p < n → w.length ≤ 200 * p + 200 →
    L23_3 N n (V.map valPV) w (p : Int) (ensPV E) T S = some (w ++ wds E (V.drop p) ++ [10])
  | 0, p, _, _, h, _ => by omega
  | n + 1, p, w, hp, hn, hw => by
    rw [L23_3_eq]
    simp only [aIf_if, List.length_map, Int.ofNat_eq_natCast]
    by_cases hlt : p < V.length
    · have hf := fmtV_len' (k := V[p].1) (e := V[p].2.1) (n := V[p].2.2) hE
      have ih := L23_v hN hE (T := T) (S := S) hV n (p + 1) (w ++ [32] ++ (fmtV V[p].1 V[p].2.1 V[p].2.2 E).1) (by omega) (by omega) (by simp; omega)
      rw [if_pos (by simp; omega), onGetMap hlt, onVal3, F48_v hE.few hN, onSome_ok, aGd_if, if_pos (by simp; omega), aGd_if, if_pos (by simp; omega), w64 (by omega) (by omega), List.drop_eq_getElem_cons hlt]
      simp only [Int.natCast_add, Int.natCast_one] at ih
      rw [ih, wds]
      simp
    · rw [if_neg (by simp; omega), List.drop_eq_nil_of_le (by omega), aGd_if, if_pos (by simp; omega)]
      simp [wds]
theorem F23_v {N : Nat} (hN : 2000 < N) {E : List EnT} (hE : smallE E) {T S : List PV} {V : List ValT} (hV : V.length ≤ 1000) {w : List UInt8} (hw : w.length ≤ 200) : F23 N ((ensPV E, T, S), w, V.map valPV) = some (lineS w E V) := by
  rw [F23_eq]
  exact L23_v (by omega) hE hV N 0 w (by omega) (by omega) (by omega)
theorem lineS_len {E : List EnT} (hE : smallE E) {w : List UInt8} {V : List ValT} (hV : V.length ≤ 1000) (hw : w.length ≤ 200) : (lineS w E V).length ≤ 102000 := by
  have := wds_len hE V
  simp [lineS]; omega
theorem L9_v {N : Nat} (hN : 2000 < N) {E : List EnT} (hE : smallE E) {M : List (List ValT)} (hM : M.length ≤ 1000) (hm : ∀ m ∈ M, m.length ≤ 1000) {x5 x6 x8 x9 : List PV} {x7 : Int} : ∀ (n p : Nat) (w : List UInt8), p ≤ M.length → M.length - p < n → w.length ≤ 200000 * p + 200000 →
    L9_6 N n w (M.map memPV) (M.length : Int) (p : Int) (ensPV E) x5 x6 x7 x8 x9 = some (w ++ mems E (M.drop p), 0)
  | 0, p, _, _, h, _ => by omega
  | n + 1, p, w, hp, hn, hw => by
    rw [L9_6_eq]
    simp only [aIf_if]
    by_cases hlt : p < M.length
    · have hml := hm _ (List.getElem_mem hlt)
      have hf := lineS_len hE (w := tMem) hml (by decide)
      have ih := L9_v hN hE hM hm (x5 := x5) (x6 := x6) (x7 := x7) (x8 := x8) (x9 := x9) n (p + 1) (w ++ lineS tMem E M[p]) (by omega) (by omega) (by simp; omega)
      rw [if_pos (by simp; omega), onGetMap hlt, onMem3, F20_v hN hE hml (by decide), onSome_ok, aGd_if]
      change (if decide (_ + (lineS tMem E M[p]).length ≤ 9223372036854775807) = true then L9_6 N n (w ++ lineS tMem E M[p]) _ _ _ _ _ _ _ _ _ else none) = _
      rw [if_pos (by simp; omega), w64 (by omega) (by omega), List.drop_eq_getElem_cons hlt]
      simp only [Int.natCast_add, Int.natCast_one] at ih
      rw [ih, mems]
      simp
    · rw [if_neg (by simp; omega), List.drop_eq_nil_of_le (by omega)]
      simp [mems]
theorem F9_v {N : Nat} (hN : 2000 < N) (hN2 : N ≤ 1000000) {E : List EnT} (hE : smallE E) {T : List PV} {S : List ScT} {sc d : Int} {I : List ValT} {M : List (List ValT)} (hI : I.length ≤ 1000) (hM : M.length ≤ 1000) (hm : ∀ m ∈ M, m.length ≤ 1000) :
    F9 N ((ensPV E, T, S.map scPV), sc, d, I.map valPV, M.map memPV) = some (fmtC E S sc d I M) := by
  rw [F9_eq, fmtC]
  dsimp only
  rw [F15_v (by omega) hN2 hE.few hI hM hm, onSome_ok, aIf_if]
  by_cases h : (valC E S sc d I M).2.2 = 0
  · have hd := fmtD_len d
    have hf := lineS_len hE (w := tIn) hI (by decide)
    rw [if_neg (by simp [h]), F19_d (by omega), onSome_ok, aGd_if, if_pos (by simp; omega), aGd_if, if_pos (by simp; omega)]
    rw [show ([105, 110] : List UInt8) = tIn from rfl, F20_v hN hE hI (by decide), onSome_ok, aGd_if, if_pos (by simp; omega), if_neg (by simp [h])]
    have := L9_v hN hE hM hm (x5 := T) (x6 := S.map scPV) (x7 := d) (x8 := I.map valPV) (x9 := M.map memPV) N 0 (tDate ++ (fmtD d ++ [10]) ++ lineS tIn E I) (by omega) (by omega) (by simp [tDate]; omega)
    rw [List.drop_zero] at this
    rw [← this, List.length_map]
    simp [tDate]
  · rw [if_pos (by simpa using h), if_pos h]
theorem L10_v {N : Nat} (hN : 2000 < N) {E : List EnT} (hE : smallE E) {M : List (List ValT)} (hM : M.length ≤ 1000) (hm : ∀ m ∈ M, m.length ≤ 1000) {x3 x4 x6 : List PV} {x5 : Int} : ∀ (n p : Nat) (w : List UInt8), p ≤ M.length → M.length - p < n → w.length ≤ 200000 * p + 200000 →
    L10_6 N n w (p : Int) (ensPV E) x3 x4 x5 x6 (M.map memPV) = some (w ++ mems E (M.drop p), 0)
  | 0, p, _, _, h, _ => by omega
  | n + 1, p, w, hp, hn, hw => by
    rw [L10_6_eq]
    simp only [aIf_if, List.length_map, Int.ofNat_eq_natCast]
    by_cases hlt : p < M.length
    · have hml := hm _ (List.getElem_mem hlt)
      have hf := lineS_len hE (w := tMem) hml (by decide)
      have ih := L10_v hN hE hM hm (x3 := x3) (x4 := x4) (x5 := x5) (x6 := x6) n (p + 1) (w ++ lineS tMem E M[p]) (by omega) (by omega) (by simp; omega)
      rw [if_pos (by simp; omega), onGetMap hlt, onMem3, F23_v hN hE hml (by decide), onSome_ok, aGd_if]
      change (if decide (_ + (lineS tMem E M[p]).length ≤ 9223372036854775807) = true then L10_6 N n (w ++ lineS tMem E M[p]) _ _ _ _ _ _ _ else none) = _
      rw [if_pos (by simp; omega), w64 (by omega) (by omega), List.drop_eq_getElem_cons hlt]
      simp only [Int.natCast_add, Int.natCast_one] at ih
      rw [ih, mems]
      simp
    · rw [if_neg (by simp; omega), List.drop_eq_nil_of_le (by omega)]
      simp [mems]
theorem F10_v {N : Nat} (hN : 2000 < N) (hN2 : N ≤ 1000000) {E : List EnT} (hE : smallE E) {T : List PV} {S : List ScT} {sc d : Int} {I : List ValT} {M : List (List ValT)} (hI : I.length ≤ 1000) (hM : M.length ≤ 1000) (hm : ∀ m ∈ M, m.length ≤ 1000) :
    F10 N ((ensPV E, T, S.map scPV), sc, d, I.map valPV, M.map memPV) = some (fmtC E S sc d I M) := by
  rw [F10_eq, fmtC]
  dsimp only
  rw [F21_v (by omega) hN2 hE.few hI hM hm, onSome_ok, aIf_if]
  by_cases h : (valC E S sc d I M).2.2 = 0
  · have hd := fmtD_len d
    have hf := lineS_len hE (w := tIn) hI (by decide)
    rw [if_neg (by simp [h]), F22_d (by omega), onSome_ok, aGd_if, if_pos (by simp; omega), aGd_if, if_pos (by simp; omega)]
    rw [show ([105, 110] : List UInt8) = tIn from rfl, F23_v hN hE hI (by decide), onSome_ok, aGd_if, if_pos (by simp; omega), if_neg (by simp [h])]
    have := L10_v hN hE hM hm (x3 := T) (x4 := S.map scPV) (x5 := d) (x6 := I.map valPV) N 0 (tDate ++ (fmtD d ++ [10]) ++ lineS tIn E I) (by omega) (by omega) (by simp [tDate]; omega)
    rw [List.drop_zero] at this
    rw [← this]
    simp [tDate]
  · rw [if_pos (by simpa using h), if_pos h]
theorem F3_true (l : LawT) (sc : Int) (c : CasT) : F3 4000 ((ensPV l.1, l.2.1.map tabPV, l.2.2.map scPV), sc, c.1, c.2.1.map valPV, c.2.2.map memPV) = some true := by
  rw [F3_eq]
  dsimp only
  obtain ⟨b, hb, hl⟩ := F6_v (N := 4000) (by decide) l
  obtain ⟨b', hb', hc⟩ := F7_v (N := 4000) (by decide) c
  rw [hb, onSome_ok, aIf_if]
  cases b with
  | false => rfl
  | true =>
    rw [if_neg (by simp), hb', onSome_ok, aIf_if]
    cases b' with
    | false => rfl
    | true =>
      obtain ⟨hE, -, -⟩ := hl rfl
      obtain ⟨h1, h2, h3⟩ := hc rfl
      have h3' : ∀ m ∈ c.2.2, m.length ≤ 1000 := fun m hm => by have := h3 m hm; omega
      rw [if_neg (by simp), F9_v (by decide) (by decide) hE (by omega) (by omega) h3', onSome_ok, F10_v (by decide) (by decide) hE (by omega) (by omega) h3', onSome_ok]
      simp [aIf_if]
end Go.Proofs.YtflpiekacionaaaGreatDoor
