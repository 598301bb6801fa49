/- Parse of cases, plainly: the program's and the reference's. -/
import Derived.Test.YtflpiekacionaaaDoorCasP1
set_option linter.unusedSimpArgs false
set_option linter.unusedVariables false
namespace Go.Proofs.YtflpiekacionaaaDoor
open Go.RowKit

def cas0 : CasT := (0, [], [])
/-- The members' lines. -/
def pmL (E : List EnT) (lm : Int) (J : List FldT) (d : Int) (I : List ValT) : List (List UInt8) → Nat → List (List ValT) → CasT × Int × Int
  | x :: xs, k, out => if lm ≤ (k : Int) then (cas0, ((k + 2 : Nat) : Int), 4) else if (plR E x tMem J).2 ≠ 0 then (cas0, ((k + 2 : Nat) : Int), (plR E x tMem J).2) else pmL E lm J d I xs (k + 1) (out ++ [(plR E x tMem J).1])
  | [], _, out => ((d, I, out), 0, 0)
def parR (E : List EnT) (S : List ScT) (s0 : ScT) (d : Int) : List (List UInt8) → CasT × Int × Int
  | [] => (cas0, 1, 5)
  | l1 :: ms => if (plR E l1 tIn s0.2.2.1).2 ≠ 0 then (cas0, 1, (plR E l1 tIn s0.2.2.1).2) else pmL E (lim S s0) (inpM S s0) d (plR E l1 tIn s0.2.2.1).1 ms 0 []
def parL (E : List EnT) (S : List ScT) (s0 : ScT) : List (List UInt8) → CasT × Int × Int
  | [] => (cas0, 0, 5)
  | l0 :: r => if l0.take 5 ≠ tDate then (cas0, 0, 2) else if (parD (l0.drop 5)).2 ≠ 0 then (cas0, 0, (parD (l0.drop 5)).2) else parR E S s0 (parD (l0.drop 5)).1 r
/-- What Parse hands back: of the lines ls and the code e of their reading. -/
def parC (E : List EnT) (S : List ScT) (sc : Int) (ls : List (List UInt8)) (e : Int) : CasT × Int × Int :=
  if sc < 0 ∨ (S.length : Int) ≤ sc then (cas0, 0, 6) else if e ≠ 0 then (cas0, 0, e) else match S[sc.toNat]? with | none => (cas0, 0, 6) | some s0 => parL E S s0 ls
def outC (r : CasT × Int × Int) : (Int × List PV × List PV) × Int × Int := (casA r.1, r.2)
theorem memPV_eq (V : List ValT) : PV.sl 3 (V.map valPV) = memPV V := rfl
theorem L26_v {N : Nat} (hN : 300 < N) {E : List EnT} (hE : few E) {T : List PV} {S : List ScT} {q : Nat} (hq : q < S.length) {x7 d : Int} {I : List ValT} {x10 : List UInt8} {x11 : Int} {J : List FldT} {x13 x14 : List PV}
    {ls : List (List UInt8)} (hls : ls.length ≤ 60000) (hl : ∀ l ∈ ls, l.length ≤ 60000 ∧ l.length + 2 < N) : ∀ (n p : Nat) (out : List (List ValT)), p ≤ ls.length → ls.length - p < n → out.length ≤ p →
    L26_22 N n (q : Int) (ls.map .str) (ls.length : Int) (p : Int) (ensPV E) T (S.map scPV) x7 d (I.map valPV) x10 x11 (J.map fldPV) x13 x14 (out.map memPV) = some (outC (pmL E (lim S S[q]) J d I (ls.drop p) p out))
  | 0, p, _, _, h, _ => by omega
  | n + 1, p, out, hp, hn, ho => by
    rw [L26_22_eq]
    simp only [aIf_if]
    by_cases hlt : p < ls.length
    · have hl1 := hl _ (List.getElem_mem hlt)
      have ih := L26_v hN hE (T := T) hq (x7 := x7) (d := d) (I := I) (x10 := x10) (x11 := x11) (J := J) (x13 := x13) (x14 := x14) hls hl n (p + 1) (out ++ [(plR E ls[p] tMem J).1]) (by omega) (by omega) (by first | omega | (simp; omega))
      simp only [Int.natCast_add, Int.natCast_one, List.map_append, List.map_cons, List.map_nil] at ih
      rw [if_pos (by first | omega | (simp; omega)), onGetMap hlt, onStr_ok, F55_v hq, onSome_ok, List.drop_eq_getElem_cons hlt, pmL]
      rw [w64 (x := (p : Int) + 2) (by omega) (by omega), w64 (x := (p : Int) + 1) (by omega) (by omega)]
      by_cases h1 : lim S S[q] ≤ (p : Int)
      · rw [if_pos (by simpa using h1), if_pos h1, aGd33]; rfl
      · rw [if_neg (by simpa using h1), if_neg h1, show ([109, 101, 109, 98, 101, 114] : List UInt8) = tMem from rfl, F61_v hN hE hl1.1 hl1.2, onSome_ok]
        by_cases h2 : (plR E ls[p] tMem J).2 = 0
        · rw [if_neg (by simp [h2]), if_neg (by simp [h2]), aGd_if, if_pos (by first | omega | (simp; omega)), aGd32]
          exact ih
        · rw [if_pos (by simpa using h2), if_pos h2, aGd33]; rfl
    · rw [if_neg (by first | omega | (simp; omega)), List.drop_eq_nil_of_le (by omega), aGd33]; rfl
theorem take5 {u : List UInt8} : (u.take tDate.length = tDate) = (u.take 5 = tDate) := rfl
theorem F26_v {N : Nat} (hN : 300 < N) {E : List EnT} (hE : few E) {T : List PV} {S : List ScT} {sc : Int} {s : List UInt8} (hs : s.length ≤ 60000) (hsN : s.length + 2 < N) {ls : List (List UInt8)} {e : Int}
    (h1 : F48 N s = some (ls.map .str, e)) (h2 : e = 0 → flatS ls = s) (h4 : ls.length ≤ s.length) :
    F26 N ((ensPV E, T, S.map scPV), sc, s) = some (outC (parC E S sc ls e)) := by
  rw [F26_eq]
  simp only [aIf_if, List.length_map, Int.ofNat_eq_natCast, decide_eq_true_eq, parC]
  by_cases c1 : sc < 0
  · rw [if_pos c1, if_pos (show sc < 0 ∨ (S.length : Int) ≤ sc from .inl c1), aGd33]; rfl
  rw [if_neg c1]
  by_cases c2 : (S.length : Int) ≤ sc
  · rw [if_pos c2, if_pos (show sc < 0 ∨ (S.length : Int) ≤ sc from .inr c2), aGd33]; rfl
  rw [if_neg c2, if_neg (show ¬ (sc < 0 ∨ (S.length : Int) ≤ sc) by omega), h1, onSome_ok]
  by_cases c3 : e = 0
  rotate_left
  · rw [if_pos (by simpa using c3), if_pos c3, aGd33]; rfl
  rw [if_neg (by simp [c3]), if_neg (show ¬ e ≠ 0 by simp [c3])]
  have hf := h2 c3
  have hm : ∀ l ∈ ls, l.length ≤ 60000 ∧ l.length + 2 < N := fun l hl => by
    have := flatS_mem hl
    rw [hf] at this
    omega
  obtain ⟨q, rfl⟩ : ∃ q : Nat, sc = q := ⟨sc.toNat, by omega⟩
  have hq : q < S.length := by omega
  rw [Int.toNat_natCast, List.getElem?_eq_getElem hq]
  dsimp only
  cases ls with
  | nil => rw [if_pos (by simp), aGd33]; rfl
  | cons l0 r =>
    rw [if_neg (by first | omega | (simp; omega)), show (0 : Int) = ((0 : Nat) : Int) from rfl, onGetMap (by simp), List.getElem_cons_zero, onStr_ok, show ([100, 97, 116, 101, 32] : List UInt8) = tDate from rfl, cutPrefix_v, onSome_ok, parL]
    by_cases c4 : l0.take 5 = tDate
    rotate_left
    · have c4' : ¬ l0.take tDate.length = tDate := c4
      rw [if_neg c4', if_pos c4]
      dsimp only
      rw [if_pos (by simp), aGd33]; rfl
    have c4' : l0.take tDate.length = tDate := c4
    rw [if_pos c4', if_neg (show ¬ l0.take 5 ≠ tDate by simp [c4])]
    dsimp only
    rw [if_neg (by simp), aGd33, F60_d hN, onSome_ok, aGd13, show tDate.length = 5 from rfl]
    by_cases c5 : (parD (l0.drop 5)).2 = 0
    rotate_left
    · rw [if_pos (by simpa using c5), if_pos c5, aGd33]; rfl
    rw [if_neg (by simp [c5]), if_neg (show ¬ (parD (l0.drop 5)).2 ≠ 0 by simp [c5])]
    cases r with
    | nil => rw [if_pos (by simp), aGd33]; rfl
    | cons l1 ms =>
      have hl1 := hm l1 (by simp)
      rw [if_neg (by first | omega | (simp; omega)), show (1 : Int) = ((1 : Nat) : Int) from rfl, onGetMap (by simp), List.getElem_cons_succ, List.getElem_cons_zero, onStr_ok, onGetMap hq, onScIn, show ([105, 110] : List UInt8) = tIn from rfl, F61_v hN hE hl1.1 hl1.2, onSome_ok, aGd23, parR]
      dsimp only
      by_cases c6 : (plR E l1 tIn S[q].2.2.1).2 = 0
      rotate_left
      · rw [if_pos (by simpa using c6), if_pos c6, aGd33]; rfl
      rw [if_neg (by simp [c6]), if_neg (show ¬ (plR E l1 tIn S[q].2.2.1).2 ≠ 0 by simp [c6]), F56_v hq, onSome_ok, aGd55, aGd_if, if_pos (by first | omega | (simp; omega))]
      have e1 : List.drop 2 (List.take (((l0 :: l1 :: ms).map PV.str).length) ((l0 :: l1 :: ms).map PV.str)) = ms.map .str := by
        rw [List.take_length]; rfl
      rw [e1, List.length_map]
      have hms : ms.length ≤ 60000 := by simp at h4; omega
      have key : ∀ (x10 : List UInt8) (x11 : Int) (x13 x14 : List PV) (K : List FldT), K = inpM S S[q] → L26_22 N N (q : Int) (ms.map .str) (ms.length : Int) 0 (ensPV E) T (S.map scPV) 0 (parD (l0.drop 5)).1 ((plR E l1 tIn S[q].2.2.1).1.map valPV) x10 x11 (K.map fldPV) x13 x14 [] = some (outC (pmL E (lim S S[q]) (inpM S S[q]) (parD (l0.drop 5)).1 (plR E l1 tIn S[q].2.2.1).1 ms 0 [])) := fun x10 x11 x13 x14 K hK => by
        have := L26_v hN hE (T := T) hq (x7 := 0) (d := (parD (l0.drop 5)).1) (I := (plR E l1 tIn S[q].2.2.1).1) (x10 := x10) (x11 := x11) (J := K) (x13 := x13) (x14 := x14) hms (fun l hl => hm l (by simp [hl])) N 0 [] (by omega) (by simp at h4; omega) (by simp)
        rw [hK] at this ⊢
        simpa using this
      cases hms2 : msc S S[q] with
      | none => exact key [] 0 [] [] [] (by simp [inpM, hms2])
      | some t => exact key t.1 t.2.1 _ _ t.2.2.1 (by simp [inpM, hms2])
theorem lim_nn (S : List ScT) (s : ScT) : 0 ≤ lim S s := by unfold lim; split <;> omega
end Go.Proofs.YtflpiekacionaaaDoor
