/- What Parse of cases hands back is small. -/
import Derived.Test.YtflpiekacionaaaGreatDoorCasH
import Derived.Test.YtflpiekacionaaaGreatDoorCasD
set_option linter.unusedSimpArgs false
set_option linter.unusedVariables false
namespace Go.Proofs.YtflpiekacionaaaGreatDoor
open Go.RowKit

def smallR (c : CasT) : Prop := c.2.1.length ≤ 14 ∧ c.2.2.length ≤ 8 ∧ ∀ m ∈ c.2.2, m.length ≤ 14
theorem small0 : smallR cas0 := ⟨by simp [cas0], by simp [cas0], by simp [cas0]⟩
theorem pvs_len {E : List EnT} : ∀ (ws : List (List UInt8)) (fs : List FldT), (pvs E ws fs).1.length ≤ fs.length
  | [], fs => by simp [pvs]
  | w :: ws, [] => by simp [pvs]
  | w :: ws, f :: fs => by
    have := pvs_len (E := E) ws fs
    unfold pvs
    split
    · simp
    split
    · simp
    simp; omega
theorem plR_len {E : List EnT} {s word : List UInt8} {I : List FldT} : (plR E s word I).1.length ≤ I.length := by
  unfold plR
  split
  · simp
  split
  · simp
  split
  · simp
  split
  · simp
  exact pvs_len _ _
theorem pmL_small {E : List EnT} {lm d : Int} {J : List FldT} {I : List ValT} (hlm : lm ≤ 8) (hJ : J.length ≤ 14) (hI : I.length ≤ 14) : ∀ (ls : List (List UInt8)) (k : Nat) (out : List (List ValT)), out.length = k → k ≤ 8 → (∀ m ∈ out, m.length ≤ 14) → smallR (pmL E lm J d I ls k out).1
  | [], k, out, h1, h2, h3 => ⟨hI, by show out.length ≤ 8; omega, h3⟩
  | x :: xs, k, out, h1, h2, h3 => by
    unfold pmL
    split
    · exact small0
    split
    · exact small0
    refine pmL_small hlm hJ hI xs (k + 1) _ (by simp [h1]) (by omega) (fun m hm => ?_)
    rcases List.mem_append.1 hm with hm | hm
    · exact h3 m hm
    · obtain rfl : m = _ := by simpa using hm
      have := plR_len (E := E) (s := x) (word := tMem) (I := J)
      omega
theorem lim_le (S : List ScT) (s : ScT) : lim S s ≤ 8 := by unfold lim; split <;> omega
theorem inpM_len {S : List ScT} (hS : ∀ s ∈ S, s.2.2.1.length ≤ 14) (s : ScT) : (inpM S s).length ≤ 14 := by
  unfold inpM msc
  split
  · simp
  · cases h : S[s.2.1.toNat]? with
    | none => simp
    | some t => exact hS t (List.mem_of_getElem? h)
theorem parC_small {E : List EnT} {S : List ScT} (hS : ∀ s ∈ S, s.2.2.1.length ≤ 14) {sc : Int} {ls : List (List UInt8)} {e : Int} : smallR (parC E S sc ls e).1 := by
  unfold parC
  split
  · exact small0
  split
  · exact small0
  cases h : S[sc.toNat]? with
  | none => exact small0
  | some s0 =>
    have hs := hS s0 (List.mem_of_getElem? h)
    dsimp only
    cases ls with
    | nil => exact small0
    | cons l0 r =>
      rw [parL]
      split
      · exact small0
      split
      · exact small0
      cases r with
      | nil => exact small0
      | cons l1 ms =>
        rw [parR]
        split
        · exact small0
        have hp := plR_len (E := E) (s := l1) (word := tIn) (I := s0.2.2.1)
        exact pmL_small (lim_le _ _) (inpM_len hS _) (Nat.le_trans hp hs) ms 0 [] rfl (by omega) (by simp)
theorem F4_true (l : LawT) (sc : Int) (s : List UInt8) : F4 4000 ((ensPV l.1, l.2.1.map tabPV, l.2.2.map scPV), sc, s) = some true := by
  rw [F4_eq]
  dsimp only
  obtain ⟨b, hb, hl⟩ := F6_v (N := 4000) (by decide) l
  rw [hb, onSome_ok, aIf_if]
  cases b with
  | false => rfl
  | true =>
    obtain ⟨hE, h5, hS⟩ := hl rfl
    rw [if_neg (by simp), aIf_if]
    by_cases hs : (2000 : Int) < s.length
    · rw [if_pos (by simpa using hs)]
    · have hs' : s.length ≤ 2000 := by omega
      obtain ⟨ls, e, g1, g2, g3, g4⟩ := lines_v (N := 4000) (s := s) (by omega) (by omega)
      have g1' : F30 4000 s = some (ls.map .str, e) := (lines_ref (by omega) (by omega)).trans g1
      have hr := parC_small (E := l.1) hS (sc := sc) (ls := ls) (e := e)
      rw [if_neg (by simpa using hs), F11_v (by decide) hE.few (by omega) (by omega) g1 g2 g4, onSome_ok, aGd33, F12_v (by decide) hE.few (by omega) (by omega) g1' g2 g4, onSome_ok, aGd33]
      generalize parC l.1 l.2.2 sc ls e = r at hr
      obtain ⟨r1, r2, r3⟩ := hr
      have hc := F13_v (N := 4000) (by decide) (c := r.1) (b := r.1) (by omega) (by omega) (fun m hm => by have := r3 m hm; omega)
      simp only [outC, casA]
      rw [hc, onSome_ok]
      simp [aIf_if]
end Go.Proofs.YtflpiekacionaaaGreatDoor
