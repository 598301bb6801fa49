/- What Parse of cases hands back is small. -/
import Derived.Test.YtflpiekacionaaaDoorCasH
import Derived.Test.YtflpiekacionaaaDoorCasD
set_option linter.unusedSimpArgs false
set_option linter.unusedVariables false
namespace Go.Proofs.YtflpiekacionaaaDoor
open Go.RowKit

def smallR (c : CasT) : Prop := c.2.1.length ≤ 14 ∧ c.2.2.length ≤ 8 ∧ ∀ m ∈ c.2.2, m.length ≤ 14
theorem small0 : smallR cas0 := ⟨by simp [cas0], by simp [cas0], by simp [cas0]⟩
theorem pvs_len {E : List EnT} : ∀ (ws : List (List UInt8)) (fs : List FldT), (pvs E ws fs).1.length ≤ fs.length
  | [], fs => by simp [pvs]
  | w :: ws, [] => by simp [pvs]
  | w :: ws, f :: fs => by
    have := pvs_len (E := E) ws fs
    unfold pvs
    split
    · simp
    split
    · simp
    simp; omega
theorem plR_len {E : List EnT} {s word : List UInt8} {I : List FldT} : (plR E s word I).1.length ≤ I.length := by
  unfold plR
  split
  · simp
  split
  · simp
  split
  · simp
  split
  · simp
  exact pvs_len _ _
theorem pmL_small {E : List EnT} {lm d : Int} {J : List FldT} {I : List ValT} (hlm : lm ≤ 8) (hJ : J.length ≤ 14) (hI : I.length ≤ 14) : ∀ (ls : List (List UInt8)) (k : Nat) (out : List (List ValT)), out.length = k → k ≤ 8 → (∀ m ∈ out, m.length ≤ 14) → smallR (pmL E lm J d I ls k out).1
  | [], k, out, h1, h2, h3 => ⟨hI, by show out.length ≤ 8; omega, h3⟩
  | x :: xs, k, out, h1, h2, h3 => by
    unfold pmL
    split
    · exact small0
    split
    · exact small0
    refine pmL_small hlm hJ hI xs (k + 1) _ (by simp [h1]) (by omega) (fun m hm => ?_)
    rcases List.mem_append.1 hm with hm | hm
    · exact h3 m hm
    · obtain rfl : m = _ := by simpa using hm
      have := plR_len (E := E) (s := x) (word := tMem) (I := J)
      omega
theorem lim_le (S : List ScT) (s : ScT) : lim S s ≤ 8 := by unfold lim; split <;> omega
theorem inpM_len {S : List ScT} (hS : ∀ s ∈ S, s.2.2.1.length ≤ 14) (s : ScT) : (inpM S s).length ≤ 14 := by
  unfold inpM msc
  split
  · simp
  · cases h : S[s.2.1.toNat]? with
    | none => simp
    | some t => exact hS t (List.mem_of_getElem? h)
theorem parC_small {E : List EnT} {S : List ScT} (hS : ∀ s ∈ S, s.2.2.1.length ≤ 14) {sc : Int} {ls : List (List UInt8)} {e : Int} : smallR (parC E S sc ls e).1 := by
  unfold parC
  split
  · exact small0
  split
  · exact small0
  cases h : S[sc.toNat]? with
  | none => exact small0
  | some s0 =>
    have hs := hS s0 (List.mem_of_getElem? h)
    dsimp only
    cases ls with
    | nil => exact small0
    | cons l0 r =>
      rw [parL]
      split
      · exact small0
      split
      · exact small0
      cases r with
      | nil => exact small0
      | cons l1 ms =>
        rw [parR]
        split
        · exact small0
        have hp := plR_len (E := E) (s := l1) (word := tIn) (I := s0.2.2.1)
        exact pmL_small (lim_le _ _) (inpM_len hS _) (Nat.le_trans hp hs) ms 0 [] rfl (by omega) (by simp)
end Go.Proofs.YtflpiekacionaaaDoor
