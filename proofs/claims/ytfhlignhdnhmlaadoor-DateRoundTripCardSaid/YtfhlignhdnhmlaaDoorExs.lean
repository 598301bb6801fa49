/- Go's functions on strings in the pure reading, by the shelf's contracts: Index and Count of one byte, Join. -/
import Derived.Test.YtfhlignhdnhmlaaDoorExm
set_option linter.unusedSimpArgs false
set_option linter.unusedVariables false
namespace Go.Proofs.YtfhlignhdnhmlaaDoor
open Go.RowKit

/-- Goes on with the one byte of a string. -/
def onByte {ρ : Type} (l : List UInt8) (k : UInt8 → Option ρ) : Option ρ := match l with | [c] => k c | _ => none
theorem onByte_some {ρ : Type} {r : ρ} {l : List UInt8} {k : UInt8 → Option ρ} (h : onByte l k = some r) : ∃ c, l = [c] ∧ k c = some r := by
  unfold onByte at h
  split at h
  · exact ⟨_, rfl, h⟩
  · cases h
/-- The strings of a list of values. -/
def onStrs {ρ : Type} : List PV → (List (List UInt8) → Option ρ) → Option ρ
  | [], k => k []
  | x :: xs, k => onStr x fun l => onStrs xs fun ls => k (l :: ls)
theorem onStrs_some {ρ : Type} {r : ρ} : ∀ {l : List PV} {k : List (List UInt8) → Option ρ}, onStrs l k = some r → ∃ ls, l = ls.map .str ∧ k ls = some r
  | [], k, h => ⟨[], rfl, h⟩
  | x :: xs, k, h => by
    simp only [onStrs, onStr_some] at h
    obtain ⟨l, rfl, h⟩ := h
    obtain ⟨ls, rfl, h2⟩ := onStrs_some h
    exact ⟨l :: ls, rfl, h2⟩
theorem onStrs_ok {ρ : Type} {k : List (List UInt8) → Option ρ} : ∀ (ls : List (List UInt8)), onStrs (ls.map .str) k = k ls
  | [] => rfl
  | l :: ls => by simp only [List.map_cons, onStrs, onStr]; exact onStrs_ok ls

/-! ## strings.Index, strings.Count, of one byte -/
/-! ## strings.Join -/
end Go.Proofs.YtfhlignhdnhmlaaDoor
