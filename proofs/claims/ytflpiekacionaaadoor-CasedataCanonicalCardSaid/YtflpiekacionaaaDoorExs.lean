/- Go's functions on strings in the pure reading, by the shelf's contracts: Index and Count of one byte, Join. -/
import Derived.Test.YtflpiekacionaaaDoorExm
set_option linter.unusedSimpArgs false
set_option linter.unusedVariables false
namespace Go.Proofs.YtflpiekacionaaaDoor
open Go.RowKit

/-- Goes on with the one byte of a string. -/
def onByte {ρ : Type} (l : List UInt8) (k : UInt8 → Option ρ) : Option ρ := match l with | [c] => k c | _ => none
theorem onByte_some {ρ : Type} {r : ρ} {l : List UInt8} {k : UInt8 → Option ρ} (h : onByte l k = some r) : ∃ c, l = [c] ∧ k c = some r := by
  unfold onByte at h
  split at h
  · exact ⟨_, rfl, h⟩
  · cases h
/-- The strings of a list of values. -/
def onStrs {ρ : Type} : List PV → (List (List UInt8) → Option ρ) → Option ρ
  | [], k => k []
  | x :: xs, k => onStr x fun l => onStrs xs fun ls => k (l :: ls)
theorem onStrs_some {ρ : Type} {r : ρ} : ∀ {l : List PV} {k : List (List UInt8) → Option ρ}, onStrs l k = some r → ∃ ls, l = ls.map .str ∧ k ls = some r
  | [], k, h => ⟨[], rfl, h⟩
  | x :: xs, k, h => by
    simp only [onStrs, onStr_some] at h
    obtain ⟨l, rfl, h⟩ := h
    obtain ⟨ls, rfl, h2⟩ := onStrs_some h
    exact ⟨l :: ls, rfl, h2⟩
theorem onStrs_ok {ρ : Type} {k : List (List UInt8) → Option ρ} : ∀ (ls : List (List UInt8)), onStrs (ls.map .str) k = k ls
  | [] => rfl
  | l :: ls => by simp only [List.map_cons, onStrs, onStr]; exact onStrs_ok ls

/-! ## strings.Index, strings.Count, of one byte -/
def A106 : Cods ((List UInt8) × List UInt8) := (codsCons codStr (codsOne codStr))
def R106 : Cod Int := codInt .i64
def F106 (N : Nat) (a : (List UInt8) × List UInt8) : Option Int := onByte a.2 fun c => some (Lib.indexByte a.1 c)
def C106 (N : Nat) : Callee := mkCallee A106 R106 (F106 N)
theorem S106 (N : Nat) : Cok 106 (C106 N) := by
  refine cok_lib Tryd.func106 (by kernel_rfl) (by kernel_rfl) fun a y hy S w vs hS hG hl hv => ?_
  obtain ⟨s, c⟩ := a
  obtain ⟨c, rfl, hy⟩ := onByte_some hy
  cases hy
  match vs, hl with
  | [u, v], _ =>
    have h4 := hv 0 _ u rfl rfl
    have h5 := hv 1 _ v rfl rfl
    cases h4
    cases h5
    refine (Tryd.strings_Index_one ⟨s.toArray⟩ c w).mono fun e w' hh => ?_
    obtain ⟨rfl, rfl⟩ := hh
    exact ⟨_, S, rfl, Below.refl _ _, fun _ h => h, fun _ h => .inl h, hS, .int _ _⟩
def A105 : Cods ((List UInt8) × List UInt8) := (codsCons codStr (codsOne codStr))
def R105 : Cod Int := codInt .i64
def F105 (N : Nat) (a : (List UInt8) × List UInt8) : Option Int := onByte a.2 fun c => some (Int.ofNat (Lib.countByte a.1 c))
def C105 (N : Nat) : Callee := mkCallee A105 R105 (F105 N)
theorem S105 (N : Nat) : Cok 105 (C105 N) := by
  refine cok_lib Tryd.func105 (by kernel_rfl) (by kernel_rfl) fun a y hy S w vs hS hG hl hv => ?_
  obtain ⟨s, c⟩ := a
  obtain ⟨c, rfl, hy⟩ := onByte_some hy
  cases hy
  match vs, hl with
  | [u, v], _ =>
    have h4 := hv 0 _ u rfl rfl
    have h5 := hv 1 _ v rfl rfl
    cases h4
    cases h5
    refine (Tryd.strings_Count_one ⟨s.toArray⟩ c w).mono fun e w' hh => ?_
    obtain ⟨rfl, rfl⟩ := hh
    exact ⟨_, S, rfl, Below.refl _ _, fun _ h => h, fun _ h => .inl h, hS, .int _ _⟩

/-! ## strings.Join -/
end Go.Proofs.YtflpiekacionaaaDoor
