/- Go's functions on strings in the pure reading, by the shelf's contracts: Index and Count of one byte, Join. -/
import Derived.Test.YtaapljpfhgahbaaDoorExm
set_option linter.unusedSimpArgs false
set_option linter.unusedVariables false
namespace Go.Proofs.YtaapljpfhgahbaaDoor
open Go.RowKit

/-- Goes on with the one byte of a string. -/
def onByte {ρ : Type} (l : List UInt8) (k : UInt8 → Option ρ) : Option ρ := match l with | [c] => k c | _ => none
theorem onByte_some {ρ : Type} {r : ρ} {l : List UInt8} {k : UInt8 → Option ρ} (h : onByte l k = some r) : ∃ c, l = [c] ∧ k c = some r := by
  unfold onByte at h
  split at h
  · exact ⟨_, rfl, h⟩
  · cases h
/-- The strings of a list of values. -/
def onStrs {ρ : Type} : List PV → (List (List UInt8) → Option ρ) → Option ρ
  | [], k => k []
  | x :: xs, k => onStr x fun l => onStrs xs fun ls => k (l :: ls)
theorem onStrs_some {ρ : Type} {r : ρ} : ∀ {l : List PV} {k : List (List UInt8) → Option ρ}, onStrs l k = some r → ∃ ls, l = ls.map .str ∧ k ls = some r
  | [], k, h => ⟨[], rfl, h⟩
  | x :: xs, k, h => by
    simp only [onStrs, onStr_some] at h
    obtain ⟨l, rfl, h⟩ := h
    obtain ⟨ls, rfl, h2⟩ := onStrs_some h
    exact ⟨l :: ls, rfl, h2⟩
theorem onStrs_ok {ρ : Type} {k : List (List UInt8) → Option ρ} : ∀ (ls : List (List UInt8)), onStrs (ls.map .str) k = k ls
  | [] => rfl
  | l :: ls => by simp only [List.map_cons, onStrs, onStr]; exact onStrs_ok ls

/-! ## strings.Index, strings.Count, of one byte -/
def A112 : Cods ((List UInt8) × List UInt8) := (codsCons codStr (codsOne codStr))
def R112 : Cod Int := codInt .i64
def F112 (N : Nat) (a : (List UInt8) × List UInt8) : Option Int := onByte a.2 fun c => some (Lib.indexByte a.1 c)
def C112 (N : Nat) : Callee := mkCallee A112 R112 (F112 N)
theorem S112 (N : Nat) : Cok 112 (C112 N) := by
  refine cok_lib Tryd.func112 (by kernel_rfl) (by kernel_rfl) fun a y hy S w vs hS hG hl hv => ?_
  obtain ⟨s, c⟩ := a
  obtain ⟨c, rfl, hy⟩ := onByte_some hy
  cases hy
  match vs, hl with
  | [u, v], _ =>
    have h4 := hv 0 _ u rfl rfl
    have h5 := hv 1 _ v rfl rfl
    cases h4
    cases h5
    refine (Tryd.strings_Index_one ⟨s.toArray⟩ c w).mono fun e w' hh => ?_
    obtain ⟨rfl, rfl⟩ := hh
    exact ⟨_, S, rfl, Below.refl _ _, fun _ h => h, fun _ h => .inl h, hS, .int _ _⟩
def A111 : Cods ((List UInt8) × List UInt8) := (codsCons codStr (codsOne codStr))
def R111 : Cod Int := codInt .i64
def F111 (N : Nat) (a : (List UInt8) × List UInt8) : Option Int := onByte a.2 fun c => some (Int.ofNat (Lib.countByte a.1 c))
def C111 (N : Nat) : Callee := mkCallee A111 R111 (F111 N)
theorem S111 (N : Nat) : Cok 111 (C111 N) := by
  refine cok_lib Tryd.func111 (by kernel_rfl) (by kernel_rfl) fun a y hy S w vs hS hG hl hv => ?_
  obtain ⟨s, c⟩ := a
  obtain ⟨c, rfl, hy⟩ := onByte_some hy
  cases hy
  match vs, hl with
  | [u, v], _ =>
    have h4 := hv 0 _ u rfl rfl
    have h5 := hv 1 _ v rfl rfl
    cases h4
    cases h5
    refine (Tryd.strings_Count_one ⟨s.toArray⟩ c w).mono fun e w' hh => ?_
    obtain ⟨rfl, rfl⟩ := hh
    exact ⟨_, S, rfl, Below.refl _ _, fun _ h => h, fun _ h => .inl h, hS, .int _ _⟩

/-! ## strings.Join -/
def A52 : Cods ((List PV) × List UInt8) := (codsCons (codSl 1) (codsOne codStr))
def R52 : Cod (List UInt8) := codStr
def F52 (N : Nat) (a : (List PV) × List UInt8) : Option (List UInt8) := onStrs a.1 fun ls => aGd (decide (ls.length ≤ 140737488355328)) (aGd (decide ((Lib.join ls a.2).length ≤ 140737488355328)) (some (Lib.join ls a.2)))
def C52 (N : Nat) : Callee := mkCallee A52 R52 (F52 N)
theorem S52 (N : Nat) : Cok 52 (C52 N) := by
  refine cok_lib Tryd.func52 (by kernel_rfl) (by kernel_rfl) fun a y hy S w vs hS hG hl hv => ?_
  obtain ⟨xs, sep⟩ := a
  obtain ⟨ls, hls, hy⟩ := onStrs_some hy
  dsimp only at hls
  subst hls
  simp only [aGd_some, decide_eq_true_eq, Option.some.injEq] at hy
  obtain ⟨h1, h2, rfl⟩ := hy
  match vs, hl with
  | [u, v], _ =>
    have h4 := hv 0 _ u rfl rfl
    have h5 := hv 1 _ v rfl rfl
    cases h5
    obtain ⟨a, cap, rfl, hc, hm, ha, hnil, hst, hel⟩ := VRel.sl_cells h4
    simp only [List.length_map] at hc ha ⊢
    rcases Nat.eq_zero_or_pos ls.length with h0 | h0
    · have : ls = [] := List.eq_nil_of_length_eq_zero h0
      subst this
      refine (Tryd.strings_Join_none a cap ⟨sep.toArray⟩ w).mono fun e w' hh => ?_
      obtain ⟨rfl, rfl⟩ := hh
      exact ⟨_, S, rfl, Below.refl _ _, fun _ h => h, fun _ h => .inl h, hS, .str _⟩
    · have hcell : ∀ (j : Nat) l, ls[j]? = some l → ∃ b o, a = some ⟨b, o, none⟩ ∧ w.cell? ⟨b, o + j, none⟩ = some (.string ⟨l.toArray⟩) := fun j l hj => by
        obtain ⟨b, o, us, e, hr, hc'⟩ := hel j (.str l) (by simp [hj])
        have hul : us.length = 1 := hr.1.symm
        match us, hul with
        | [x], _ =>
          have hx := hr.2.2 0 _ x rfl rfl
          cases hx
          have := hc' 0 _ rfl
          rw [Nat.mul_one] at this
          exact ⟨b, o, e, this⟩
      obtain ⟨b, o, rfl, _⟩ := hcell 0 _ (List.getElem?_eq_getElem h0)
      have hb := (ha h0 _ _ _ rfl).1
      have := Tryd.strings_Join b o cap (ls.map fun l => ⟨l.toArray⟩) ⟨sep.toArray⟩ w (fun j x hj => by
        rw [List.getElem?_map] at hj
        cases hl : ls[j]? with
        | none => rw [hl] at hj; cases hj
        | some l =>
          rw [hl] at hj; cases hj
          obtain ⟨b', o', e, h⟩ := hcell j l hl
          cases e; exact h) (hS b hb) (by simpa using h1) (by simpa using hc) (by simpa [List.map_map, Function.comp_def] using h2)
      simp only [List.length_map, List.map_map, Function.comp_def, List.map_id'] at this
      refine this.mono fun e w' hh => ?_
      obtain ⟨rfl, hbw⟩ := hh
      exact ⟨_, S, rfl, hbw, fun _ h => h, fun _ h => .inl h, fun g hg => Nat.lt_of_lt_of_le (hS g hg) hbw.size, .str _⟩
end Go.Proofs.YtaapljpfhgahbaaDoor
