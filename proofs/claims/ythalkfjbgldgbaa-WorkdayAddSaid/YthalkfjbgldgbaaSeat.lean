/- Facts of this seat's dump, for its rows. -/
import Derived.Test.YthalkfjbgldgbaaRows
import Derived.Test.YthalkfjbgldgbaaRow
set_option linter.unusedSimpArgs false
set_option linter.unusedVariables false
namespace Go.Proofs.Ythalkfjbgldgbaa
open Go.ChangeShapes Go.WideShapes Go.ChangeAt Go.RowKit

theorem Try.own : ownKnob Try.prog.godebug = none := by kernel_rfl
theorem Try.laidOut : laidOutB Try.prog = true := by kernel_rfl
theorem two_args {α : Type} {l : List α} (h : 2 = l.length) : ∃ a b, l = [a, b] := by
  match l, h with | [a, b], _ => exact ⟨a, b, rfl⟩
theorem three_args {α : Type} {l : List α} (h : 3 = l.length) : ∃ a b c, l = [a, b, c] := by
  match l, h with | [a, b, c], _ => exact ⟨a, b, c, rfl⟩
theorem four_args {α : Type} {l : List α} (h : 4 = l.length) : ∃ a b c d, l = [a, b, c, d] := by
  match l, h with | [a, b, c, d], _ => exact ⟨a, b, c, d, rfl⟩
theorem five_args {α : Type} {l : List α} (h : 5 = l.length) : ∃ a b c d e, l = [a, b, c, d, e] := by
  match l, h with | [a, b, c, d, e], _ => exact ⟨a, b, c, d, e, rfl⟩
theorem Try.open_cal {H : Type} {enc : TypeId × Value → H} {W : World} {cs : List Value} (h : Reads enc Try.prog W 24 cs) :
    ∃ we v hs, cs = [.int .i64 we, v] ∧ Ints W v hs := by
  obtain ⟨hl, hf⟩ := h.struct Try.underlying24
  rw [show Try.prog.cellsOf 24 = 2 by kernel_rfl] at hl
  obtain ⟨c0, c1, rfl⟩ := two_args hl.symm
  obtain ⟨we, h0, -⟩ := (hf 0 _ rfl).int (k := .i64) (by kernel_rfl)
  obtain ⟨v, hs, h1, hi, -⟩ := (hf 1 _ rfl).ints (e := 3) (by kernel_rfl) (by kernel_rfl) (by kernel_rfl)
  rw [show Try.prog.cellsOf _ = 1 by kernel_rfl] at h0 h1
  simp at h0 h1
  subst h0 h1
  exact ⟨we, _, hs, rfl, hi⟩

theorem Try.open_rng {H : Type} {enc : TypeId × Value → H} {W : World} {cs : List Value} (h : Reads enc Try.prog W 34 cs) :
    ∃ a b, cs = [.int .i64 a, .int .i64 b] ∧ (Lit.int .i64 a).wf = true ∧ (Lit.int .i64 b).wf = true := by
  obtain ⟨hl, hf⟩ := h.struct Try.underlying34
  rw [show Try.prog.cellsOf 34 = 2 by kernel_rfl] at hl
  obtain ⟨c0, c1, rfl⟩ := two_args hl.symm
  obtain ⟨a, h0, w0⟩ := (hf 0 _ rfl).int (k := .i64) (by kernel_rfl)
  obtain ⟨b, h1, w1⟩ := (hf 1 _ rfl).int (k := .i64) (by kernel_rfl)
  rw [show Try.prog.cellsOf _ = 1 by kernel_rfl] at h0 h1
  simp at h0 h1
  subst h0 h1
  exact ⟨a, b, rfl, w0, w1⟩

end Go.Proofs.Ythalkfjbgldgbaa
