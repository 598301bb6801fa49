/- Facts of this seat's dump, for its rows. -/
import Derived.Test.YthalkfjbgldgbaaRows
import Derived.Test.YthalkfjbgldgbaaRow
set_option linter.unusedSimpArgs false
set_option linter.unusedVariables false
namespace Go.Proofs.Ythalkfjbgldgbaa
open Go.ChangeShapes Go.WideShapes Go.ChangeAt Go.RowKit

theorem Try.own : ownKnob Try.prog.godebug = none := by kernel_rfl
theorem Try.laidOut : laidOutB Try.prog = true := by kernel_rfl
theorem two_args {α : Type} {l : List α} (h : 2 = l.length) : ∃ a b, l = [a, b] := by
  match l, h with | [a, b], _ => exact ⟨a, b, rfl⟩
theorem three_args {α : Type} {l : List α} (h : 3 = l.length) : ∃ a b c, l = [a, b, c] := by
  match l, h with | [a, b, c], _ => exact ⟨a, b, c, rfl⟩
theorem four_args {α : Type} {l : List α} (h : 4 = l.length) : ∃ a b c d, l = [a, b, c, d] := by
  match l, h with | [a, b, c, d], _ => exact ⟨a, b, c, d, rfl⟩
theorem five_args {α : Type} {l : List α} (h : 5 = l.length) : ∃ a b c d e, l = [a, b, c, d, e] := by
  match l, h with | [a, b, c, d, e], _ => exact ⟨a, b, c, d, e, rfl⟩
theorem Try.open_cal {H : Type} {enc : TypeId × Value → H} {W : World} {cs : List Value} (h : Reads enc Try.prog W 24 cs) :
    ∃ we v hs, cs = [.int .i64 we, v] ∧ Ints W v hs := by
  obtain ⟨hl, hf⟩ := h.struct Try.underlying24
  rw [show Try.prog.cellsOf 24 = 2 by kernel_rfl] at hl
  obtain ⟨c0, c1, rfl⟩ := two_args hl.symm
  obtain ⟨we, h0, -⟩ := (hf 0 _ rfl).int (k := .i64) (by kernel_rfl)
  obtain ⟨v, hs, h1, hi, -⟩ := (hf 1 _ rfl).ints (e := 3) (by kernel_rfl) (by kernel_rfl) (by kernel_rfl)
  rw [show Try.prog.cellsOf _ = 1 by kernel_rfl] at h0 h1
  simp at h0 h1
  subst h0 h1
  exact ⟨we, _, hs, rfl, hi⟩

theorem Try.open_rng {H : Type} {enc : TypeId × Value → H} {W : World} {cs : List Value} (h : Reads enc Try.prog W 34 cs) :
    ∃ a b, cs = [.int .i64 a, .int .i64 b] ∧ (Lit.int .i64 a).wf = true ∧ (Lit.int .i64 b).wf = true := by
  obtain ⟨hl, hf⟩ := h.struct Try.underlying34
  rw [show Try.prog.cellsOf 34 = 2 by kernel_rfl] at hl
  obtain ⟨c0, c1, rfl⟩ := two_args hl.symm
  obtain ⟨a, h0, w0⟩ := (hf 0 _ rfl).int (k := .i64) (by kernel_rfl)
  obtain ⟨b, h1, w1⟩ := (hf 1 _ rfl).int (k := .i64) (by kernel_rfl)
  rw [show Try.prog.cellsOf _ = 1 by kernel_rfl] at h0 h1
  simp at h0 h1
  subst h0 h1
  exact ⟨a, b, rfl, w0, w1⟩

theorem list_of5 {α : Type} {l : List α} (h : l.length = 5) : ∃ c0 c1 c2 c3 c4, l = [c0, c1, c2, c3, c4] := by
  match l, h with | [c0, c1, c2, c3, c4], _ => exact ⟨c0, c1, c2, c3, c4, rfl⟩
theorem list_of7 {α : Type} {l : List α} (h : l.length = 7) : ∃ c0 c1 c2 c3 c4 c5 c6, l = [c0, c1, c2, c3, c4, c5, c6] := by
  match l, h with | [c0, c1, c2, c3, c4, c5, c6], _ => exact ⟨c0, c1, c2, c3, c4, c5, c6, rfl⟩
theorem list_of9 {α : Type} {l : List α} (h : l.length = 9) : ∃ c0 c1 c2 c3 c4 c5 c6 c7 c8, l = [c0, c1, c2, c3, c4, c5, c6, c7, c8] := by
  match l, h with | [c0, c1, c2, c3, c4, c5, c6, c7, c8], _ => exact ⟨c0, c1, c2, c3, c4, c5, c6, c7, c8, rfl⟩
theorem Try.open_filing {H : Type} {enc : TypeId × Value → H} {W : World} {cs : List Value} (h : Reads enc Try.prog W 39 cs) :
    ∃ x0 x1 x2 x3 x4 : Int, cs = [.int .i64 x0, .int .i64 x1, .int .i64 x2, .int .i64 x3, .int .i64 x4] := by
  obtain ⟨hl, hf⟩ := h.struct Try.underlying39
  rw [show Try.prog.cellsOf 39 = 5 by kernel_rfl] at hl
  obtain ⟨c0, c1, c2, c3, c4, rfl⟩ := list_of5 hl
  obtain ⟨x0, h0, -⟩ := (hf 0 _ rfl).int (k := .i64) (by kernel_rfl)
  obtain ⟨x1, h1, -⟩ := (hf 1 _ rfl).int (k := .i64) (by kernel_rfl)
  obtain ⟨x2, h2, -⟩ := (hf 2 _ rfl).int (k := .i64) (by kernel_rfl)
  obtain ⟨x3, h3, -⟩ := (hf 3 _ rfl).int (k := .i64) (by kernel_rfl)
  obtain ⟨x4, h4, -⟩ := (hf 4 _ rfl).int (k := .i64) (by kernel_rfl)
  rw [show Try.prog.cellsOf _ = 1 by kernel_rfl] at h0 h1 h2 h3 h4
  simp at h0 h1 h2 h3 h4
  subst h0 h1 h2 h3 h4
  exact ⟨_, _, _, _, _, rfl⟩
theorem Try.open_appeal {H : Type} {enc : TypeId × Value → H} {W : World} {cs : List Value} (h : Reads enc Try.prog W 43 cs) :
    ∃ x0 x1 x2 x3 x4 x5 x6 : Int, cs = [.int .i64 x0, .int .i64 x1, .int .i64 x2, .int .i64 x3, .int .i64 x4, .int .i64 x5, .int .i64 x6] := by
  obtain ⟨hl, hf⟩ := h.struct Try.underlying43
  rw [show Try.prog.cellsOf 43 = 7 by kernel_rfl] at hl
  obtain ⟨c0, c1, c2, c3, c4, c5, c6, rfl⟩ := list_of7 hl
  obtain ⟨x0, h0, -⟩ := (hf 0 _ rfl).int (k := .i64) (by kernel_rfl)
  obtain ⟨x1, h1, -⟩ := (hf 1 _ rfl).int (k := .i64) (by kernel_rfl)
  obtain ⟨x2, h2, -⟩ := (hf 2 _ rfl).int (k := .i64) (by kernel_rfl)
  obtain ⟨x3, h3, -⟩ := (hf 3 _ rfl).int (k := .i64) (by kernel_rfl)
  obtain ⟨x4, h4, -⟩ := (hf 4 _ rfl).int (k := .i64) (by kernel_rfl)
  obtain ⟨x5, h5, -⟩ := (hf 5 _ rfl).int (k := .i64) (by kernel_rfl)
  obtain ⟨x6, h6, -⟩ := (hf 6 _ rfl).int (k := .i64) (by kernel_rfl)
  rw [show Try.prog.cellsOf _ = 1 by kernel_rfl] at h0 h1 h2 h3 h4 h5 h6
  simp at h0 h1 h2 h3 h4 h5 h6
  subst h0 h1 h2 h3 h4 h5 h6
  exact ⟨_, _, _, _, _, _, _, rfl⟩
theorem Try.open_conf {H : Type} {enc : TypeId × Value → H} {W : World} {cs : List Value} (h : Reads enc Try.prog W 41 cs) :
    ∃ (x0 x1 x2 x3 x4 x5 x6 we : Int) (v : Value) (hs : List Int), cs = [.int .i64 x0, .int .i64 x1, .int .i64 x2, .int .i64 x3, .int .i64 x4, .int .i64 x5, .int .i64 x6, .int .i64 we, v] ∧ Ints W v hs := by
  obtain ⟨hl, hf⟩ := h.struct Try.underlying41
  rw [show Try.prog.cellsOf 41 = 9 by kernel_rfl] at hl
  obtain ⟨c0, c1, c2, c3, c4, c5, c6, c7, c8, rfl⟩ := list_of9 hl
  obtain ⟨x0, h0, -⟩ := (hf 0 _ rfl).int (k := .i64) (by kernel_rfl)
  obtain ⟨x1, h1, -⟩ := (hf 1 _ rfl).int (k := .i64) (by kernel_rfl)
  obtain ⟨x2, h2, -⟩ := (hf 2 _ rfl).int (k := .i64) (by kernel_rfl)
  obtain ⟨x3, h3, -⟩ := (hf 3 _ rfl).int (k := .i64) (by kernel_rfl)
  obtain ⟨x4, h4, -⟩ := (hf 4 _ rfl).int (k := .i64) (by kernel_rfl)
  obtain ⟨x5, h5, -⟩ := (hf 5 _ rfl).int (k := .i64) (by kernel_rfl)
  obtain ⟨x6, h6, -⟩ := (hf 6 _ rfl).int (k := .i64) (by kernel_rfl)
  obtain ⟨we, v, hs, h7, hi⟩ := Try.open_cal (hf 7 _ rfl)
  rw [show Try.prog.cellsOf _ = 1 by kernel_rfl] at h0 h1 h2 h3 h4 h5 h6
  rw [show Try.prog.cellsOf _ = 2 by kernel_rfl] at h7
  simp at h0 h1 h2 h3 h4 h5 h6 h7
  obtain ⟨h7, h8⟩ := h7
  subst h0 h1 h2 h3 h4 h5 h6 h7 h8
  exact ⟨_, _, _, _, _, _, _, _, _, hs, rfl, hi⟩

end Go.Proofs.Ythalkfjbgldgbaa
