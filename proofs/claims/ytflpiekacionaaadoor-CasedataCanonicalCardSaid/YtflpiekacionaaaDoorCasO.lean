/- Cases and laws as arguments: what they read as. -/
import Derived.Test.YtflpiekacionaaaDoorCasA
import Derived.Test.YtflpiekacionaaaDoorOpc
set_option linter.unusedSimpArgs false
set_option linter.unusedVariables false
namespace Go.Proofs.YtflpiekacionaaaDoor
open Go.RowKit
set_option maxRecDepth 100000
attribute [local irreducible] Calls

theorem ok_els {st : Nat} {es : List TY} {x : PV} {α : Type} {f : α → PV} (h : TY.ok (.sl st true es) x) (hf : ∀ l, okL es l → ∃ e, PV.agg l = f e) : ∃ E : List α, x = .sl st (E.map f) ∧ E.length ≤ maxLen := by
  obtain ⟨ys, rfl, hlen, hy⟩ := ok_sl h
  obtain ⟨E, rfl⟩ := list_form (f := f) (ys := ys) (fun y hym => by
    obtain ⟨l, rfl, hl⟩ := hy y hym
    exact hf l hl)
  exact ⟨E, rfl, by simpa using hlen⟩
theorem ok_ens {x : PV} (h : TY.ok (.sl 2 true [.str, .sl 1 false [.str]]) x) : ∃ E, x = .sl 2 (ensPV E) := by
  obtain ⟨E, rfl, _⟩ := ok_els (f := enPV) h (fun l hl => by
    obtain ⟨_, _, rfl, h0, hl⟩ := okL_cons hl
    obtain ⟨_, _, rfl, h1, hl⟩ := okL_cons hl
    obtain rfl := okL_nil hl
    obtain ⟨s, rfl, _⟩ := ok_str h0
    obtain ⟨ls, rfl⟩ := ok_strs h1
    exact ⟨(s, ls), rfl⟩)
  exact ⟨E, rfl⟩
theorem ok_vals {x : PV} (h : TY.ok (.sl 3 true [.int .i64, .int .i64, .int .i64]) x) : ∃ E : List ValT, x = .sl 3 (E.map valPV) := by
  obtain ⟨E, rfl, _⟩ := ok_els (f := valPV) h (fun l hl => by
    obtain ⟨_, _, rfl, h0, hl⟩ := okL_cons hl
    obtain ⟨_, _, rfl, h1, hl⟩ := okL_cons hl
    obtain ⟨_, _, rfl, h2, hl⟩ := okL_cons hl
    obtain rfl := okL_nil hl
    obtain ⟨a, rfl, _⟩ := ok_int h0
    obtain ⟨b, rfl, _⟩ := ok_int h1
    obtain ⟨c, rfl, _⟩ := ok_int h2
    exact ⟨(a, b, c), rfl⟩)
  exact ⟨E, rfl⟩
theorem ok_flds {x : PV} (h : TY.ok (.sl 3 true [.str, .int .i64, .int .i64]) x) : ∃ E : List FldT, x = .sl 3 (E.map fldPV) := by
  obtain ⟨E, rfl, _⟩ := ok_els (f := fldPV) h (fun l hl => by
    obtain ⟨_, _, rfl, h0, hl⟩ := okL_cons hl
    obtain ⟨_, _, rfl, h1, hl⟩ := okL_cons hl
    obtain ⟨_, _, rfl, h2, hl⟩ := okL_cons hl
    obtain rfl := okL_nil hl
    obtain ⟨a, rfl, _⟩ := ok_str h0
    obtain ⟨b, rfl, _⟩ := ok_int h1
    obtain ⟨c, rfl, _⟩ := ok_int h2
    exact ⟨(a, b, c), rfl⟩)
  exact ⟨E, rfl⟩
theorem ok_raw {st : Nat} {a : Bool} {es : List TY} {x : PV} (h : TY.ok (.sl st a es) x) : ∃ l, x = .sl st l := by
  obtain ⟨ys, rfl, _⟩ := ok_sl h
  exact ⟨ys, rfl⟩
theorem ok_ruls {x : PV} (h : TY.ok (.sl 9 true [.str, .int .i64, .int .i64, .int .i64, .int .i64, .int .i64, .sl 2 true [.int .i64, .int .i64], .sl 2 true [.int .i64, .int .i64], .str]) x) : ∃ E : List RulT, x = .sl 9 (E.map rulPV) := by
  obtain ⟨E, rfl, _⟩ := ok_els (f := rulPV) h (fun l hl => by
    obtain ⟨_, _, rfl, h0, hl⟩ := okL_cons hl
    obtain ⟨_, _, rfl, h1, hl⟩ := okL_cons hl
    obtain ⟨_, _, rfl, h2, hl⟩ := okL_cons hl
    obtain ⟨_, _, rfl, h3, hl⟩ := okL_cons hl
    obtain ⟨_, _, rfl, h4, hl⟩ := okL_cons hl
    obtain ⟨_, _, rfl, h5, hl⟩ := okL_cons hl
    obtain ⟨_, _, rfl, h6, hl⟩ := okL_cons hl
    obtain ⟨_, _, rfl, h7, hl⟩ := okL_cons hl
    obtain ⟨_, _, rfl, h8, hl⟩ := okL_cons hl
    obtain rfl := okL_nil hl
    obtain ⟨a, rfl, _⟩ := ok_str h0
    obtain ⟨b, rfl, _⟩ := ok_int h1
    obtain ⟨c, rfl, _⟩ := ok_int h2
    obtain ⟨d, rfl, _⟩ := ok_int h3
    obtain ⟨e, rfl, _⟩ := ok_int h4
    obtain ⟨f, rfl, _⟩ := ok_int h5
    obtain ⟨g, rfl⟩ := ok_raw h6
    obtain ⟨v, rfl⟩ := ok_raw h7
    obtain ⟨s, rfl, _⟩ := ok_str h8
    exact ⟨(a, (b, c, d, e, f), g, v, s), rfl⟩)
  exact ⟨E, rfl⟩
theorem ok_tabs {x : PV} (h : TY.ok (.sl 6 true [.str, .int .i64, .int .i64, .int .i64, .int .i64, .sl 5 true [.int .i64, .int .i64, .int .i64, .int .i64, .int .i64]]) x) : ∃ E : List TabT, x = .sl 6 (E.map tabPV) := by
  obtain ⟨E, rfl, _⟩ := ok_els (f := tabPV) h (fun l hl => by
    obtain ⟨_, _, rfl, h0, hl⟩ := okL_cons hl
    obtain ⟨_, _, rfl, h1, hl⟩ := okL_cons hl
    obtain ⟨_, _, rfl, h2, hl⟩ := okL_cons hl
    obtain ⟨_, _, rfl, h3, hl⟩ := okL_cons hl
    obtain ⟨_, _, rfl, h4, hl⟩ := okL_cons hl
    obtain ⟨_, _, rfl, h5, hl⟩ := okL_cons hl
    obtain rfl := okL_nil hl
    obtain ⟨a, rfl, _⟩ := ok_str h0
    obtain ⟨b, rfl, _⟩ := ok_int h1
    obtain ⟨c, rfl, _⟩ := ok_int h2
    obtain ⟨d, rfl, _⟩ := ok_int h3
    obtain ⟨e, rfl, _⟩ := ok_int h4
    obtain ⟨r, rfl⟩ := ok_raw h5
    exact ⟨(a, (b, c, d, e), r), rfl⟩)
  exact ⟨E, rfl⟩
theorem ok_scs {x : PV} (h : TY.ok (.sl 5 true [.str, .int .i64, .sl 3 true [.str, .int .i64, .int .i64], .sl 3 true [.str, .int .i64, .int .i64],
    .sl 9 true [.str, .int .i64, .int .i64, .int .i64, .int .i64, .int .i64, .sl 2 true [.int .i64, .int .i64], .sl 2 true [.int .i64, .int .i64], .str]]) x) : ∃ E : List ScT, x = .sl 5 (E.map scPV) := by
  obtain ⟨E, rfl, _⟩ := ok_els (f := scPV) h (fun l hl => by
    obtain ⟨_, _, rfl, h0, hl⟩ := okL_cons hl
    obtain ⟨_, _, rfl, h1, hl⟩ := okL_cons hl
    obtain ⟨_, _, rfl, h2, hl⟩ := okL_cons hl
    obtain ⟨_, _, rfl, h3, hl⟩ := okL_cons hl
    obtain ⟨_, _, rfl, h4, hl⟩ := okL_cons hl
    obtain rfl := okL_nil hl
    obtain ⟨a, rfl, _⟩ := ok_str h0
    obtain ⟨b, rfl, _⟩ := ok_int h1
    obtain ⟨c, rfl⟩ := ok_flds h2
    obtain ⟨d, rfl⟩ := ok_flds h3
    obtain ⟨e, rfl⟩ := ok_ruls h4
    exact ⟨(a, b, c, d, e), rfl⟩)
  exact ⟨E, rfl⟩
theorem ok_mems {x : PV} (h : TY.ok (.sl 1 false [.sl 3 true [.int .i64, .int .i64, .int .i64]]) x) : ∃ E : List (List ValT), x = .sl 1 (E.map memPV) := by
  obtain ⟨ys, rfl, _, hy⟩ := ok_sl h
  obtain ⟨E, rfl⟩ := list_form (f := memPV) (ys := ys) (fun y hym => by
    obtain ⟨l, rfl, hl⟩ := hy y hym
    obtain ⟨_, _, rfl, h0, hl⟩ := okL_cons hl
    obtain ⟨E, rfl⟩ := ok_vals h0
    exact ⟨E, rfl⟩)
  exact ⟨E, rfl⟩
theorem open_law {x : List PV} (h : okL (tys Tryd.prog 8 42) x) : ∃ l : LawT, mkEl Tryd.prog 42 x = .agg [.sl 2 (ensPV l.1), .sl 6 (l.2.1.map tabPV), .sl 5 (l.2.2.map scPV)] := by
  rw [show tys Tryd.prog 8 42 = [.sl 2 true [.str, .sl 1 false [.str]],
    .sl 6 true [.str, .int .i64, .int .i64, .int .i64, .int .i64, .sl 5 true [.int .i64, .int .i64, .int .i64, .int .i64, .int .i64]],
    .sl 5 true [.str, .int .i64, .sl 3 true [.str, .int .i64, .int .i64], .sl 3 true [.str, .int .i64, .int .i64],
      .sl 9 true [.str, .int .i64, .int .i64, .int .i64, .int .i64, .int .i64, .sl 2 true [.int .i64, .int .i64], .sl 2 true [.int .i64, .int .i64], .str]]] by kernel_rfl] at h
  obtain ⟨_, _, rfl, h0, h⟩ := okL_cons h
  obtain ⟨_, _, rfl, h1, h⟩ := okL_cons h
  obtain ⟨_, _, rfl, h2, h⟩ := okL_cons h
  obtain rfl := okL_nil h
  obtain ⟨E, rfl⟩ := ok_ens h0
  obtain ⟨T, rfl⟩ := ok_tabs h1
  obtain ⟨S, rfl⟩ := ok_scs h2
  exact ⟨(E, T, S), by kernel_rfl⟩
theorem open_cas {x : List PV} (h : okL (tys Tryd.prog 8 46) x) : ∃ c : CasT, mkEl Tryd.prog 46 x = .agg [.int .i64 c.1, .sl 3 (c.2.1.map valPV), .sl 1 (c.2.2.map memPV)] := by
  rw [show tys Tryd.prog 8 46 = [.int .i64, .sl 3 true [.int .i64, .int .i64, .int .i64], .sl 1 false [.sl 3 true [.int .i64, .int .i64, .int .i64]]] by kernel_rfl] at h
  obtain ⟨_, _, rfl, h0, h⟩ := okL_cons h
  obtain ⟨_, _, rfl, h1, h⟩ := okL_cons h
  obtain ⟨_, _, rfl, h2, h⟩ := okL_cons h
  obtain rfl := okL_nil h
  obtain ⟨d, rfl, _⟩ := ok_int h0
  obtain ⟨I, rfl⟩ := ok_vals h1
  obtain ⟨M, rfl⟩ := ok_mems h2
  exact ⟨(d, I, M), by kernel_rfl⟩
theorem open_int {x : List PV} (h : okL (tys Tryd.prog 8 3) x) : ∃ k, mkEl Tryd.prog 3 x = .int .i64 k ∧ (Lit.int .i64 k).wf = true := by
  rw [show tys Tryd.prog 8 3 = [.int .i64] by kernel_rfl] at h
  obtain ⟨_, _, rfl, h0, h⟩ := okL_cons h
  obtain rfl := okL_nil h
  obtain ⟨k, rfl, hw⟩ := ok_int h0
  exact ⟨k, by kernel_rfl, hw⟩
theorem open_str {x : List PV} (h : okL (tys Tryd.prog 8 9) x) : ∃ k, mkEl Tryd.prog 9 x = .str k := by
  rw [show tys Tryd.prog 8 9 = [.str] by kernel_rfl] at h
  obtain ⟨_, _, rfl, h0, h⟩ := okL_cons h
  obtain rfl := okL_nil h
  obtain ⟨k, rfl, _⟩ := ok_str h0
  exact ⟨k, by kernel_rfl⟩
end Go.Proofs.YtflpiekacionaaaDoor
