/- The law guerdonlaw07.MonthRanges: it returns true for every input, and its arguments read afterwards as before. Conditions: none but those of the given card (the library's tables as their text lays them). -/
import Derived.Test.YtfhlignhdnhmlaaDoorLawD
import Derived.Test.YtfhlignhdnhmlaaDoorSeatD
set_option linter.unusedSimpArgs false
set_option linter.unusedVariables false
namespace Go.Proofs.YtfhlignhdnhmlaaDoor
open Go.ChangeShapes Go.WideShapes Go.ChangeAt Go.RowKit

noncomputable def monthRanges_world (os : Os) : World := laidWorld Tryd.prog os Rows.monthRangesRow.laid
theorem monthRanges_met (os : Os) : laidMet Tryd.prog Rows.monthRangesRow.laid ((monthRanges_world os).forCall (fun _ _ => 0) ⟨#[], #[.int .i64 0, .int .i64 0, .agg #[.int .i64 0, .int .i64 0]], []⟩).memory :=
  laidMet_of_run' 8 (by kernel_rfl) (by kernel_rfl)
theorem monthRanges_reads (os : Os) {H : Type} (enc : TypeId × Value → H) : ∃ places, DataW.whole enc Tryd.prog ((monthRanges_world os).forCall (fun _ _ => 0) ⟨#[], #[.int .i64 0, .int .i64 0, .agg #[.int .i64 0, .int .i64 0]], []⟩).memory Tryd.f3.params.toList Rows.monthRangesSpec.vars false (#[.int .i64 0, .int .i64 0, .agg #[.int .i64 0, .int .i64 0]] : Array Value).toList 8 = some ([.lit (.int .i64 0), .lit (.int .i64 0), .agg [.lit (.int .i64 0), .lit (.int .i64 0)]], [], places) :=
  ⟨[], by kernel_rfl⟩

set_option maxRecDepth 100000 in
theorem monthRanges_lifted (os : Os) (started : os.Started) (H : Type) (enc : TypeId × Value → H) (F : Stop.Interp) :
    ReturnsInHanded {} Tryd.checked os 3 .any ((OpenSpec.ofChange Rows.monthRangesSpec).preRow enc Tryd.prog Tryd.f3 Rows.monthRangesRow.domain false Rows.monthRangesRow.laid) (((OpenSpec.ofChange Rows.monthRangesSpec).at F).post enc Tryd.prog Tryd.f3 false true false false) := by
  obtain ⟨places, hx⟩ := monthRanges_reads os enc
  refine law_lift_laid (C := Tryd.checked) (s := OpenSpec.ofChange Rows.monthRangesSpec) (tb := 4) Tryd.own started (by kernel_rfl) Tryd.func3 Tryd.laidOut (by kernel_rfl) (by kernel_rfl) Tryd.underlying4 rfl (fun ds h => ?_)
    (witness_row_at (enc := enc) (C := Tryd.checked) false (monthRanges_world os) #[.int .i64 0, .int .i64 0, .agg #[.int .i64 0, .int .i64 0]] rfl (by kernel_rfl) (by kernel_rfl) (by kernel_rfl)
      (OpenSpec.preRow_of_cond 8 hx (by kernel_rfl) (fun k hk => by cases hk) (by kernel_rfl) (monthRanges_met os))) ?_
  · rw [Tryd.params3] at h
    match ds, h with | [d0, d1, d2], _ => rfl
  intro W base args hlen hok hL
  have ht : Tab W := Tryd.tab hL (by simp [Rows.monthRangesRow])
  rw [Tryd.params3] at hlen hok
  obtain ⟨args⟩ := args
  obtain ⟨a0', a1', a2', rfl⟩ := three_args hlen
  obtain ⟨n0, rfl, w0⟩ := (hok 0 _ _ rfl rfl).int (k := .i64) (by kernel_rfl)
  obtain ⟨n1, rfl, w1⟩ := (hok 1 _ _ rfl rfl).int (k := .i64) (by kernel_rfl)
  obtain ⟨⟨c2⟩, rfl, r2⟩ := (hok 2 _ _ rfl rfl).agg (.inl ⟨_, Tryd.underlying23⟩)
  obtain ⟨a2, b2, e2, -, -⟩ := Tryd.open_rng r2
  simp only at e2; subst e2
  exact c_law07_MonthRanges n0 n1 a2 b2 W ht

theorem monthRanges_said : Rows.MonthRangesSaid :=
  OpenClaim.holds_of_cond 3 Tryd.f3 rfl rfl rfl rfl rfl rfl rfl ⟨rfl, rfl, rfl, rfl, rfl⟩ rfl rfl rfl rfl rfl (by kernel_rfl) Tryd.func3 (by kernel_rfl)
    (of_decide_eq_true (by kernel_rfl)) (by unfold Func.isWrapper; first | (rw [if_pos (by decide +kernel)]; kernel_rfl) | (rw [if_neg (by decide +kernel)]; exact ⟨rfl, rfl⟩))
    (fun os started H enc _ F => by rw [OpenClaim.pre_eq_preRow]; exact monthRanges_lifted os started H enc F)

theorem monthRanges_plain (f : FuncId) (fn : Func) (hf : Tryd.pinned.checked.prog.funcNamed "guerdon/guerdonlaw07.MonthRanges" = some f) (hfn : Tryd.pinned.checked.prog.funcs[f]? = some fn) :
    false = Tryd.pinned.checked.prog.looks [] ∧ ∀ (j : Nat) t, fn.params[j]? = some t → Tryd.pinned.checked.prog.wantsStandIn t = false := by
  obtain rfl : f = 3 := Option.some.inj ((show Tryd.prog.funcNamed "guerdon/guerdonlaw07.MonthRanges" = some 3 by kernel_rfl).symm.trans hf) |>.symm
  obtain rfl : fn = Tryd.f3 := (Option.some.inj (Tryd.func3.symm.trans hfn)).symm
  refine ⟨by kernel_rfl, fun j t ht => ?_⟩
  have h : (Tryd.f3.params.toList.all fun t => !Tryd.prog.wantsStandIn t) = true := by kernel_rfl
  have := List.all_eq_true.1 h t (by simpa using Array.mem_of_getElem? ht)
  exact (show Tryd.prog.wantsStandIn t = false by simpa using this)

theorem monthRanges_holds : Rows.MonthRangesCardSaid :=
  Claim7.holds_tied_plain_at .later [] _ _ _ _ monthRanges_said (fun _ h => by cases h) (by kernel_rfl) (fun _ h => by cases h) monthRanges_row_tie rfl ⟨rfl, rfl⟩ (by kernel_rfl) rfl monthRanges_plain (by kernel_rfl)

#print axioms monthRanges_holds
end Go.Proofs.YtfhlignhdnhmlaaDoor
