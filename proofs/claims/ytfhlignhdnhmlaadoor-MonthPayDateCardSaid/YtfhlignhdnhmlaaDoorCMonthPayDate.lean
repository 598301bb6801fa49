/- The law guerdonlaw07.MonthPayDate: it returns true for every input, and its arguments read afterwards as before. Conditions: none but those of the given card (the library's tables as their text lays them). -/
import Derived.Test.YtfhlignhdnhmlaaDoorLawD
import Derived.Test.YtfhlignhdnhmlaaDoorSeatD
set_option linter.unusedSimpArgs false
set_option linter.unusedVariables false
namespace Go.Proofs.YtfhlignhdnhmlaaDoor
open Go.ChangeShapes Go.WideShapes Go.ChangeAt Go.RowKit

noncomputable def monthPayDate_world (os : Os) : World := laidWorld Tryd.prog os Rows.monthPayDateRow.laid
theorem monthPayDate_met (os : Os) : laidMet Tryd.prog Rows.monthPayDateRow.laid ((monthPayDate_world os).forCall (fun _ _ => 0) ⟨#[], #[.int .i64 0, .agg #[.int .i64 0, .slice none 0 0], .int .i64 0], []⟩).memory :=
  laidMet_of_run' 8 (by kernel_rfl) (by kernel_rfl)
theorem monthPayDate_reads (os : Os) {H : Type} (enc : TypeId × Value → H) : ∃ places, DataW.whole enc Tryd.prog ((monthPayDate_world os).forCall (fun _ _ => 0) ⟨#[], #[.int .i64 0, .agg #[.int .i64 0, .slice none 0 0], .int .i64 0], []⟩).memory Tryd.f4.params.toList Rows.monthPayDateSpec.vars false (#[.int .i64 0, .agg #[.int .i64 0, .slice none 0 0], .int .i64 0] : Array Value).toList 8 = some ([.lit (.int .i64 0), .agg [.lit (.int .i64 0), .nil], .lit (.int .i64 0)], [], places) :=
  ⟨[], by kernel_rfl⟩

set_option maxRecDepth 100000 in
theorem monthPayDate_lifted (os : Os) (started : os.Started) (H : Type) (enc : TypeId × Value → H) (F : Stop.Interp) :
    ReturnsInHanded {} Tryd.checked os 4 .any ((OpenSpec.ofChange Rows.monthPayDateSpec).preRow enc Tryd.prog Tryd.f4 Rows.monthPayDateRow.domain false Rows.monthPayDateRow.laid) (((OpenSpec.ofChange Rows.monthPayDateSpec).at F).post enc Tryd.prog Tryd.f4 false true false false) := by
  obtain ⟨places, hx⟩ := monthPayDate_reads os enc
  refine law_lift_laid (C := Tryd.checked) (s := OpenSpec.ofChange Rows.monthPayDateSpec) (tb := 4) Tryd.own started (by kernel_rfl) Tryd.func4 Tryd.laidOut (by kernel_rfl) (by kernel_rfl) Tryd.underlying4 rfl (fun ds h => ?_)
    (witness_row_at (enc := enc) (C := Tryd.checked) false (monthPayDate_world os) #[.int .i64 0, .agg #[.int .i64 0, .slice none 0 0], .int .i64 0] rfl (by kernel_rfl) (by kernel_rfl) (by kernel_rfl)
      (OpenSpec.preRow_of_cond 8 hx (by kernel_rfl) (fun k hk => by cases hk) (by kernel_rfl) (monthPayDate_met os))) ?_
  · rw [Tryd.params4] at h
    match ds, h with | [d0, d1, d2], _ => rfl
  intro W base args hlen hok hL
  have ht : Tab W := Tryd.tab hL (by simp [Rows.monthPayDateRow])
  rw [Tryd.params4] at hlen hok
  obtain ⟨args⟩ := args
  obtain ⟨a0', a1', a2', rfl⟩ := three_args hlen
  obtain ⟨n0, rfl, w0⟩ := (hok 0 _ _ rfl rfl).int (k := .i64) (by kernel_rfl)
  obtain ⟨⟨c1⟩, rfl, r1⟩ := (hok 1 _ _ rfl rfl).agg (.inl ⟨_, Tryd.underlying33⟩)
  obtain ⟨we1, v1, hs1, e1, i1⟩ := Tryd.open_cal r1
  simp only at e1; subst e1
  obtain ⟨n2, rfl, w2⟩ := (hok 2 _ _ rfl rfl).int (k := .i64) (by kernel_rfl)
  exact c_law07_MonthPayDate n0 we1 v1 hs1 n2 W i1 ht

theorem monthPayDate_said : Rows.MonthPayDateSaid :=
  OpenClaim.holds_of_cond 4 Tryd.f4 rfl rfl rfl rfl rfl rfl rfl ⟨rfl, rfl, rfl, rfl, rfl⟩ rfl rfl rfl rfl rfl (by kernel_rfl) Tryd.func4 (by kernel_rfl)
    (of_decide_eq_true (by kernel_rfl)) (by unfold Func.isWrapper; first | (rw [if_pos (by decide +kernel)]; kernel_rfl) | (rw [if_neg (by decide +kernel)]; exact ⟨rfl, rfl⟩))
    (fun os started H enc _ F => by rw [OpenClaim.pre_eq_preRow]; exact monthPayDate_lifted os started H enc F)

theorem monthPayDate_plain (f : FuncId) (fn : Func) (hf : Tryd.pinned.checked.prog.funcNamed "guerdon/guerdonlaw07.MonthPayDate" = some f) (hfn : Tryd.pinned.checked.prog.funcs[f]? = some fn) :
    false = Tryd.pinned.checked.prog.looks [] ∧ ∀ (j : Nat) t, fn.params[j]? = some t → Tryd.pinned.checked.prog.wantsStandIn t = false := by
  obtain rfl : f = 4 := Option.some.inj ((show Tryd.prog.funcNamed "guerdon/guerdonlaw07.MonthPayDate" = some 4 by kernel_rfl).symm.trans hf) |>.symm
  obtain rfl : fn = Tryd.f4 := (Option.some.inj (Tryd.func4.symm.trans hfn)).symm
  refine ⟨by kernel_rfl, fun j t ht => ?_⟩
  have h : (Tryd.f4.params.toList.all fun t => !Tryd.prog.wantsStandIn t) = true := by kernel_rfl
  have := List.all_eq_true.1 h t (by simpa using Array.mem_of_getElem? ht)
  exact (show Tryd.prog.wantsStandIn t = false by simpa using this)

theorem monthPayDate_holds : Rows.MonthPayDateCardSaid :=
  Claim7.holds_tied_plain_at .later [] _ _ _ _ monthPayDate_said (fun _ h => by cases h) (by kernel_rfl) (fun _ h => by cases h) monthPayDate_row_tie rfl ⟨rfl, rfl⟩ (by kernel_rfl) rfl monthPayDate_plain (by kernel_rfl)

#print axioms monthPayDate_holds
end Go.Proofs.YtfhlignhdnhmlaaDoor
