/- The law guerdonlaw19.CasedataEqual: it returns true for every input, and its arguments read afterwards as before. Conditions: none but those of the given card (the library's tables as their text lays them). -/
import Derived.Test.YtflpiekacionaaaDoorCasW
import Derived.Test.YtflpiekacionaaaDoorSeatX
set_option linter.unusedSimpArgs false
set_option linter.unusedVariables false
namespace Go.Proofs.YtflpiekacionaaaDoor
open Go.ChangeShapes Go.WideShapes Go.ChangeAt Go.RowKit

noncomputable def casedataEqual_world (os : Os) : World := laidWorld Tryd.prog os Rows.casedataEqualRow.laid
theorem casedataEqual_met (os : Os) : laidMet Tryd.prog Rows.casedataEqualRow.laid ((casedataEqual_world os).forCall (fun _ _ => 0) ⟨#[], #[.agg #[.int .i64 0, .slice none 0 0, .slice none 0 0], .agg #[.int .i64 0, .slice none 0 0, .slice none 0 0]], []⟩).memory :=
  laidMet_of_run' 8 (by kernel_rfl) (by kernel_rfl)
theorem casedataEqual_reads (os : Os) {H : Type} (enc : TypeId × Value → H) : ∃ places, DataW.whole enc Tryd.prog ((casedataEqual_world os).forCall (fun _ _ => 0) ⟨#[], #[.agg #[.int .i64 0, .slice none 0 0, .slice none 0 0], .agg #[.int .i64 0, .slice none 0 0, .slice none 0 0]], []⟩).memory Tryd.f11.params.toList Rows.casedataEqualSpec.vars false (#[.agg #[.int .i64 0, .slice none 0 0, .slice none 0 0], .agg #[.int .i64 0, .slice none 0 0, .slice none 0 0]] : Array Value).toList 8 = some ([.agg [.lit (.int .i64 0), .nil, .nil], .agg [.lit (.int .i64 0), .nil, .nil]], [], places) :=
  ⟨[], by kernel_rfl⟩

set_option maxRecDepth 100000 in
theorem casedataEqual_lifted (os : Os) (started : os.Started) (H : Type) (enc : TypeId × Value → H) (F : Stop.Interp) :
    ReturnsInHanded {} Tryd.checked os 11 .any ((OpenSpec.ofChange Rows.casedataEqualSpec).preRow enc Tryd.prog Tryd.f11 Rows.casedataEqualRow.domain false Rows.casedataEqualRow.laid) (((OpenSpec.ofChange Rows.casedataEqualSpec).at F).post enc Tryd.prog Tryd.f11 false true false false) := by
  obtain ⟨places, hx⟩ := casedataEqual_reads os enc
  refine law_lift_laid (C := Tryd.checked) (s := OpenSpec.ofChange Rows.casedataEqualSpec) (tb := 4) Tryd.own started (by kernel_rfl) Tryd.func11 Tryd.laidOut (by kernel_rfl) (by kernel_rfl) Tryd.underlying4 rfl (fun ds h => ?_)
    (witness_row_at (enc := enc) (C := Tryd.checked) false (casedataEqual_world os) #[.agg #[.int .i64 0, .slice none 0 0, .slice none 0 0], .agg #[.int .i64 0, .slice none 0 0, .slice none 0 0]] rfl (by kernel_rfl) (by kernel_rfl) (by kernel_rfl)
      (OpenSpec.preRow_of_cond 8 hx (by kernel_rfl) (fun k hk => by cases hk) (by kernel_rfl) (casedataEqual_met os))) ?_
  · rw [Tryd.params11] at h
    match ds, h with | [d0, d1], _ => rfl
  intro W base args hlen hok hL
  have ht : Gd W := Tryd.gd hL (by simp [Rows.casedataEqualRow])
  rw [Tryd.params11] at hlen hok
  obtain ⟨args⟩ := args
  obtain ⟨a0', a1', rfl⟩ := two_args hlen
  obtain ⟨x0, r0, k0⟩ := (hok 0 _ _ rfl rfl).opened 8 (by kernel_rfl)
  obtain ⟨x1, r1, k1⟩ := (hok 1 _ _ rfl rfl).opened 8 (by kernel_rfl)
  exact c_CasedataEqual ht r0 k0 r1 k1

theorem casedataEqual_said : Rows.CasedataEqualSaid :=
  OpenClaim.holds_of_cond 11 Tryd.f11 rfl rfl rfl rfl rfl rfl rfl ⟨rfl, rfl, rfl, rfl, rfl⟩ rfl rfl rfl rfl rfl (by kernel_rfl) Tryd.func11 (by kernel_rfl)
    (of_decide_eq_true (by kernel_rfl)) (by unfold Func.isWrapper; first | (rw [if_pos (by decide +kernel)]; kernel_rfl) | (rw [if_neg (by decide +kernel)]; exact ⟨rfl, rfl⟩))
    (fun os started H enc _ F => by rw [OpenClaim.pre_eq_preRow]; exact casedataEqual_lifted os started H enc F)

theorem casedataEqual_plain (f : FuncId) (fn : Func) (hf : Tryd.pinned.checked.prog.funcNamed "guerdon/guerdonlaw19.CasedataEqual" = some f) (hfn : Tryd.pinned.checked.prog.funcs[f]? = some fn) :
    false = Tryd.pinned.checked.prog.looks [] ∧ ∀ (j : Nat) t, fn.params[j]? = some t → Tryd.pinned.checked.prog.wantsStandIn t = false := by
  obtain rfl : f = 11 := Option.some.inj ((show Tryd.prog.funcNamed "guerdon/guerdonlaw19.CasedataEqual" = some 11 by kernel_rfl).symm.trans hf) |>.symm
  obtain rfl : fn = Tryd.f11 := (Option.some.inj (Tryd.func11.symm.trans hfn)).symm
  refine ⟨by kernel_rfl, fun j t ht => ?_⟩
  have h : (Tryd.f11.params.toList.all fun t => !Tryd.prog.wantsStandIn t) = true := by kernel_rfl
  have := List.all_eq_true.1 h t (by simpa using Array.mem_of_getElem? ht)
  exact (show Tryd.prog.wantsStandIn t = false by simpa using this)

theorem casedataEqual_holds : Rows.CasedataEqualCardSaid :=
  Claim7.holds_tied_plain_at .later [] _ _ _ _ casedataEqual_said (fun _ h => by cases h) (by kernel_rfl) (fun _ h => by cases h) casedataEqual_row_tie rfl ⟨rfl, rfl⟩ (by kernel_rfl) rfl casedataEqual_plain (by kernel_rfl)

#print axioms casedataEqual_holds
end Go.Proofs.YtflpiekacionaaaDoor
