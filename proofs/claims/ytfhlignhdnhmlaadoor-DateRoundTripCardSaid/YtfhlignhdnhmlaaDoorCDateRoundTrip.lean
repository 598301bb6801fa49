/- The law guerdonlaw04.DateRoundTrip: it returns true for every input, and its arguments read afterwards as before. Conditions: none but those of the given card (the library's tables as their text lays them). -/
import Derived.Test.YtfhlignhdnhmlaaDoorDatG
import Derived.Test.YtfhlignhdnhmlaaDoorSeatX
set_option linter.unusedSimpArgs false
set_option linter.unusedVariables false
namespace Go.Proofs.YtfhlignhdnhmlaaDoor
open Go.ChangeShapes Go.WideShapes Go.ChangeAt Go.RowKit

noncomputable def dateRoundTrip_world (os : Os) : World := laidWorld Tryd.prog os Rows.dateRoundTripRow.laid
theorem dateRoundTrip_met (os : Os) : laidMet Tryd.prog Rows.dateRoundTripRow.laid ((dateRoundTrip_world os).forCall (fun _ _ => 0) ⟨#[], #[.int .i64 0], []⟩).memory :=
  laidMet_of_run' 8 (by kernel_rfl) (by kernel_rfl)
theorem dateRoundTrip_reads (os : Os) {H : Type} (enc : TypeId × Value → H) : ∃ places, DataW.whole enc Tryd.prog ((dateRoundTrip_world os).forCall (fun _ _ => 0) ⟨#[], #[.int .i64 0], []⟩).memory Tryd.f12.params.toList Rows.dateRoundTripSpec.vars false (#[.int .i64 0] : Array Value).toList 8 = some ([.lit (.int .i64 0)], [], places) :=
  ⟨[], by kernel_rfl⟩

set_option maxRecDepth 100000 in
theorem dateRoundTrip_lifted (os : Os) (started : os.Started) (H : Type) (enc : TypeId × Value → H) (F : Stop.Interp) :
    ReturnsInHanded {} Tryd.checked os 12 .any ((OpenSpec.ofChange Rows.dateRoundTripSpec).preRow enc Tryd.prog Tryd.f12 Rows.dateRoundTripRow.domain false Rows.dateRoundTripRow.laid) (((OpenSpec.ofChange Rows.dateRoundTripSpec).at F).post enc Tryd.prog Tryd.f12 false true false false) := by
  obtain ⟨places, hx⟩ := dateRoundTrip_reads os enc
  refine law_lift_laid (C := Tryd.checked) (s := OpenSpec.ofChange Rows.dateRoundTripSpec) (tb := 4) Tryd.own started (by kernel_rfl) Tryd.func12 Tryd.laidOut (by kernel_rfl) (by kernel_rfl) Tryd.underlying4 rfl (fun ds h => ?_)
    (witness_row_at (enc := enc) (C := Tryd.checked) false (dateRoundTrip_world os) #[.int .i64 0] rfl (by kernel_rfl) (by kernel_rfl) (by kernel_rfl)
      (OpenSpec.preRow_of_cond 8 hx (by kernel_rfl) (fun k hk => by cases hk) (by kernel_rfl) (dateRoundTrip_met os))) ?_
  · rw [Tryd.params12] at h
    match ds, h with | [d0], _ => rfl
  intro W base args hlen hok hL
  have ht : Gd W := Tryd.gd hL (by simp [Rows.dateRoundTripRow])
  rw [Tryd.params12] at hlen hok
  obtain ⟨args⟩ := args
  obtain ⟨a0', rfl⟩ := one_args hlen
  obtain ⟨x0, r0, k0⟩ := (hok 0 _ _ rfl rfl).opened 8 (by kernel_rfl)
  exact c_DateRoundTrip ht r0 k0

theorem dateRoundTrip_said : Rows.DateRoundTripSaid :=
  OpenClaim.holds_of_cond 12 Tryd.f12 rfl rfl rfl rfl rfl rfl rfl ⟨rfl, rfl, rfl, rfl, rfl⟩ rfl rfl rfl rfl rfl (by kernel_rfl) Tryd.func12 (by kernel_rfl)
    (of_decide_eq_true (by kernel_rfl)) (by unfold Func.isWrapper; first | (rw [if_pos (by decide +kernel)]; kernel_rfl) | (rw [if_neg (by decide +kernel)]; exact ⟨rfl, rfl⟩))
    (fun os started H enc _ F => by rw [OpenClaim.pre_eq_preRow]; exact dateRoundTrip_lifted os started H enc F)

theorem dateRoundTrip_plain (f : FuncId) (fn : Func) (hf : Tryd.pinned.checked.prog.funcNamed "guerdon/guerdonlaw04.DateRoundTrip" = some f) (hfn : Tryd.pinned.checked.prog.funcs[f]? = some fn) :
    false = Tryd.pinned.checked.prog.looks [] ∧ ∀ (j : Nat) t, fn.params[j]? = some t → Tryd.pinned.checked.prog.wantsStandIn t = false := by
  obtain rfl : f = 12 := Option.some.inj ((show Tryd.prog.funcNamed "guerdon/guerdonlaw04.DateRoundTrip" = some 12 by kernel_rfl).symm.trans hf) |>.symm
  obtain rfl : fn = Tryd.f12 := (Option.some.inj (Tryd.func12.symm.trans hfn)).symm
  refine ⟨by kernel_rfl, fun j t ht => ?_⟩
  have h : (Tryd.f12.params.toList.all fun t => !Tryd.prog.wantsStandIn t) = true := by kernel_rfl
  have := List.all_eq_true.1 h t (by simpa using Array.mem_of_getElem? ht)
  exact (show Tryd.prog.wantsStandIn t = false by simpa using this)

theorem dateRoundTrip_holds : Rows.DateRoundTripCardSaid :=
  Claim7.holds_tied_plain_at .later [] _ _ _ _ dateRoundTrip_said (fun _ h => by cases h) (by kernel_rfl) (fun _ h => by cases h) dateRoundTrip_row_tie rfl ⟨rfl, rfl⟩ (by kernel_rfl) rfl dateRoundTrip_plain (by kernel_rfl)

#print axioms dateRoundTrip_holds
end Go.Proofs.YtfhlignhdnhmlaaDoor
