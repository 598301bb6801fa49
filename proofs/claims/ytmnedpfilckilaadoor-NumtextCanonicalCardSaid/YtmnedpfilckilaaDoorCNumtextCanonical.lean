/- The law guerdonlaw01.NumtextCanonical: it returns true for every input, and its arguments read afterwards as before. Conditions: none but those of the given card (the library's tables as their text lays them). -/
import Derived.Test.YtmnedpfilckilaaDoorNumR
import Derived.Test.YtmnedpfilckilaaDoorSeatX
set_option linter.unusedSimpArgs false
set_option linter.unusedVariables false
namespace Go.Proofs.YtmnedpfilckilaaDoor
open Go.ChangeShapes Go.WideShapes Go.ChangeAt Go.RowKit

noncomputable def numtextCanonical_world (os : Os) : World := laidWorld Tryd.prog os Rows.numtextCanonicalRow.laid
theorem numtextCanonical_met (os : Os) : laidMet Tryd.prog Rows.numtextCanonicalRow.laid ((numtextCanonical_world os).forCall (fun _ _ => 0) ⟨#[], #[.string ByteArray.empty, .int .i64 0], []⟩).memory :=
  laidMet_of_run' 8 (by kernel_rfl) (by kernel_rfl)
theorem numtextCanonical_reads (os : Os) {H : Type} (enc : TypeId × Value → H) : ∃ places, DataW.whole enc Tryd.prog ((numtextCanonical_world os).forCall (fun _ _ => 0) ⟨#[], #[.string ByteArray.empty, .int .i64 0], []⟩).memory Tryd.f8.params.toList Rows.numtextCanonicalSpec.vars false (#[.string ByteArray.empty, .int .i64 0] : Array Value).toList 8 = some ([.lit (.string []), .lit (.int .i64 0)], [], places) :=
  ⟨[], by kernel_rfl⟩

set_option maxRecDepth 100000 in
theorem numtextCanonical_lifted (os : Os) (started : os.Started) (H : Type) (enc : TypeId × Value → H) (F : Stop.Interp) :
    ReturnsInHanded {} Tryd.checked os 8 .any ((OpenSpec.ofChange Rows.numtextCanonicalSpec).preRow enc Tryd.prog Tryd.f8 Rows.numtextCanonicalRow.domain false Rows.numtextCanonicalRow.laid) (((OpenSpec.ofChange Rows.numtextCanonicalSpec).at F).post enc Tryd.prog Tryd.f8 false true false false) := by
  obtain ⟨places, hx⟩ := numtextCanonical_reads os enc
  refine law_lift_laid (C := Tryd.checked) (s := OpenSpec.ofChange Rows.numtextCanonicalSpec) (tb := 4) Tryd.own started (by kernel_rfl) Tryd.func8 Tryd.laidOut (by kernel_rfl) (by kernel_rfl) Tryd.underlying4 rfl (fun ds h => ?_)
    (witness_row_at (enc := enc) (C := Tryd.checked) false (numtextCanonical_world os) #[.string ByteArray.empty, .int .i64 0] rfl (by kernel_rfl) (by kernel_rfl) (by kernel_rfl)
      (OpenSpec.preRow_of_cond 8 hx (by kernel_rfl) (fun k hk => by cases hk) (by kernel_rfl) (numtextCanonical_met os))) ?_
  · rw [Tryd.params8] at h
    match ds, h with | [d0, d1], _ => rfl
  intro W base args hlen hok hL
  have ht : Gd W := Tryd.gd hL (by simp [Rows.numtextCanonicalRow])
  rw [Tryd.params8] at hlen hok
  obtain ⟨args⟩ := args
  obtain ⟨a0', a1', rfl⟩ := two_args hlen
  obtain ⟨s0, rfl⟩ := (hok 0 _ _ rfl rfl).str (by kernel_rfl)
  obtain ⟨n1, rfl, w1⟩ := (hok 1 _ _ rfl rfl).int (k := .i64) (by kernel_rfl)
  exact c_NumtextCanonical s0 n1 W w1 ht

theorem numtextCanonical_said : Rows.NumtextCanonicalSaid :=
  OpenClaim.holds_of_cond 8 Tryd.f8 rfl rfl rfl rfl rfl rfl rfl ⟨rfl, rfl, rfl, rfl, rfl⟩ rfl rfl rfl rfl rfl (by kernel_rfl) Tryd.func8 (by kernel_rfl)
    (of_decide_eq_true (by kernel_rfl)) (by unfold Func.isWrapper; first | (rw [if_pos (by decide +kernel)]; kernel_rfl) | (rw [if_neg (by decide +kernel)]; exact ⟨rfl, rfl⟩))
    (fun os started H enc _ F => by rw [OpenClaim.pre_eq_preRow]; exact numtextCanonical_lifted os started H enc F)

theorem numtextCanonical_plain (f : FuncId) (fn : Func) (hf : Tryd.pinned.checked.prog.funcNamed "guerdon/guerdonlaw01.NumtextCanonical" = some f) (hfn : Tryd.pinned.checked.prog.funcs[f]? = some fn) :
    false = Tryd.pinned.checked.prog.looks [] ∧ ∀ (j : Nat) t, fn.params[j]? = some t → Tryd.pinned.checked.prog.wantsStandIn t = false := by
  obtain rfl : f = 8 := Option.some.inj ((show Tryd.prog.funcNamed "guerdon/guerdonlaw01.NumtextCanonical" = some 8 by kernel_rfl).symm.trans hf) |>.symm
  obtain rfl : fn = Tryd.f8 := (Option.some.inj (Tryd.func8.symm.trans hfn)).symm
  refine ⟨by kernel_rfl, fun j t ht => ?_⟩
  have h : (Tryd.f8.params.toList.all fun t => !Tryd.prog.wantsStandIn t) = true := by kernel_rfl
  have := List.all_eq_true.1 h t (by simpa using Array.mem_of_getElem? ht)
  exact (show Tryd.prog.wantsStandIn t = false by simpa using this)

theorem numtextCanonical_holds : Rows.NumtextCanonicalCardSaid :=
  Claim7.holds_tied_plain_at .later [] _ _ _ _ numtextCanonical_said (fun _ h => by cases h) (by kernel_rfl) (fun _ h => by cases h) numtextCanonical_row_tie rfl ⟨rfl, rfl⟩ (by kernel_rfl) rfl numtextCanonical_plain (by kernel_rfl)

#print axioms numtextCanonical_holds
end Go.Proofs.YtmnedpfilckilaaDoor
