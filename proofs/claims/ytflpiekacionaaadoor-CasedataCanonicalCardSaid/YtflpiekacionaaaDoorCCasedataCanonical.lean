/- The law guerdonlaw19.CasedataCanonical: it returns true for every input, and its arguments read afterwards as before. Conditions: none but those of the given card (the library's tables as their text lays them). -/
import Derived.Test.YtflpiekacionaaaDoorCasX
import Derived.Test.YtflpiekacionaaaDoorSeatX
set_option linter.unusedSimpArgs false
set_option linter.unusedVariables false
namespace Go.Proofs.YtflpiekacionaaaDoor
open Go.ChangeShapes Go.WideShapes Go.ChangeAt Go.RowKit

noncomputable def casedataCanonical_world (os : Os) : World := laidWorld Tryd.prog os Rows.casedataCanonicalRow.laid
theorem casedataCanonical_met (os : Os) : laidMet Tryd.prog Rows.casedataCanonicalRow.laid ((casedataCanonical_world os).forCall (fun _ _ => 0) ⟨#[], #[.agg #[.slice none 0 0, .slice none 0 0, .slice none 0 0], .int .i64 0, .string ByteArray.empty], []⟩).memory :=
  laidMet_of_run' 8 (by kernel_rfl) (by kernel_rfl)
theorem casedataCanonical_reads (os : Os) {H : Type} (enc : TypeId × Value → H) : ∃ places, DataW.whole enc Tryd.prog ((casedataCanonical_world os).forCall (fun _ _ => 0) ⟨#[], #[.agg #[.slice none 0 0, .slice none 0 0, .slice none 0 0], .int .i64 0, .string ByteArray.empty], []⟩).memory Tryd.f10.params.toList Rows.casedataCanonicalSpec.vars false (#[.agg #[.slice none 0 0, .slice none 0 0, .slice none 0 0], .int .i64 0, .string ByteArray.empty] : Array Value).toList 8 = some ([.agg [.nil, .nil, .nil], .lit (.int .i64 0), .lit (.string [])], [], places) :=
  ⟨[], by kernel_rfl⟩

set_option maxRecDepth 100000 in
theorem casedataCanonical_lifted (os : Os) (started : os.Started) (H : Type) (enc : TypeId × Value → H) (F : Stop.Interp) :
    ReturnsInHanded {} Tryd.checked os 10 .any ((OpenSpec.ofChange Rows.casedataCanonicalSpec).preRow enc Tryd.prog Tryd.f10 Rows.casedataCanonicalRow.domain false Rows.casedataCanonicalRow.laid) (((OpenSpec.ofChange Rows.casedataCanonicalSpec).at F).post enc Tryd.prog Tryd.f10 false true false false) := by
  obtain ⟨places, hx⟩ := casedataCanonical_reads os enc
  refine law_lift_laid (C := Tryd.checked) (s := OpenSpec.ofChange Rows.casedataCanonicalSpec) (tb := 4) Tryd.own started (by kernel_rfl) Tryd.func10 Tryd.laidOut (by kernel_rfl) (by kernel_rfl) Tryd.underlying4 rfl (fun ds h => ?_)
    (witness_row_at (enc := enc) (C := Tryd.checked) false (casedataCanonical_world os) #[.agg #[.slice none 0 0, .slice none 0 0, .slice none 0 0], .int .i64 0, .string ByteArray.empty] rfl (by kernel_rfl) (by kernel_rfl) (by kernel_rfl)
      (OpenSpec.preRow_of_cond 8 hx (by kernel_rfl) (fun k hk => by cases hk) (by kernel_rfl) (casedataCanonical_met os))) ?_
  · rw [Tryd.params10] at h
    match ds, h with | [d0, d1, d2], _ => rfl
  intro W base args hlen hok hL
  have ht : Gd W := Tryd.gd hL (by simp [Rows.casedataCanonicalRow])
  rw [Tryd.params10] at hlen hok
  obtain ⟨args⟩ := args
  obtain ⟨a0', a1', a2', rfl⟩ := three_args hlen
  obtain ⟨x0, r0, k0⟩ := (hok 0 _ _ rfl rfl).opened 8 (by kernel_rfl)
  obtain ⟨x1, r1, k1⟩ := (hok 1 _ _ rfl rfl).opened 8 (by kernel_rfl)
  obtain ⟨x2, r2, k2⟩ := (hok 2 _ _ rfl rfl).opened 8 (by kernel_rfl)
  exact c_CasedataCanonical ht r0 k0 r1 k1 r2 k2

theorem casedataCanonical_said : Rows.CasedataCanonicalSaid :=
  OpenClaim.holds_of_cond 10 Tryd.f10 rfl rfl rfl rfl rfl rfl rfl ⟨rfl, rfl, rfl, rfl, rfl⟩ rfl rfl rfl rfl rfl (by kernel_rfl) Tryd.func10 (by kernel_rfl)
    (of_decide_eq_true (by kernel_rfl)) (by unfold Func.isWrapper; first | (rw [if_pos (by decide +kernel)]; kernel_rfl) | (rw [if_neg (by decide +kernel)]; exact ⟨rfl, rfl⟩))
    (fun os started H enc _ F => by rw [OpenClaim.pre_eq_preRow]; exact casedataCanonical_lifted os started H enc F)

theorem casedataCanonical_plain (f : FuncId) (fn : Func) (hf : Tryd.pinned.checked.prog.funcNamed "guerdon/guerdonlaw19.CasedataCanonical" = some f) (hfn : Tryd.pinned.checked.prog.funcs[f]? = some fn) :
    false = Tryd.pinned.checked.prog.looks [] ∧ ∀ (j : Nat) t, fn.params[j]? = some t → Tryd.pinned.checked.prog.wantsStandIn t = false := by
  obtain rfl : f = 10 := Option.some.inj ((show Tryd.prog.funcNamed "guerdon/guerdonlaw19.CasedataCanonical" = some 10 by kernel_rfl).symm.trans hf) |>.symm
  obtain rfl : fn = Tryd.f10 := (Option.some.inj (Tryd.func10.symm.trans hfn)).symm
  refine ⟨by kernel_rfl, fun j t ht => ?_⟩
  have h : (Tryd.f10.params.toList.all fun t => !Tryd.prog.wantsStandIn t) = true := by kernel_rfl
  have := List.all_eq_true.1 h t (by simpa using Array.mem_of_getElem? ht)
  exact (show Tryd.prog.wantsStandIn t = false by simpa using this)

theorem casedataCanonical_holds : Rows.CasedataCanonicalCardSaid :=
  Claim7.holds_tied_plain_at .later [] _ _ _ _ casedataCanonical_said (fun _ h => by cases h) (by kernel_rfl) (fun _ h => by cases h) casedataCanonical_row_tie rfl ⟨rfl, rfl⟩ (by kernel_rfl) rfl casedataCanonical_plain (by kernel_rfl)

#print axioms casedataCanonical_holds
end Go.Proofs.YtflpiekacionaaaDoor
