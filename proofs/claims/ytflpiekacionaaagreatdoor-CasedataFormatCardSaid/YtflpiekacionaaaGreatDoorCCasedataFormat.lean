/- The law guerdonlaw19.CasedataFormat: it returns true for every input, and its arguments read afterwards as before. Conditions: none but those of the given card (the library's tables as their text lays them). -/
import Derived.Test.YtflpiekacionaaaGreatDoorCasF
import Derived.Test.YtflpiekacionaaaGreatDoorSeatX
set_option linter.unusedSimpArgs false
set_option linter.unusedVariables false
namespace Go.Proofs.YtflpiekacionaaaGreatDoor
open Go.ChangeShapes Go.WideShapes Go.ChangeAt Go.RowKit

noncomputable def casedataFormat_world (os : Os) : World := laidWorld Tryz.prog os Rows.casedataFormatRow.laid
theorem casedataFormat_met (os : Os) : laidMet Tryz.prog Rows.casedataFormatRow.laid ((casedataFormat_world os).forCall (fun _ _ => 0) ⟨#[], #[.agg #[.slice none 0 0, .slice none 0 0, .slice none 0 0], .int .i64 0, .agg #[.int .i64 0, .slice none 0 0, .slice none 0 0]], []⟩).memory :=
  laidMet_of_run' 8 (by kernel_rfl) (by kernel_rfl)
theorem casedataFormat_reads (os : Os) {H : Type} (enc : TypeId × Value → H) : ∃ places, DataW.whole enc Tryz.prog ((casedataFormat_world os).forCall (fun _ _ => 0) ⟨#[], #[.agg #[.slice none 0 0, .slice none 0 0, .slice none 0 0], .int .i64 0, .agg #[.int .i64 0, .slice none 0 0, .slice none 0 0]], []⟩).memory Tryz.f3.params.toList Rows.casedataFormatSpec.vars false (#[.agg #[.slice none 0 0, .slice none 0 0, .slice none 0 0], .int .i64 0, .agg #[.int .i64 0, .slice none 0 0, .slice none 0 0]] : Array Value).toList 8 = some ([.agg [.nil, .nil, .nil], .lit (.int .i64 0), .agg [.lit (.int .i64 0), .nil, .nil]], [], places) :=
  ⟨[], by kernel_rfl⟩

set_option maxRecDepth 100000 in
theorem casedataFormat_lifted (os : Os) (started : os.Started) (H : Type) (enc : TypeId × Value → H) (F : Stop.Interp) :
    ReturnsInHanded {} Tryz.checked os 3 .any ((OpenSpec.ofChange Rows.casedataFormatSpec).preRow enc Tryz.prog Tryz.f3 Rows.casedataFormatRow.domain false Rows.casedataFormatRow.laid) (((OpenSpec.ofChange Rows.casedataFormatSpec).at F).post enc Tryz.prog Tryz.f3 false true false false) := by
  obtain ⟨places, hx⟩ := casedataFormat_reads os enc
  refine law_lift_laid (C := Tryz.checked) (s := OpenSpec.ofChange Rows.casedataFormatSpec) (tb := 4) Tryz.own started (by kernel_rfl) Tryz.func3 Tryz.laidOut (by kernel_rfl) (by kernel_rfl) Tryz.underlying4 rfl (fun ds h => ?_)
    (witness_row_at (enc := enc) (C := Tryz.checked) false (casedataFormat_world os) #[.agg #[.slice none 0 0, .slice none 0 0, .slice none 0 0], .int .i64 0, .agg #[.int .i64 0, .slice none 0 0, .slice none 0 0]] rfl (by kernel_rfl) (by kernel_rfl) (by kernel_rfl)
      (OpenSpec.preRow_of_cond 8 hx (by kernel_rfl) (fun k hk => by cases hk) (by kernel_rfl) (casedataFormat_met os))) ?_
  · rw [Tryz.params3] at h
    match ds, h with | [d0, d1, d2], _ => rfl
  intro W base args hlen hok hL
  have ht : Gd W := Tryz.gd hL (by simp [Rows.casedataFormatRow])
  rw [Tryz.params3] at hlen hok
  obtain ⟨args⟩ := args
  obtain ⟨a0', a1', a2', rfl⟩ := three_args hlen
  obtain ⟨x0, r0, k0⟩ := (hok 0 _ _ rfl rfl).opened 8 (by kernel_rfl)
  obtain ⟨x1, r1, k1⟩ := (hok 1 _ _ rfl rfl).opened 8 (by kernel_rfl)
  obtain ⟨x2, r2, k2⟩ := (hok 2 _ _ rfl rfl).opened 8 (by kernel_rfl)
  exact c_CasedataFormat ht r0 k0 r1 k1 r2 k2

theorem casedataFormat_said : Rows.CasedataFormatSaid :=
  OpenClaim.holds_of_cond 3 Tryz.f3 rfl rfl rfl rfl rfl rfl rfl ⟨rfl, rfl, rfl, rfl, rfl⟩ rfl rfl rfl rfl rfl (by kernel_rfl) Tryz.func3 (by kernel_rfl)
    (of_decide_eq_true (by kernel_rfl)) (by unfold Func.isWrapper; first | (rw [if_pos (by decide +kernel)]; kernel_rfl) | (rw [if_neg (by decide +kernel)]; exact ⟨rfl, rfl⟩))
    (fun os started H enc _ F => by rw [OpenClaim.pre_eq_preRow]; exact casedataFormat_lifted os started H enc F)

theorem casedataFormat_plain (f : FuncId) (fn : Func) (hf : Tryz.pinned.checked.prog.funcNamed "guerdon/guerdonlaw19.CasedataFormat" = some f) (hfn : Tryz.pinned.checked.prog.funcs[f]? = some fn) :
    false = Tryz.pinned.checked.prog.looks [] ∧ ∀ (j : Nat) t, fn.params[j]? = some t → Tryz.pinned.checked.prog.wantsStandIn t = false := by
  obtain rfl : f = 3 := Option.some.inj ((show Tryz.prog.funcNamed "guerdon/guerdonlaw19.CasedataFormat" = some 3 by kernel_rfl).symm.trans hf) |>.symm
  obtain rfl : fn = Tryz.f3 := (Option.some.inj (Tryz.func3.symm.trans hfn)).symm
  refine ⟨by kernel_rfl, fun j t ht => ?_⟩
  have h : (Tryz.f3.params.toList.all fun t => !Tryz.prog.wantsStandIn t) = true := by kernel_rfl
  have := List.all_eq_true.1 h t (by simpa using Array.mem_of_getElem? ht)
  exact (show Tryz.prog.wantsStandIn t = false by simpa using this)

theorem casedataFormat_holds : Rows.CasedataFormatCardSaid :=
  Claim7.holds_tied_plain_at .later [] _ _ _ _ casedataFormat_said (fun _ h => by cases h) (by kernel_rfl) (fun _ h => by cases h) casedataFormat_row_tie rfl ⟨rfl, rfl⟩ (by kernel_rfl) rfl casedataFormat_plain (by kernel_rfl)

#print axioms casedataFormat_holds
end Go.Proofs.YtflpiekacionaaaGreatDoor
