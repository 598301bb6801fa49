/- The law guerdonlaw19.CasedataParse: it returns true for every input, and its arguments read afterwards as before. Conditions: none but those of the given card (the library's tables as their text lays them). -/
import Derived.Test.YtflpiekacionaaaGreatDoorCasP
import Derived.Test.YtflpiekacionaaaGreatDoorSeatX
set_option linter.unusedSimpArgs false
set_option linter.unusedVariables false
namespace Go.Proofs.YtflpiekacionaaaGreatDoor
open Go.ChangeShapes Go.WideShapes Go.ChangeAt Go.RowKit

noncomputable def casedataParse_world (os : Os) : World := laidWorld Tryz.prog os Rows.casedataParseRow.laid
theorem casedataParse_met (os : Os) : laidMet Tryz.prog Rows.casedataParseRow.laid ((casedataParse_world os).forCall (fun _ _ => 0) ⟨#[], #[.agg #[.slice none 0 0, .slice none 0 0, .slice none 0 0], .int .i64 0, .string ByteArray.empty], []⟩).memory :=
  laidMet_of_run' 8 (by kernel_rfl) (by kernel_rfl)
theorem casedataParse_reads (os : Os) {H : Type} (enc : TypeId × Value → H) : ∃ places, DataW.whole enc Tryz.prog ((casedataParse_world os).forCall (fun _ _ => 0) ⟨#[], #[.agg #[.slice none 0 0, .slice none 0 0, .slice none 0 0], .int .i64 0, .string ByteArray.empty], []⟩).memory Tryz.f4.params.toList Rows.casedataParseSpec.vars false (#[.agg #[.slice none 0 0, .slice none 0 0, .slice none 0 0], .int .i64 0, .string ByteArray.empty] : Array Value).toList 8 = some ([.agg [.nil, .nil, .nil], .lit (.int .i64 0), .lit (.string [])], [], places) :=
  ⟨[], by kernel_rfl⟩

set_option maxRecDepth 100000 in
theorem casedataParse_lifted (os : Os) (started : os.Started) (H : Type) (enc : TypeId × Value → H) (F : Stop.Interp) :
    ReturnsInHanded {} Tryz.checked os 4 .any ((OpenSpec.ofChange Rows.casedataParseSpec).preRow enc Tryz.prog Tryz.f4 Rows.casedataParseRow.domain false Rows.casedataParseRow.laid) (((OpenSpec.ofChange Rows.casedataParseSpec).at F).post enc Tryz.prog Tryz.f4 false true false false) := by
  obtain ⟨places, hx⟩ := casedataParse_reads os enc
  refine law_lift_laid (C := Tryz.checked) (s := OpenSpec.ofChange Rows.casedataParseSpec) (tb := 4) Tryz.own started (by kernel_rfl) Tryz.func4 Tryz.laidOut (by kernel_rfl) (by kernel_rfl) Tryz.underlying4 rfl (fun ds h => ?_)
    (witness_row_at (enc := enc) (C := Tryz.checked) false (casedataParse_world os) #[.agg #[.slice none 0 0, .slice none 0 0, .slice none 0 0], .int .i64 0, .string ByteArray.empty] rfl (by kernel_rfl) (by kernel_rfl) (by kernel_rfl)
      (OpenSpec.preRow_of_cond 8 hx (by kernel_rfl) (fun k hk => by cases hk) (by kernel_rfl) (casedataParse_met os))) ?_
  · rw [Tryz.params4] at h
    match ds, h with | [d0, d1, d2], _ => rfl
  intro W base args hlen hok hL
  have ht : Gd W := Tryz.gd hL (by simp [Rows.casedataParseRow])
  rw [Tryz.params4] at hlen hok
  obtain ⟨args⟩ := args
  obtain ⟨a0', a1', a2', rfl⟩ := three_args hlen
  obtain ⟨x0, r0, k0⟩ := (hok 0 _ _ rfl rfl).opened 8 (by kernel_rfl)
  obtain ⟨x1, r1, k1⟩ := (hok 1 _ _ rfl rfl).opened 8 (by kernel_rfl)
  obtain ⟨x2, r2, k2⟩ := (hok 2 _ _ rfl rfl).opened 8 (by kernel_rfl)
  exact c_CasedataParse ht r0 k0 r1 k1 r2 k2

theorem casedataParse_said : Rows.CasedataParseSaid :=
  OpenClaim.holds_of_cond 4 Tryz.f4 rfl rfl rfl rfl rfl rfl rfl ⟨rfl, rfl, rfl, rfl, rfl⟩ rfl rfl rfl rfl rfl (by kernel_rfl) Tryz.func4 (by kernel_rfl)
    (of_decide_eq_true (by kernel_rfl)) (by unfold Func.isWrapper; first | (rw [if_pos (by decide +kernel)]; kernel_rfl) | (rw [if_neg (by decide +kernel)]; exact ⟨rfl, rfl⟩))
    (fun os started H enc _ F => by rw [OpenClaim.pre_eq_preRow]; exact casedataParse_lifted os started H enc F)

theorem casedataParse_plain (f : FuncId) (fn : Func) (hf : Tryz.pinned.checked.prog.funcNamed "guerdon/guerdonlaw19.CasedataParse" = some f) (hfn : Tryz.pinned.checked.prog.funcs[f]? = some fn) :
    false = Tryz.pinned.checked.prog.looks [] ∧ ∀ (j : Nat) t, fn.params[j]? = some t → Tryz.pinned.checked.prog.wantsStandIn t = false := by
  obtain rfl : f = 4 := Option.some.inj ((show Tryz.prog.funcNamed "guerdon/guerdonlaw19.CasedataParse" = some 4 by kernel_rfl).symm.trans hf) |>.symm
  obtain rfl : fn = Tryz.f4 := (Option.some.inj (Tryz.func4.symm.trans hfn)).symm
  refine ⟨by kernel_rfl, fun j t ht => ?_⟩
  have h : (Tryz.f4.params.toList.all fun t => !Tryz.prog.wantsStandIn t) = true := by kernel_rfl
  have := List.all_eq_true.1 h t (by simpa using Array.mem_of_getElem? ht)
  exact (show Tryz.prog.wantsStandIn t = false by simpa using this)

theorem casedataParse_holds : Rows.CasedataParseCardSaid :=
  Claim7.holds_tied_plain_at .later [] _ _ _ _ casedataParse_said (fun _ h => by cases h) (by kernel_rfl) (fun _ h => by cases h) casedataParse_row_tie rfl ⟨rfl, rfl⟩ (by kernel_rfl) rfl casedataParse_plain (by kernel_rfl)

#print axioms casedataParse_holds
end Go.Proofs.YtflpiekacionaaaGreatDoor
