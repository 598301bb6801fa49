/- From a law's walk to its row, where the row lists tables of the library ('laid'). No program is named here. -/
import Derived.Test.YtflpiekacionaaaDoorRow
import Derived.Deep.DeepHandedRow
import Derived.Lib.LaidTab
set_option linter.unusedSimpArgs false
set_option linter.unusedVariables false
namespace Go.Proofs.YtflpiekacionaaaDoor
open Go.ChangeShapes Go.WideShapes Go.ChangeAt Go.RowKit

/-- From the row's condition to a table's fact, wherever the table stands on the list. -/
theorem laidVars_mem {P : Program} {W : World} {name : String} {d : DataW Unit} : ∀ {l : List (String × DataW Unit)} {ps : List MemPlace}, DataW.LaidVars P W l ps → (name, d) ∈ l →
    ∃ ps', DataW.LaidVars P W [(name, d)] ps'
  | [], _, _, hm => by simp at hm
  | x :: l, ps, h, hm => by
    obtain ⟨g, t, cs, fuel, p, q, hg, ht, hvar, hd, hr, hps⟩ := h
    rcases List.mem_cons.1 hm with rfl | hm
    · exact ⟨_, g, t, cs, fuel, p, [], hg, ht, hvar, hd, rfl, rfl⟩
    · exact laidVars_mem hr hm
theorem tab_of_mem {P : Program} {W : World} {name : String} {k : IntKind} {zs : List Int} {l : List (String × DataW Unit)} {g : Nat} {t e : TypeId} {n : Nat}
    (hg : P.globalNamed name = some g) (hty : (P.globals[g]?).map (·.type) = some t) (ht : P.underlying t = some (.array n e)) (he : P.underlying e = some (.int k)) (hce : P.cellsOf e = 1) (hct : P.cellsOf t = n)
    (h : laidMet P l W) (hm : (name, Lib.tabData k zs) ∈ l) : Lib.TabIs P W name k zs := by
  obtain ⟨ps, hl, -⟩ := h
  obtain ⟨ps', g', t', cs, fuel, p, q, hg', ht', hvar, hd, _, _⟩ := laidVars_mem hl hm
  obtain rfl := Option.some.inj (hg.symm.trans hg')
  obtain rfl := Option.some.inj (hty.symm.trans ht')
  unfold Lib.TabIs
  rw [hvar, ← Lib.cells_of_tab ht he hce hct hd]

/-- A law over tables: it returns true and writes to nothing that was there; its row. -/
theorem law_lift_laid {H : Type} {enc : TypeId × Value → H} {C : Checked} {os : Os} {f : FuncId} {fn : Func} {s : OpenSpec} {F : Stop.Interp} {tb : TypeId} {laid : List (String × DataW Unit)}
    (own : ownKnob C.prog.godebug = none) (started : os.Started) (noInit : C.prog.inits.idxOf? f = none) (hfn : C.prog.funcs[f]? = some fn)
    (hl : laidOutB C.prog = true) (hr : (fn.params.toList.all fun t => C.prog.readableRec t && decide (t < C.prog.types.size)) = true)
    (hres : fn.resultTypes = #[tb]) (htb : C.prog.underlying tb = some .bool)
    (hvars : s.vars = []) (hs : ∀ ds : List (DataW H), ds.length = fn.params.toList.length → (s.at F).fn H ds = { results := [.lit (.bool true)], args := ds })
    (witness : ∃ (w : World) (tape : Tape) (i : Input), w.os = os ∧ (w.forCall tape i).Shaped C.prog ∧ i.vars = [] ∧ Input.okWide C.prog (w.forCall tape i) .any w.heap.size f i ∧
      s.preRow enc C.prog fn [] false laid (w.forCall tape i).memory i.args ∧ Assume.holds {} C.prog (lone (Frame.enter C.prog f i.args .normal) [] (w.forCall tape i)))
    (core : ∀ (W : World) (base : Nat) (args : Array Value), fn.params.toList.length = args.toList.length →
      (∀ (j : Nat) t v, fn.params.toList[j]? = some t → args.toList[j]? = some v → ArgOk enc C.prog W base t v) → laidMetH C.prog laid W → Calls C.prog f args W (Ret (.bool true) W)) :
    ReturnsInHanded {} C os f .any (s.preRow enc C.prog fn [] false laid) ((s.at F).post enc C.prog fn false true false false) := by
  refine returnsInHanded_of_row own started noInit hfn witness ?_
  intro W base args ds gs before hval hW _ _ _ hL _ _
  have hW' := hW
  obtain ⟨p, q, hA, hV, rfl, hfz, hnd⟩ := hW
  rw [hvars] at hV
  obtain ⟨rfl, rfl⟩ := trodVars_none hV
  obtain ⟨e1, e2, hrd⟩ := argsOk _ _ _ _ hA
  refine (core W base args e1 (fun j t v ht hv => ⟨hval j t v (by simpa using ht) (by simpa using hv), hrd j t v ht hv⟩) hL).mono fun e W' ⟨he, hb⟩ => ⟨_, he, ?_⟩
  have hlt : ∀ x ∈ p, x.block < W.heap.size := fun x hx => by simpa using hW'.lt x (by simp [hx])
  have hs' := hs ds e2
  refine ⟨ds, [], p ++ [], [], p, [], hW', ?_, ?_, ?_, hb.frame _, fun h => by simp at h⟩
  · rw [List.append_nil, hs', hres]
    exact trodAll_mk1 (shut_bool htb true)
  · rw [List.append_nil, hs']
    exact stays hl hb _ _ _ _ hr hA hlt
  · rw [show (s.at F).vars = [] from hvars, List.append_nil, hs']
    rfl

theorem Reads.str {H : Type} {enc : TypeId × Value → H} {P : Program} {w : World} {t : TypeId} {cs : List Value} (ht : P.underlying t = some .string) (h : Reads enc P w t cs) : ∃ s, cs = [.string s] := by
  obtain ⟨f, x, h⟩ := h
  obtain ⟨s, hc, -, -⟩ := DataW.trod_string ht h
  exact ⟨s, hc⟩
theorem ArgOk.str {H : Type} {enc : TypeId × Value → H} {P : Program} {W : World} {base : Nat} {t : TypeId} {v : Value} (h : ArgOk enc P W base t v)
    (ht : P.underlying t = some .string) : ∃ s, v = .string s := by
  obtain ⟨h1, h2⟩ := h
  obtain ⟨s, hs⟩ := h2.str ht
  refine ⟨s, ?_⟩
  simp only [Value.okWide, ht, Cell.okWide] at h1
  cases v <;> simp_all [Cell.ok, Value.cells]
theorem one_args {α : Type} {l : List α} (h : 1 = l.length) : ∃ a, l = [a] := by
  match l, h with | [a], _ => exact ⟨a, rfl⟩

/-- Cells that hold a table's content. -/
def tabCell : DataW Unit → Value
  | .lit (.int k n) => Value.int k n
  | _ => undef
def tabCells : DataW Unit → Array Value
  | .agg l => (l.flatMap fun | .agg m => m.map tabCell | d => [tabCell d]).toArray
  | _ => #[]
def layTab (d : DataW Unit) : Obj → Obj
  | .cells _ t frozen => .cells (tabCells d) t frozen
  | o => o
/-- The settled world, with the listed tables laid. -/
noncomputable def laidWorld (P : Program) (os : Os) (l : List (String × DataW Unit)) : World :=
  { World.holding P os ⟨#[], #[], []⟩ with heap := l.foldl (fun h x => h.modify ((P.globalNamed x.1).getD 0) (layTab x.2)) (World.holding P os ⟨#[], #[], []⟩).heap }
end Go.Proofs.YtflpiekacionaaaDoor
