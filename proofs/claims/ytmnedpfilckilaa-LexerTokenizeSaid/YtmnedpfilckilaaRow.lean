/- From a law's walk to its row: what the arguments read as, and that they read so still. No program is named here. -/
import Derived.Test.YtmnedpfilckilaaLib
import Derived.ProofKit
import Derived.OpenShut
import Derived.SizedLaws
set_option linter.unusedSimpArgs false
set_option linter.unusedVariables false
namespace Go.Proofs.Ytmnedpfilckilaa
open Go.ChangeShapes Go.WideShapes Go.ChangeAt Go.RowKit

section
variable {H : Type} {enc : TypeId × Value → H} {P : Program} {w : World} {t : TypeId} {cs : List Value}

/-- The cells cs read as a datum of type t. -/
def Reads (enc : TypeId × Value → H) (P : Program) (w : World) (t : TypeId) (cs : List Value) : Prop :=
  ∃ fuel x, DataW.trod enc P w 0 (fun _ => true) true fuel t cs = some x
theorem cell_lt {a : Addr} {v : Value} (h : w.cell? a = some v) : a.block < w.heap.size ∧ a.spot = none := by
  unfold World.cell? at h
  split at h
  · rename_i hb
    have hlt : a.block < w.heap.size := (Array.getElem?_eq_some_iff.1 hb).1
    refine ⟨hlt, ?_⟩
    cases hs : a.spot <;> simp [hs] at h ⊢
  · simp at h
theorem Reads.int {k : IntKind} (ht : P.underlying t = some (.int k)) (h : Reads enc P w t cs) : ∃ n, cs = [.int k n] ∧ (Lit.int k n).wf = true := by
  obtain ⟨f, x, h⟩ := h
  obtain ⟨n, rfl, _, hw⟩ := DataW.trod_int ht h
  exact ⟨n, rfl, hw⟩
theorem collect {w : World} {a : Addr} {Q : Value → Prop} : ∀ len, (∀ i, i < len → ∃ v, w.cell? (a.add i) = some v ∧ Q v) →
    ∃ xs : List Value, xs.length = len ∧ ∀ i (h : i < xs.length), w.cell? (a.add i) = some xs[i] ∧ Q xs[i]
  | 0, _ => ⟨[], rfl, fun i h => by simp at h⟩
  | m + 1, each => by
    obtain ⟨xs, h1, h2⟩ := collect m (fun i hi => each i (by omega))
    obtain ⟨v, h3, h4⟩ := each m (by omega)
    refine ⟨xs ++ [v], by simp [h1], fun i hi => ?_⟩
    by_cases him : i < xs.length
    · rw [List.getElem_append_left him]; exact h2 i him
    · have : i = xs.length := by simp at hi; omega
      subst this
      rw [List.getElem_append_right (by omega)]
      simp only [Nat.sub_self, List.getElem_cons_zero]
      rw [h1]; exact ⟨h3, h4⟩
theorem Reads.sl {e : TypeId} (ht : P.underlying t = some (.slice e)) (hc : P.cellsOf e = 1) (h : Reads enc P w t cs) :
    ∃ v xs, cs = [v] ∧ Sl w v xs ∧ ∀ x ∈ xs, Reads enc P w e [x] := by
  obtain ⟨f, x, h⟩ := h
  rcases DataW.trod_slice ht h with ⟨rfl, _⟩ | ⟨a, len, cap, elems, rest, n, _, rfl, _, _, hl, hm, hlen, hel, _, _⟩
  · exact ⟨_, [], rfl, ⟨none, 0, rfl, by simp, by decide, by simp⟩, by simp⟩
  · have each : ∀ i, i < len → ∃ v, w.cell? (a.add i) = some v ∧ Reads enc P w e [v] := by
      intro i hi
      have := hel i hi
      have hel2 : elems[i]? = some elems[i] := List.getElem?_eq_getElem (by omega)
      rw [hel2, hc, Nat.mul_one, Option.bind_eq_some_iff] at this
      obtain ⟨cs', hcs, hy⟩ := this
      have hl1 : cs'.length = 1 := (World.cells?_some hcs).2.1
      match cs', hl1 with
      | [v], _ => exact ⟨v, cell_of_cells?_one hcs, n, _, hy⟩
    have ex := collect (Q := fun v => Reads enc P w e [v]) len each
    obtain ⟨xs, hx, hx2⟩ := ex
    refine ⟨_, xs, rfl, ⟨some a, cap, by rw [hx], by omega, hm, fun hpos => ?_⟩, fun x hxm => ?_⟩
    · have h0 := cell_lt (hx2 0 hpos).1
      obtain ⟨ab, ao, as⟩ := a
      have has : as = none := by simpa [Addr.add] using h0.2
      subst has
      refine ⟨ab, ao, rfl, by simpa [Addr.add] using h0.1, fun i hi => ?_⟩
      have := (hx2 i hi).1
      by_cases hi0 : i = 0
      · subst hi0; simpa [Addr.add] using this
      · simpa [Addr.add, hi0] using this
    · obtain ⟨i, hi, rfl⟩ := List.getElem_of_mem hxm
      exact (hx2 i hi).2
theorem Reads.struct {fs : Array Field} (ht : P.underlying t = some (.struct fs)) (h : Reads enc P w t cs) :
    cs.length = P.cellsOf t ∧ ∀ (i : Nat) (f : Field), fs[i]? = some f → Reads enc P w f.type ((cs.drop f.offset).take (P.cellsOf f.type)) := by
  obtain ⟨fu, x, h⟩ := h
  obtain ⟨xs, n, _, _, hl, hlen, hf⟩ := DataW.trod_struct ht h
  refine ⟨hl, fun i f hi => ⟨n, _, (hf i f hi).trans (List.getElem?_eq_getElem ?_)⟩⟩
  rw [hlen]
  exact (Array.getElem?_eq_some_iff.1 hi).1
theorem Reads.array {n : Nat} {e : TypeId} (ht : P.underlying t = some (.array n e)) (h : Reads enc P w t cs) :
    cs.length = P.cellsOf t ∧ ∀ i, i < n → Reads enc P w e ((cs.drop (i * P.cellsOf e)).take (P.cellsOf e)) := by
  obtain ⟨fu, x, h⟩ := h
  obtain ⟨xs, m, _, _, hl, hlen, hf⟩ := DataW.trod_array ht h
  exact ⟨hl, fun i hi => ⟨m, _, (hf i hi).trans (List.getElem?_eq_getElem (by omega))⟩⟩
theorem Reads.ints {e : TypeId} (ht : P.underlying t = some (.slice e)) (he : P.underlying e = some (.int .i64)) (hc : P.cellsOf e = 1) (h : Reads enc P w t cs) :
    ∃ v hs, cs = [v] ∧ Ints w v hs ∧ ∀ x ∈ hs, (Lit.int .i64 x).wf = true := by
  obtain ⟨v, xs, rfl, hsl, hx⟩ := h.sl ht hc
  have hex : ∀ xs : List Value, (∀ x ∈ xs, Reads enc P w e [x]) → ∃ hs : List Int, xs = hs.map (Value.int .i64) ∧ ∀ x ∈ hs, (Lit.int .i64 x).wf = true := by
    intro xs
    induction xs with
    | nil => exact fun _ => ⟨[], rfl, by simp⟩
    | cons x xs ih =>
      intro h
      obtain ⟨hs, rfl, h2⟩ := ih (fun y hy => h y (by simp [hy]))
      obtain ⟨n, hn, hw⟩ := (h x (by simp)).int he
      simp only [List.cons.injEq, and_true] at hn
      subst hn
      exact ⟨n :: hs, rfl, by simpa using ⟨hw, h2⟩⟩
  obtain ⟨hs, rfl, h2⟩ := hex xs hx
  exact ⟨v, hs, rfl, hsl, h2⟩
end

theorem i64_of_wf {n : Int} (h : (Lit.int .i64 n).wf = true) : -9223372036854775808 ≤ n ∧ n ≤ 9223372036854775807 := by
  simp [Lit.wf, IntKind.has, IntKind.min, IntKind.max, IntKind.signed, IntKind.bits] at h
  omega

/-- What an argument is: its value, and that its cells read as a datum. -/
def ArgOk {H : Type} (enc : TypeId × Value → H) (P : Program) (W : World) (base : Nat) (t : TypeId) (v : Value) : Prop :=
  Value.okWide P W .any base t v ∧ Reads enc P W t v.cells.toList
theorem ArgOk.agg {H : Type} {enc : TypeId × Value → H} {P : Program} {W : World} {base : Nat} {t : TypeId} {v : Value} (h : ArgOk enc P W base t v)
    (ht : (∃ fs, P.underlying t = some (.struct fs)) ∨ ∃ n e, P.underlying t = some (.array n e)) : ∃ cs, v = .agg cs ∧ Reads enc P W t cs.toList := by
  obtain ⟨h1, h2⟩ := h
  rcases ht with ⟨fs, ht⟩ | ⟨n, e, ht⟩ <;>
  · simp only [Value.okWide, ht] at h1
    obtain ⟨cs, rfl, _⟩ := h1
    exact ⟨cs, rfl, h2⟩
theorem ArgOk.int {H : Type} {enc : TypeId × Value → H} {P : Program} {W : World} {base : Nat} {t : TypeId} {v : Value} {k : IntKind} (h : ArgOk enc P W base t v)
    (ht : P.underlying t = some (.int k)) : ∃ n, v = .int k n ∧ (Lit.int k n).wf = true := by
  obtain ⟨h1, h2⟩ := h
  obtain ⟨n, hn, hw⟩ := h2.int ht
  refine ⟨n, ?_, hw⟩
  simp only [Value.okWide, ht, Cell.okWide] at h1
  cases v <;> simp_all [Cell.ok, Value.cells]

theorem stays {H : Type} {enc : TypeId × Value → H} {P : Program} {W W' : World} (hl : laidOutB P = true) (hb : Below W.heap.size W W') :
    ∀ (ts : List TypeId) (vs : List Value) (ds : List (DataW H)) (ps : List MemPlace), (ts.all fun t => P.readableRec t && decide (t < P.types.size)) = true →
      DataW.TrodAll enc P W 0 (fun _ => true) true ts vs ds ps → (∀ x ∈ ps, x.block < W.heap.size) → DataW.TrodAll enc P W' 0 (fun b => decide (b < W.heap.size)) true ts vs ds ps
  | [], [], [], _, _, h, _ => h
  | [], _ :: _, _, _, _, h, _ => by simp [DataW.TrodAll] at h
  | [], [], _ :: _, _, _, h, _ => by simp [DataW.TrodAll] at h
  | _ :: _, [], _, _, _, h, _ => by simp [DataW.TrodAll] at h
  | _ :: _, _ :: _, [], _, _, h, _ => by simp [DataW.TrodAll] at h
  | t :: ts, v :: vs, d :: ds, ps, hr, h, hlt => by
    obtain ⟨p, q, h1, h2, rfl⟩ := h
    simp only [List.all_cons, Bool.and_eq_true, decide_eq_true_eq] at hr
    exact ⟨p, q, Below.trod hl hr.1.1 hr.1.2 h1 hb (fun x hx => hlt x (by simp [hx])), stays hl hb ts vs ds q hr.2 h2 (fun x hx => hlt x (by simp [hx])), rfl⟩

theorem argsOk {H : Type} {enc : TypeId × Value → H} {P : Program} {W : World} : ∀ (ts : List TypeId) (vs : List Value) (ds : List (DataW H)) (ps : List MemPlace),
    DataW.TrodAll enc P W 0 (fun _ => true) true ts vs ds ps → ts.length = vs.length ∧ ds.length = ts.length ∧ ∀ (j : Nat) t v, ts[j]? = some t → vs[j]? = some v → Reads enc P W t v.cells.toList
  | [], [], [], _, _ => ⟨rfl, rfl, by simp⟩
  | [], _ :: _, _, _, h => by simp [DataW.TrodAll] at h
  | [], [], _ :: _, _, h => by simp [DataW.TrodAll] at h
  | _ :: _, [], _, _, h => by simp [DataW.TrodAll] at h
  | _ :: _, _ :: _, [], _, h => by simp [DataW.TrodAll] at h
  | t :: ts, v :: vs, d :: ds, ps, h => by
    obtain ⟨p, q, ⟨f, h1⟩, h2, rfl⟩ := h
    obtain ⟨e1, e2, ih⟩ := argsOk ts vs ds q h2
    refine ⟨by simp [e1], by simp [e2], fun j t' v' ht hv => ?_⟩
    cases j with
    | zero => simp at ht hv; subst ht hv; exact ⟨f, _, h1⟩
    | succ j => exact ih j t' v' (by simpa using ht) (by simpa using hv)

/-- A law: it returns true and writes to nothing that was there; its row. -/
theorem law_lift {H : Type} {enc : TypeId × Value → H} {C : Checked} {os : Os} {f : FuncId} {fn : Func} {s : ChangeSpec} {tb : TypeId}
    (own : ownKnob C.prog.godebug = none) (started : os.Started) (noInit : C.prog.inits.idxOf? f = none) (hfn : C.prog.funcs[f]? = some fn)
    (hl : laidOutB C.prog = true) (hr : (fn.params.toList.all fun t => C.prog.readableRec t && decide (t < C.prog.types.size)) = true)
    (hres : fn.resultTypes = #[tb]) (htb : C.prog.underlying tb = some .bool)
    (hvars : s.vars = []) (hs : ∀ ds : List (DataW H), ds.length = fn.params.toList.length → s.fn H ds = { results := [.lit (.bool true)], args := ds })
    (witness : ∃ (w : World) (tape : Tape) (i : Input), w.os = os ∧ (w.forCall tape i).Shaped C.prog ∧ i.vars = [] ∧ Input.okWide C.prog (w.forCall tape i) .any w.heap.size f i ∧
      s.pre6 enc C.prog fn [] false (w.forCall tape i).memory i.args ∧ Assume.holds {} C.prog (lone (Frame.enter C.prog f i.args .normal) [] (w.forCall tape i)))
    (core : ∀ (W : World) (base : Nat) (args : Array Value), fn.params.toList.length = args.toList.length →
      (∀ (j : Nat) t v, fn.params.toList[j]? = some t → args.toList[j]? = some v → ArgOk enc C.prog W base t v) → Calls C.prog f args W (Ret (.bool true) W)) :
    ReturnsInHanded {} C os f .any (s.pre6 enc C.prog fn [] false) (s.post enc C.prog fn false true false false) := by
  refine returnsInHanded_of_change own started noInit hfn witness ?_
  intro W base args ds gs before hval hW _ _
  have hW' := hW
  obtain ⟨p, q, hA, hV, rfl, hfz, hnd⟩ := hW
  rw [hvars] at hV
  obtain ⟨rfl, rfl⟩ := trodVars_none hV
  obtain ⟨e1, e2, hrd⟩ := argsOk _ _ _ _ hA
  refine (core W base args e1 (fun j t v ht hv => ⟨hval j t v (by simpa using ht) (by simpa using hv), hrd j t v ht hv⟩)).mono fun e W' ⟨he, hb⟩ => ⟨_, he, ?_⟩
  have hlt : ∀ x ∈ p, x.block < W.heap.size := fun x hx => by simpa using hW'.lt x (by simp [hx])
  refine ⟨ds, [], p ++ [], [], p, [], hW', ?_, ?_, ?_, hb.frame _, fun h => by simp at h⟩
  · rw [List.append_nil, hs ds e2, hres]
    exact trodAll_mk1 (shut_bool htb true)
  · rw [List.append_nil, hs ds e2]
    exact stays hl hb _ _ _ _ hr hA hlt
  · rw [hvars, List.append_nil, hs ds e2]
    rfl

end Go.Proofs.Ytmnedpfilckilaa
