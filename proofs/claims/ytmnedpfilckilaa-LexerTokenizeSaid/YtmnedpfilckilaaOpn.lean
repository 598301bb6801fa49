/- What an argument reads as, as a pure value, whatever its type. No program is named here. -/
import Derived.Test.YtmnedpfilckilaaRow
import Derived.Test.YtmnedpfilckilaaExo
set_option linter.unusedSimpArgs false
set_option linter.unusedVariables false
namespace Go.Proofs.Ytmnedpfilckilaa
open Go.RowKit

/-- The pure value with these cells. -/
def mkEl (P : Program) (t : TypeId) (l : List PV) : PV := match P.underlying t with
  | some (.struct _) => .agg l
  | some (.array _ _) => .agg l
  | _ => l.headD .nilsl
/-- The pure cells of a value of type t. -/
def Sh (P : Program) : Nat → TypeId → List PV → Prop
  | 0, _, _ => False
  | d + 1, t, xs => match P.underlying t with
    | some (.int k) => ∃ n, xs = [.int k n] ∧ (Lit.int k n).wf = true
    | some .bool => ∃ b, xs = [.bool b]
    | some .string => ∃ l, xs = [.str l] ∧ l.length ≤ maxLen
    | some (.slice e) => ∃ ys, xs = [.sl (P.cellsOf e) ys] ∧ ys.length ≤ maxLen ∧ ∀ y ∈ ys, ∃ l, y = mkEl P e l ∧ Sh P d e l ∧ l.length = P.cellsOf e
    | some (.struct fs) => xs.length = P.cellsOf t ∧ ∀ (i : Nat) (f : Field), fs[i]? = some f → Sh P d f.type ((xs.drop f.offset).take (P.cellsOf f.type))
    | some (.array n e) => xs.length = P.cellsOf t ∧ ∀ i, i < n → Sh P d e ((xs.drop (i * P.cellsOf e)).take (P.cellsOf e))
    | _ => False

section
variable {H : Type} {enc : TypeId × Value → H} {P : Program} {w : World} {t : TypeId} {cs : List Value}
def covers : List (Nat × Nat) → Nat → Nat → Bool
  | [], o, n => decide (o = n)
  | (f, s) :: l, o, n => decide (f = o) && covers l (o + s) n
theorem covers_le : ∀ {l : List (Nat × Nat)} {o n : Nat}, covers l o n = true → o ≤ n
  | [], o, n, h => by simp [covers] at h; omega
  | (f, s) :: l, o, n, h => by
    simp only [covers, Bool.and_eq_true, decide_eq_true_eq] at h
    have := covers_le h.2
    omega
/-- Types that can be opened: at most d deep, and laid out without holes. -/
def opens (P : Program) : Nat → TypeId → Bool
  | 0, _ => false
  | d + 1, t => match P.underlying t with
    | some (.int _) => true
    | some .bool => true
    | some .string => true
    | some (.slice e) => decide (0 < P.cellsOf e) && opens P d e
    | some (.struct fs) => covers (fs.toList.map fun f => (f.offset, P.cellsOf f.type)) 0 (P.cellsOf t) && fs.toList.all fun f => opens P d f.type
    | some (.array n e) => covers ((List.range n).map fun i => (i * P.cellsOf e, P.cellsOf e)) 0 (P.cellsOf t) && opens P d e
    | _ => false
theorem Reads.bool (ht : P.underlying t = some .bool) (h : Reads enc P w t cs) : ∃ b, cs = [.bool b] := by
  obtain ⟨f, x, h⟩ := h
  obtain ⟨b, rfl, _⟩ := DataW.trod_bool ht h
  exact ⟨b, rfl⟩
theorem Reads.str' (ht : P.underlying t = some .string) (h : Reads enc P w t cs) : ∃ l : List UInt8, cs = [.string ⟨l.toArray⟩] ∧ l.length ≤ maxLen := by
  obtain ⟨f, x, h⟩ := h
  obtain ⟨s, rfl, _, hs⟩ := DataW.trod_string ht h
  exact ⟨s.data.toList, rfl, hs⟩
/-- A slice of elements of any size. -/
theorem Reads.slice {e : TypeId} (ht : P.underlying t = some (.slice e)) (h : Reads enc P w t cs) :
    ∃ a len cap, cs = [.slice a len cap] ∧ len ≤ cap ∧ cap ≤ maxLen ∧ (a = none → cap = 0) ∧ ∀ i, i < len → ∃ ad cs', a = some ad ∧ cs'.length = P.cellsOf e ∧ (∀ (j : Nat) u, cs'[j]? = some u → w.cell? ((ad.add (i * P.cellsOf e)).add j) = some u) ∧ Reads enc P w e cs' := by
  obtain ⟨f, x, h⟩ := h
  rcases DataW.trod_slice ht h with ⟨rfl, _⟩ | ⟨a, len, cap, elems, rest, n, _, rfl, _, _, hl, hm, hlen, hel, _, _⟩
  · exact ⟨none, 0, 0, rfl, Nat.le_refl _, by decide, fun _ => rfl, fun i hi => by omega⟩
  · refine ⟨some a, len, cap, rfl, hl, hm, (fun h => by cases h), fun i hi => ?_⟩
    have := hel i hi
    rw [List.getElem?_eq_getElem (show i < elems.length by omega), Option.bind_eq_some_iff] at this
    obtain ⟨cs', hcs, hy⟩ := this
    obtain ⟨_, hl', hg⟩ := World.cells?_some hcs
    exact ⟨a, cs', rfl, hl', fun j u hj => cells?_get hcs hj, n, _, hy⟩
where
  cells?_get {w : World} {b : Nat} {a : Addr} {n : Nat} {cs : List Value} (h : w.cells? b a n = some cs) {j : Nat} {u : Value} (hj : cs[j]? = some u) : w.cell? (a.add j) = some u := by
    obtain ⟨_, hl, hg⟩ := World.cells?_some h
    have hlt : j < n := by have := (List.getElem?_eq_some_iff.1 hj).1; omega
    rw [hg j hlt]; exact hj
theorem mkEl_cells {d : Nat} {t : TypeId} {xs : List PV} (h : Sh P d t xs) : (mkEl P t xs).cells = xs := by
  cases d with
  | zero => cases h
  | succ d =>
    unfold Sh at h
    unfold mkEl
    split at h <;> rename_i ht <;> simp only [ht]
    · obtain ⟨n, rfl, _⟩ := h; rfl
    · obtain ⟨n, rfl⟩ := h; rfl
    · obtain ⟨n, rfl, _⟩ := h; rfl
    · obtain ⟨n, rfl, _⟩ := h; rfl
    · rfl
    · rfl
    · cases h
theorem gather {α : Type} {Q : Nat → α → Prop} : ∀ n, (∀ i, i < n → ∃ x, Q i x) → ∃ l : List α, l.length = n ∧ ∀ (i : Nat) x, l[i]? = some x → Q i x
  | 0, _ => ⟨[], rfl, fun i x h => by simp at h⟩
  | m + 1, each => by
    obtain ⟨l, h1, h2⟩ := gather m (fun i hi => each i (by omega))
    obtain ⟨x, hx⟩ := each m (by omega)
    refine ⟨l ++ [x], by simp [h1], fun i y hy => ?_⟩
    by_cases him : i < l.length
    · rw [List.getElem?_append_left him] at hy; exact h2 i y hy
    · have hlt := (List.getElem?_eq_some_iff.1 hy).1
      have : i = l.length := by simp at hlt; omega
      subst this
      rw [List.getElem?_append_right (Nat.le_refl _)] at hy
      simp at hy; subst hy
      rw [h1]; exact hx
/-- Cells, item by item. -/
theorem open_items {S : Nat → Prop} {Q : TypeId → List PV → Prop} {cs : List Value} : ∀ (l : List (Nat × Nat × TypeId)) (o : Nat), covers (l.map fun x => (x.1, x.2.1)) o cs.length = true →
    (∀ x ∈ l, ∃ xs, ListRelP S w xs ((cs.drop x.1).take x.2.1) ∧ Q x.2.2 xs) →
    ∃ xs, ListRelP S w xs (cs.drop o) ∧ ∀ x ∈ l, o ≤ x.1 ∧ Q x.2.2 ((xs.drop (x.1 - o)).take x.2.1)
  | [], o, hc, _ => by
    simp [covers] at hc
    subst hc
    exact ⟨[], by simp [ListRelP], by simp⟩
  | (f, s, t) :: l, o, hc, h => by
    simp only [List.map_cons, covers, Bool.and_eq_true, decide_eq_true_eq] at hc
    obtain ⟨rfl, hc⟩ := hc
    have hle := covers_le hc
    obtain ⟨ys, hy, hq⟩ := h (f, s, t) (by simp)
    obtain ⟨zs, hz, hqs⟩ := open_items l (f + s) hc (fun x hx => h x (by simp [hx]))
    have hyl : ys.length = s := by have := hy.1; simp only [List.length_take, List.length_drop] at this; omega
    refine ⟨ys ++ zs, ⟨?_, ?_, ?_⟩, fun x hx => ?_⟩
    · have := hz.1; simp at this ⊢; omega
    · intro v hv
      have e : cs.drop f = (cs.drop f).take s ++ cs.drop (f + s) := by rw [← List.drop_drop]; exact (List.take_append_drop s _).symm
      rw [e] at hv
      rcases List.mem_append.1 hv with hv | hv
      · exact hy.2.1 v hv
      · exact hz.2.1 v hv
    · intro i c v hi hv
      by_cases hlt : i < s
      · rw [List.getElem?_append_left (by omega)] at hi
        refine hy.2.2 i c v hi ?_
        rw [List.getElem?_take, if_pos hlt]; exact hv
      · rw [List.getElem?_append_right (by omega)] at hi
        refine hz.2.2 _ c v hi ?_
        rw [List.getElem?_drop] at hv ⊢
        rw [← hv]; congr 1; omega
    · rcases List.mem_cons.1 hx with rfl | hx
      · refine ⟨Nat.le_refl _, ?_⟩
        dsimp only
        rw [Nat.sub_self, List.drop_zero, List.take_append_of_le_length (by omega), List.take_of_length_le (by omega)]
        exact hq
      · obtain ⟨h1, h2⟩ := hqs x hx
        refine ⟨by omega, ?_⟩
        have : (ys ++ zs).drop (x.1 - f) = zs.drop (x.1 - (f + s)) := by
          rw [List.drop_append, List.drop_eq_nil_of_le (by omega), List.nil_append]
          congr 1; omega
        rw [this]; exact h2
theorem open_sh {H : Type} {enc : TypeId × Value → H} : ∀ (d : Nat) (t : TypeId) (cs : List Value), opens P d t = true → Reads enc P w t cs → ∃ xs : List PV, ListRelP (fun b => b < w.heap.size) w xs cs ∧ Sh P d t xs
  | 0, _, _, h, _ => by cases h
  | d + 1, t, cs, h, hr => by
    unfold opens at h
    have one : ∀ {x : PV} {v : Value}, VRel (fun b => b < w.heap.size) w x v → v.oneCell' = true → ListRelP (fun b => b < w.heap.size) w [x] [v] := fun hx h1 =>
      ⟨rfl, by simpa using h1, fun i c v hc hv => by
        cases i with
        | zero => simp at hc hv; subst hc hv; exact hx
        | succ i => simp at hc⟩
    unfold Sh
    split at h
    · rename_i k ht
      obtain ⟨n, rfl, hw⟩ := hr.int ht
      exact ⟨[.int k n], one (.int k n) rfl, n, rfl, hw⟩
    · rename_i ht
      obtain ⟨b, rfl⟩ := hr.bool ht
      exact ⟨[.bool b], one (.bool b) rfl, b, rfl⟩
    · rename_i ht
      obtain ⟨l, rfl, hl⟩ := hr.str' ht
      exact ⟨[.str l], one (.str l) rfl, l, rfl, hl⟩
    · rename_i e ht
      simp only [Bool.and_eq_true, decide_eq_true_eq] at h
      obtain ⟨hpos, ho⟩ := h
      obtain ⟨a, len, cap, rfl, hlc, hcm, hnil, hel⟩ := hr.slice ht
      have each : ∀ i, i < len → ∃ y : PV, (y.cells.length = P.cellsOf e ∧ ∃ l, y = mkEl P e l ∧ Sh P d e l ∧ l.length = P.cellsOf e) ∧ ∃ ad cs', a = some ad ∧ ListRelP (fun b => b < w.heap.size) w y.cells cs' ∧ cs'.length = P.cellsOf e ∧ ∀ (j : Nat) u, cs'[j]? = some u → w.cell? ((ad.add (i * P.cellsOf e)).add j) = some u := fun i hi => by
        obtain ⟨ad, cs', ha, hl', hc', hr'⟩ := hel i hi
        obtain ⟨ys, hy, hs⟩ := open_sh d e cs' ho hr'
        have hye := mkEl_cells hs
        refine ⟨mkEl P e ys, ⟨by rw [hye]; exact hy.1.trans hl', ys, rfl, hs, hy.1.trans hl'⟩, ad, cs', ha, by rw [hye]; exact hy, hl', hc'⟩
      obtain ⟨ys, hyl, hys⟩ := gather len each
      refine ⟨[.sl (P.cellsOf e) ys], one ?_ rfl, ys, rfl, by omega, fun y hy => ?_⟩
      · rcases Nat.eq_zero_or_pos len with h0 | h0
        · have : ys = [] := List.eq_nil_of_length_eq_zero (by omega)
          subst this; subst h0
          exact .sl0 _ a cap hcm hnil
        · obtain ⟨y0, hy0⟩ : ∃ y, ys[0]? = some y := ⟨ys[0]'(by omega), List.getElem?_eq_getElem (by omega)⟩
          obtain ⟨_, ad, cs', rfl, hrel, hl', hc'⟩ := hys 0 y0 hy0
          obtain ⟨u, hu⟩ : ∃ u, cs'[0]? = some u := ⟨cs'[0]'(by omega), List.getElem?_eq_getElem (by omega)⟩
          have h00 := cell_lt (hc' 0 u hu)
          simp only [Nat.zero_mul, Addr.add, if_true] at h00
          obtain ⟨b, o, sp⟩ := ad
          obtain ⟨hb, rfl⟩ := h00
          rw [← hyl]
          refine VRel.mk_sl (show b < w.heap.size from hb) (by omega) hcm (fun x hx => ?_) (fun i x hi => ?_)
          · obtain ⟨i, hi⟩ := List.getElem?_of_mem hx
            exact (hys i x hi).1.1
          · obtain ⟨_, ad, cs2, e2, hrel2, hl2, hc2⟩ := hys i x hi
            cases e2
            refine ⟨cs2, hrel2, fun j u hj => ?_⟩
            have := hc2 j u hj
            simp only [addr_add] at this
            exact this
      · obtain ⟨i, hi⟩ := List.getElem?_of_mem hy
        exact (hys i y hi).1.2
    · rename_i fs ht
      simp only [Bool.and_eq_true, List.all_eq_true] at h
      obtain ⟨hc, ho⟩ := h
      obtain ⟨hl, hf⟩ := hr.struct ht
      obtain ⟨xs, hx, hq⟩ := open_items (w := w) (S := fun b => b < w.heap.size) (Q := Sh P d) (cs := cs) (fs.toList.map fun f => (f.offset, P.cellsOf f.type, f.type)) 0 (by rw [List.map_map, hl]; exact hc) (fun x hx => by
        obtain ⟨f, hfm, rfl⟩ := List.mem_map.1 hx
        obtain ⟨i, hi⟩ := List.getElem?_of_mem hfm
        exact open_sh d f.type _ (ho f hfm) (hf i f (by simpa using hi)))
      simp only [List.drop_zero] at hx
      refine ⟨xs, hx, hx.1.trans hl, fun i f hi => ?_⟩
      have := (hq (f.offset, P.cellsOf f.type, f.type) (List.mem_map.2 ⟨f, by simpa using Array.mem_of_getElem? hi, rfl⟩)).2
      simpa using this
    · rename_i n e ht
      simp only [Bool.and_eq_true] at h
      obtain ⟨hc, ho⟩ := h
      obtain ⟨hl, hf⟩ := hr.array ht
      obtain ⟨xs, hx, hq⟩ := open_items (w := w) (S := fun b => b < w.heap.size) (Q := Sh P d) (cs := cs) ((List.range n).map fun i => (i * P.cellsOf e, P.cellsOf e, e)) 0 (by rw [List.map_map, hl]; exact hc) (fun x hx => by
        obtain ⟨i, him, rfl⟩ := List.mem_map.1 hx
        exact open_sh d e _ ho (hf i (by simpa using him)))
      simp only [List.drop_zero] at hx
      refine ⟨xs, hx, hx.1.trans hl, fun i hi => ?_⟩
      have := (hq (i * P.cellsOf e, P.cellsOf e, e) (List.mem_map.2 ⟨i, by simpa using hi, rfl⟩)).2
      simpa using this
    · cases h
end

/-! ## The same, as types written out -/
inductive TY where
  | int (k : IntKind)
  | bool
  | str
  | sl (st : Nat) (agg : Bool) (es : List TY)
  | bad
mutual
def TY.ok : TY → PV → Prop
  | .int k, x => ∃ n, x = .int k n ∧ (Lit.int k n).wf = true
  | .bool, x => ∃ b, x = .bool b
  | .str, x => ∃ l, x = .str l ∧ l.length ≤ maxLen
  | .sl st agg es, x => ∃ ys, x = .sl st ys ∧ ys.length ≤ maxLen ∧ ∀ y ∈ ys, ∃ l, y = (bif agg then .agg l else l.headD .nilsl) ∧ okL es l
  | .bad, _ => False
def okL : List TY → List PV → Prop
  | [], l => l = []
  | t :: ts, l => ∃ x l', l = x :: l' ∧ TY.ok t x ∧ okL ts l'
end
def catT (f : TypeId → List TY) : List TypeId → List TY
  | [] => []
  | t :: l => f t ++ catT f l
def tys (P : Program) : Nat → TypeId → List TY
  | 0, _ => [.bad]
  | d + 1, t => match P.underlying t with
    | some (.int k) => [.int k]
    | some .bool => [.bool]
    | some .string => [.str]
    | some (.slice e) => [.sl (P.cellsOf e) (match P.underlying e with | some (.struct _) => true | some (.array _ _) => true | _ => false) (tys P d e)]
    | some (.struct fs) => catT (tys P d) (fs.toList.map (·.type))
    | some (.array n e) => catT (tys P d) (List.replicate n e)
    | _ => [.bad]
theorem okL_append : ∀ {ts us : List TY} {l m : List PV}, okL ts l → okL us m → okL (ts ++ us) (l ++ m)
  | [], us, l, m, h, h2 => by
    simp only [okL] at h
    subst h; exact h2
  | t :: ts, us, l, m, h, h2 => by
    simp only [okL] at h
    obtain ⟨x, l', rfl, h1, h3⟩ := h
    simp only [List.cons_append, okL]
    exact ⟨x, l' ++ m, rfl, h1, okL_append h3 h2⟩
section
variable {P : Program}
theorem okL_items {d : Nat} {xs : List PV} : ∀ (l : List (Nat × Nat × TypeId)) (o : Nat), covers (l.map fun x => (x.1, x.2.1)) o xs.length = true → (∀ x ∈ l, okL (tys P d x.2.2) ((xs.drop x.1).take x.2.1)) → okL (catT (tys P d) (l.map (·.2.2))) (xs.drop o)
  | [], o, hc, _ => by
    simp [covers] at hc
    subst hc
    simp [catT, okL]
  | (f, s, t) :: l, o, hc, h => by
    simp only [List.map_cons, covers, Bool.and_eq_true, decide_eq_true_eq] at hc
    obtain ⟨rfl, hc⟩ := hc
    have h1 := h (f, s, t) (by simp)
    have h2 := okL_items l (f + s) hc (fun x hx => h x (by simp [hx]))
    have e : xs.drop f = (xs.drop f).take s ++ xs.drop (f + s) := by rw [← List.drop_drop]; exact (List.take_append_drop s _).symm
    rw [e]
    simp only [List.map_cons, catT]
    exact okL_append h1 h2
theorem sh_ty : ∀ (d : Nat) (t : TypeId) (xs : List PV), opens P d t = true → Sh P d t xs → okL (tys P d t) xs
  | 0, _, _, h, _ => by cases h
  | d + 1, t, xs, ho, h => by
    unfold opens at ho
    unfold Sh at h
    unfold tys
    split at h <;> rename_i ht <;> simp only [ht] at ho ⊢
    · obtain ⟨n, rfl, hw⟩ := h
      exact ⟨_, [], rfl, ⟨n, rfl, hw⟩, rfl⟩
    · obtain ⟨n, rfl⟩ := h
      exact ⟨_, [], rfl, ⟨n, rfl⟩, rfl⟩
    · obtain ⟨n, rfl, hw⟩ := h
      exact ⟨_, [], rfl, ⟨n, rfl, hw⟩, rfl⟩
    · simp only [Bool.and_eq_true, decide_eq_true_eq] at ho
      obtain ⟨ys, rfl, hl, hy⟩ := h
      refine ⟨_, [], rfl, ⟨ys, rfl, hl, fun y hym => ?_⟩, rfl⟩
      obtain ⟨l, rfl, hs, hll⟩ := hy y hym
      refine ⟨l, ?_, sh_ty d _ l ho.2 hs⟩
      unfold mkEl
      cases P.underlying _ with
      | none => rfl
      | some d => cases d <;> rfl
    · simp only [Bool.and_eq_true, List.all_eq_true] at ho
      have := okL_items (P := P) (d := d) (xs := xs) (‹Array Field›.toList.map fun f => (f.offset, P.cellsOf f.type, f.type)) 0 (by rw [List.map_map, h.1]; exact ho.1) (fun x hx => by
        obtain ⟨f, hfm, rfl⟩ := List.mem_map.1 hx
        obtain ⟨i, hi⟩ := List.getElem?_of_mem hfm
        exact sh_ty d f.type _ (ho.2 f hfm) (h.2 i f (by simpa using hi)))
      rw [List.drop_zero, List.map_map] at this
      exact this
    · simp only [Bool.and_eq_true] at ho
      rename_i n e
      have := okL_items (P := P) (d := d) (xs := xs) ((List.range n).map fun i => (i * P.cellsOf e, P.cellsOf e, e)) 0 (by rw [List.map_map, h.1]; exact ho.1) (fun x hx => by
        obtain ⟨i, him, rfl⟩ := List.mem_map.1 hx
        exact sh_ty d e _ ho.2 (h.2 i (by simpa using him)))
      rw [List.drop_zero, List.map_map] at this
      have e2 : (List.range n).map ((fun (x : Nat × Nat × TypeId) => x.2.2) ∘ fun i => (i * P.cellsOf e, P.cellsOf e, e)) = List.replicate n e := by
        apply List.ext_getElem?
        intro i
        by_cases hi : i < n <;> simp [hi]
      rw [e2] at this
      exact this
    · cases h
/-- An argument, as a pure value. -/
theorem ArgOk.opened {H : Type} {enc : TypeId × Value → H} {W : World} {base : Nat} {t : TypeId} {v : Value} (d : Nat) (ho : opens P d t = true) (h : ArgOk enc P W base t v) :
    ∃ xs, VRel (fun b => b < W.heap.size) W (mkEl P t xs) v ∧ okL (tys P d t) xs := by
  obtain ⟨xs, hx, hs⟩ := open_sh d t v.cells.toList ho h.2
  refine ⟨xs, ?_, sh_ty d t xs ho hs⟩
  have h1 := h.1
  cases d with
  | zero => cases hs
  | succ d =>
    unfold Sh at hs
    unfold mkEl
    have sc : ∀ {x : PV}, xs = [x] → v.cells.toList = [v] → VRel (fun b => b < W.heap.size) W x v := fun e1 e2 => by
      rw [e1, e2] at hx
      exact hx.2.2 0 _ _ rfl rfl
    split at hs <;> rename_i ht <;> simp only [ht]
    · obtain ⟨n, rfl, _⟩ := hs
      refine sc rfl ?_
      simp only [Value.okWide, ht, Cell.okWide] at h1
      cases v <;> simp_all [Cell.ok, Value.cells]
    · obtain ⟨n, rfl⟩ := hs
      refine sc rfl ?_
      simp only [Value.okWide, ht, Cell.okWide] at h1
      cases v <;> simp_all [Cell.ok, Value.cells]
    · obtain ⟨n, rfl, _⟩ := hs
      refine sc rfl ?_
      simp only [Value.okWide, ht, Cell.okWide] at h1
      cases v <;> simp_all [Cell.ok, Value.cells]
    · obtain ⟨n, rfl, _⟩ := hs
      refine sc rfl ?_
      simp only [Value.okWide, ht, Cell.okWide] at h1
      cases v <;> simp_all [Cell.ok, Value.cells]
    · obtain ⟨cs, rfl, _⟩ := h.agg (.inl ⟨_, ht⟩)
      have := hx.agg
      simpa [Value.cells] using this
    · obtain ⟨cs, rfl, _⟩ := h.agg (.inr ⟨_, _, ht⟩)
      have := hx.agg
      simpa [Value.cells] using this
    · cases hs
/-- A list whose elements are all of a form. -/
theorem list_form {α : Type} {f : α → PV} : ∀ {ys : List PV}, (∀ y ∈ ys, ∃ e, y = f e) → ∃ E : List α, ys = E.map f
  | [], _ => ⟨[], rfl⟩
  | y :: ys, h => by
    obtain ⟨e, rfl⟩ := h y (by simp)
    obtain ⟨E, rfl⟩ := list_form (ys := ys) (fun z hz => h z (by simp [hz]))
    exact ⟨e :: E, rfl⟩
end
end Go.Proofs.Ytmnedpfilckilaa
