/- What the other operations of the pure reading are of the machine: memory of the call's own. No program is named here. -/
import Derived.Test.YtmnedpfilckilaaExo
set_option linter.unusedSimpArgs false
set_option linter.unusedVariables false
namespace Go.Proofs.Ytmnedpfilckilaa
open Go.RowKit

section
variable {P : Program} {μ : Nat → Option Value} {S : Nat → Prop} {w : World}
variable {G : World → Prop} {w0 : World} {S0 : Nat → Prop} {st : St} {a : Act}

def upd (μ : Nat → Option Value) (i : Nat) (v : Value) (j : Nat) : Option Value := if j = i then some v else μ j
theorem upd_same (i : Nat) (v : Value) : upd μ i v i = some v := if_pos rfl
theorem upd_other {i j : Nat} (v : Value) (h : j ≠ i) : upd μ i v j = μ j := if_neg h

/-- A block that stands as it stood, in a larger world of blocks. -/
theorem BRel.keep' {base i : Nat} {b : Blk} {μ' : Nat → Option Value} {S' : Nat → Prop} {w' : World} (h : BRel base μ S w i b) (hμ : ∀ b u, μ b = some u → μ' b = some u) (hS : ∀ b, S b → S' b) (hS' : ∀ g, footO (μ i) = some g → ¬ S g → ¬ S' g) (hw : ∀ b, S b → w'.heap[b]? = w.heap[b]?)
    (hf : ∀ g, footO (μ i) = some g → w'.heap[g]? = w.heap[g]?) : BRel base μ' S' w' i b := by
  cases b with
  | none => trivial
  | box cs =>
    obtain ⟨g, ty, vs, h1, h2, h3, h4, h5, h6, h7⟩ := h
    have hg : footO (μ i) = some g := by rw [h1]; rfl
    exact ⟨g, ty, vs, hμ _ _ h1, h2, hS' g hg h3, by rw [hf g hg]; exact h4, h5, h6, fun j c v hc hv => (h7 j c v hc hv).mono' hμ hS hw⟩
  | row e st xs =>
    obtain ⟨mv, vs, hmv, h1, h2, h3, h4, h5, h6⟩ := h
    have hfm : footO (μ i) = foot mv := by rw [hmv]; rfl
    refine ⟨mv, vs, hμ _ _ hmv, ⟨h1.1, ?_⟩, h2, fun g hg => hS' g (by rw [hfm]; exact hg) (h3 g hg), h4, h5, fun k j x c hx hc => ?_⟩
    · rcases h1.2 with hn | ⟨g, cap, cur, hv, hb, hg, rest⟩
      · exact .inl hn
      · exact .inr ⟨g, cap, cur, hv, hb, by rw [hf g (by rw [hfm, hv]; rfl)]; exact hg, rest⟩
    · obtain ⟨v, hv, hr⟩ := h6 k j x c hx hc
      exact ⟨v, hv, hr.mono hS hw⟩
  | iter l pos =>
    obtain ⟨g, h1, h2, h3, h4⟩ := h
    have hg : footO (μ i) = some g := by rw [h1]; rfl
    exact ⟨g, hμ _ _ h1, h2, hS' g hg h3, by rw [hf g hg]; exact h4⟩

/-- A new block of the call's own. -/
theorem RelM.newB {w' : World} {v : Value} {blk : Blk} (R : RelM G w0 S0 μ S st a w) (hb : Below w.heap.size w w') (hv : ∀ g, foot v = some g → w.heap.size ≤ g)
    (hB : BRel w0.heap.size (upd μ st.heap.length v) S w' st.heap.length blk) : RelM G w0 S0 (upd μ st.heap.length v) S (st.newB blk) a w' := by
  have hμ : ∀ b u, μ b = some u → upd μ st.heap.length v b = some u := fun b u h => by
    by_cases e : b = st.heap.length
    · subst e; rw [R.dom _ (Nat.le_refl _)] at h; cases h
    · rw [upd_other v e]; exact h
  have hw : ∀ b, S b → w'.heap[b]? = w.heap[b]? := fun b h => hb.block b (R.s2 b h)
  refine ⟨R.size, fun i c hc => ?_, R.defers, R.below.trans (hb.mono R.below.size), fun i b h => ?_, fun i j bi bj g hij hi hj li lj hgi hgj => ?_, R.s0, R.s1, fun g h => Nat.lt_of_lt_of_le (R.s2 g h) hb.size, R.gw, fun i hi => ?_⟩
  · exact (R.tmps i c hc).mono' hμ (fun _ h => h) hw
  · simp only [St.newB, List.getElem?_append] at h
    split at h
    · rename_i hlt
      have hB' := R.heap i b h
      cases hl : b.live with
      | false => cases b <;> simp [Blk.live] at hl; trivial
      | true =>
        have hf := hB'.foot_lt hl
        exact hB'.keep' hμ (fun _ h => h) (fun _ _ h => h) hw (fun g hg => hb.block g (hf g hg).1)
    · rename_i hge
      have hi : i = st.heap.length := by
        have := (List.getElem?_eq_some_iff.1 h).1
        simp at this; omega
      subst hi
      simp at h
      subst h
      exact hB
  · have old : ∀ {i : Nat} {b : Blk} {g : Nat}, (st.heap ++ [blk])[i]? = some b → b.live = true → i ≠ st.heap.length → footO (upd μ st.heap.length v i) = some g → st.heap[i]? = some b ∧ footO (μ i) = some g ∧ g < w.heap.size := by
      intro i b g h hl hne hg
      have hlt : i < st.heap.length := by
        have := (List.getElem?_eq_some_iff.1 h).1
        simp at this; omega
      rw [List.getElem?_append_left hlt] at h
      rw [upd_other v hne] at hg
      exact ⟨h, hg, ((R.heap i b h).foot_lt hl g hg).1⟩
    by_cases ei : i = st.heap.length
    · have ej : j ≠ st.heap.length := by omega
      obtain ⟨_, _, hlt⟩ := old hj lj ej hgj
      subst ei
      rw [upd_same] at hgi
      have := hv g hgi
      omega
    · obtain ⟨h1, h2, hlt⟩ := old hi li ei hgi
      by_cases ej : j = st.heap.length
      · subst ej
        rw [upd_same] at hgj
        have := hv g hgj
        omega
      · obtain ⟨h3, h4, _⟩ := old hj lj ej hgj
        exact R.sep i j bi bj g hij h1 h3 li lj h2 h4
  · simp [St.newB] at hi
    rw [upd_other v (by omega)]
    exact R.dom i (by omega)

/-- A block of the call's own is written. -/
theorem RelM.setB {w' : World} {i : Nat} {b0 b' : Blk} (R : RelM G w0 S0 μ S st a w) (hi : st.heap[i]? = some b0) (hl0 : b0.live = true) (hsz : w'.heap.size = w.heap.size) (ho : w'.os = w.os ∧ w'.tape = w.tape ∧ w'.output = w.output)
    (hw : ∀ g, footO (μ i) ≠ some g → w'.heap[g]? = w.heap[g]?) (hB : BRel w0.heap.size μ S w' i b') : RelM G w0 S0 μ S (st.setB i b') a w' := by
  have hf0 := (R.heap i b0 hi).foot_lt hl0
  have hwS : ∀ b, S b → w'.heap[b]? = w.heap[b]? := fun b h => hw b (fun e => (hf0 b e).2.2 h)
  have hbw : Below w0.heap.size w w' := ⟨ho.1, ho.2.1, ho.2.2, by omega, fun k hk => hw k (fun e => by have := (hf0 k e).2.1; omega)⟩
  refine ⟨R.size, fun j c hc => ?_, R.defers, R.below.trans hbw, fun j b h => ?_, fun j k bj bk g hjk hj hk lj lk => ?_, R.s0, R.s1, fun g h => by rw [hsz]; exact R.s2 g h, R.gw, fun j hj => R.dom j (by simpa [St.setB] using hj)⟩
  · exact (R.tmps j c hc).mono (fun _ h => h) hwS
  · simp only [St.setB, List.getElem?_set] at h
    split at h
    · rename_i e; subst e
      split at h
      · cases h; exact hB
      · cases h
    · rename_i hne
      have hB' := R.heap j b h
      cases hl : b.live with
      | false => cases b <;> simp [Blk.live] at hl; trivial
      | true => exact hB'.keep (fun _ h => h) (fun _ _ h => h) hwS (fun g hg => hw g (fun e => R.sep i j b0 b g hne hi h hl0 hl e hg))
  · have old : ∀ {j : Nat} {b : Blk}, (st.heap.set i b')[j]? = some b → b.live = true → ∃ b1, st.heap[j]? = some b1 ∧ b1.live = true := by
      intro j b h hl
      rw [List.getElem?_set] at h
      split at h
      · rename_i e; subst e; exact ⟨b0, hi, hl0⟩
      · exact ⟨b, h, hl⟩
    obtain ⟨b1, h1, l1⟩ := old hj lj
    obtain ⟨b2, h2, l2⟩ := old hk lk
    exact R.sep j k b1 b2 g hjk h1 h2 l1 l2

theorem subL_get (b : Nat) (y : AV) : ∀ (cs : List AV) (i : Nat), (AV.subL b y cs)[i]? = (cs[i]?).map (AV.sub b y)
  | [], i => by simp [AV.subL]
  | c :: cs, 0 => by simp [AV.subL]
  | c :: cs, i + 1 => by simpa [AV.subL] using subL_get b y cs i
theorem Tr.get_sub (b : Nat) (y : AV) : ∀ (t : Tr) (i : Nat), (Tr.sub b y t).get i = AV.sub b y (t.get i)
  | .tip, _ => by simp [Tr.sub, Tr.get, AV.sub]
  | .node v l r, i => by
    simp only [Tr.sub, Tr.get]
    cases Nat.beq i 0 <;> cases Nat.beq (Nat.mod i 2) 1 <;> simp only [cond_true, cond_false] <;> exact Tr.get_sub b y _ _
theorem Tm.get_sub (b : Nat) (y : AV) (n : Nat) (t : Tr) (i : Nat) : (Tm.mk n (Tr.sub b y t)).get i = AV.sub b y ((Tm.mk n t).get i) := by
  unfold Tm.get
  dsimp only
  cases Nat.ble n i with
  | true => simp [AV.sub]
  | false => exact Tr.get_sub b y t i
theorem subL_len (b : Nat) (y : AV) : ∀ (cs : List AV), (AV.subL b y cs).length = cs.length
  | [] => rfl
  | c :: cs => by simp [AV.subL, subL_len b y cs]
theorem ARel.sub {μ' : Nat → Option Value} {S' : Nat → Prop} {w' : World} {b : Nat} {y x : AV} {v : Value} (h : ARel μ S w x v) (hμ : ∀ c, c ≠ b → μ' c = μ c) (hS : ∀ g, S g → S' g) (hw : ∀ g, S g → w'.heap[g]? = w.heap[g]?)
    (hy : ∀ a n c, μ b = some (.slice a n c) → ARel μ' S' w' y (.slice a n c)) : ARel μ' S' w' (AV.sub b y x) v := by
  induction h with
  | p x v h => exact .p x v (h.mono hS hw)
  | box c off g h =>
    by_cases e : c = b
    · simp [AV.sub, e]; exact .top _
    · have e' : (c == b) = false := by simpa using e
      simp only [AV.sub, e', cond_false]
      exact .box c off g (by rw [hμ c e]; exact h)
  | own c a n cp h =>
    by_cases e : c = b
    · subst e; simp [AV.sub]; exact hy _ _ _ h
    · have e' : (c == b) = false := by simpa using e
      simp only [AV.sub, e', cond_false]
      exact .own c a n cp (by rw [hμ c e]; exact h)
  | el c st i off g n cap h =>
    by_cases e : c = b
    · simp [AV.sub, e]; exact .top _
    · have e' : (c == b) = false := by simpa using e
      simp only [AV.sub, e', cond_false]
      exact .el c st i off g n cap (by rw [hμ c e]; exact h)
  | it c a h =>
    by_cases e : c = b
    · simp [AV.sub, e]; exact .top _
    · have e' : (c == b) = false := by simpa using e
      simp only [AV.sub, e', cond_false]
      exact .it c a (by rw [hμ c e]; exact h)
  | agg cs vs hl h h1 ih =>
    simp only [AV.sub]
    refine .agg _ vs (by rw [subL_len]; exact hl) (fun i c v hc hv => ?_) h1
    rw [subL_get] at hc
    cases hx : cs[i]? with
    | none => rw [hx] at hc; cases hc
    | some x => rw [hx] at hc; cases hc; exact ih i x v hx hv
  | tup cs vs hl h ih =>
    simp only [AV.sub]
    refine .tup _ vs (by rw [subL_len]; exact hl) (fun i c v hc hv => ?_)
    rw [subL_get] at hc
    cases hx : cs[i]? with
    | none => rw [hx] at hc; cases hc
    | some x => rw [hx] at hc; cases hc; exact ih i x v hx hv
  | clo f cs vs hl h ih =>
    simp only [AV.sub]
    refine .clo f _ vs (by rw [subL_len]; exact hl) (fun i c v hc hv => ?_)
    rw [subL_get] at hc
    cases hx : cs[i]? with
    | none => rw [hx] at hc; cases hc
    | some x => rw [hx] at hc; cases hc; exact ih i x v hx hv
  | top v => exact .top v
theorem Blk.sub_live (b : Nat) (y : AV) (o : Blk) : (Blk.sub b y o).live = o.live := by cases o <;> rfl
/-- Block i becomes another; every way to it is gone, or leads to what y is. -/
theorem RelM.subB {w' : World} {i : Nat} {b0 b' : Blk} {y : AV} {μ' : Nat → Option Value} {S' : Nat → Prop} (R : RelM G w0 S0 μ S st a w) (hi : st.heap[i]? = some b0) (hl0 : b0.live = true)
    (hμ : ∀ c, c ≠ i → μ' c = μ c) (hbw : Below w0.heap.size w w') (hS : ∀ g, S g → S' g) (hS1 : ∀ g, S' g → S g ∨ footO (μ i) = some g) (hw : ∀ g, g < w.heap.size → footO (μ i) ≠ some g → w'.heap[g]? = w.heap[g]?)
    (hf : ∀ g, footO (μ' i) = some g → b'.live = true → footO (μ i) = some g ∨ w.heap.size ≤ g) (hy : ∀ a n c, μ i = some (.slice a n c) → ARel μ' S' w' y (.slice a n c)) (hB : BRel w0.heap.size μ' S' w' i b') :
    RelM G w0 S0 μ' S' ((st.sub i y).setB i b') a w' := by
  have hf0 := (R.heap i b0 hi).foot_lt hl0
  have hilt : i < st.heap.length := (List.getElem?_eq_some_iff.1 hi).1
  have hwS : ∀ b, S b → w'.heap[b]? = w.heap[b]? := fun b h => hw b (R.s2 b h) (fun e => (hf0 b e).2.2 h)
  have look : ∀ {j : Nat} {b : Blk}, ((st.sub i y).setB i b').heap[j]? = some b → (j = i ∧ b = b') ∨ (j ≠ i ∧ ∃ b1, st.heap[j]? = some b1 ∧ b = Blk.sub i y b1) := by
    intro j b h
    simp only [St.setB, St.sub, List.getElem?_set] at h
    split at h
    · rename_i e; subst e
      split at h
      · cases h; exact .inl ⟨rfl, rfl⟩
      · cases h
    · rename_i hne
      rw [List.getElem?_map] at h
      cases hb1 : st.heap[j]? with
      | none => rw [hb1] at h; cases h
      | some b1 => rw [hb1] at h; cases h; exact .inr ⟨Ne.symm hne, b1, rfl, rfl⟩
  refine ⟨by simpa [St.setB, St.sub] using R.size, fun j c hc => ?_, R.defers, R.below.trans hbw, fun j b h => ?_, fun j k bj bk g hjk hj hk lj lk hgj hgk => ?_, fun g h => hS g (R.s0 g h), fun g h => ?_, fun g h => ?_, R.gw, fun j hj => ?_⟩
  · simp only [St.setB, St.sub]
    rw [Tm.get_sub]
    exact (R.tmps j c hc).sub hμ hS hwS hy
  · rcases look h with ⟨rfl, rfl⟩ | ⟨hne, b1, hb1, rfl⟩
    · exact hB
    · have hB' := R.heap j b1 hb1
      cases hl : b1.live with
      | false => cases b1 <;> simp [Blk.live] at hl; trivial
      | true =>
        have hfj := hB'.foot_lt hl
        have hne2 : ∀ g, footO (μ j) = some g → footO (μ i) ≠ some g := fun g hg e => R.sep i j b0 b1 g (Ne.symm hne) hi hb1 hl0 hl e hg
        have hkeep : ∀ g, footO (μ j) = some g → w'.heap[g]? = w.heap[g]? := fun g hg => hw g (hfj g hg).1 (hne2 g hg)
        have hS'' : ∀ g, footO (μ j) = some g → ¬ S g → ¬ S' g := fun g hg hn h' => by
          rcases hS1 g h' with h | h
          · exact hn h
          · exact hne2 g hg h
        cases b1 with
        | none => trivial
        | box cs =>
          obtain ⟨g, ty, vs, h1, h2, h3, h4, h5, h6, h7⟩ := hB'
          have hg : footO (μ j) = some g := by rw [h1]; rfl
          refine ⟨g, ty, vs, by rw [hμ j hne]; exact h1, h2, hS'' g hg h3, by rw [hkeep g hg]; exact h4, by rw [subL_len]; exact h5, h6, fun q c v hc hv => ?_⟩
          rw [subL_get] at hc
          cases hx : cs[q]? with
          | none => rw [hx] at hc; cases hc
          | some x => rw [hx] at hc; cases hc; exact (h7 q x v hx hv).sub hμ hS hwS hy
        | row e s xs =>
          obtain ⟨mv, vs, hmv, h1, h2, h3, h4, h5, h6⟩ := hB'
          have hfm : footO (μ j) = foot mv := by rw [hmv]; rfl
          refine ⟨mv, vs, by rw [hμ j hne]; exact hmv, ⟨h1.1, ?_⟩, h2, fun g hg => hS'' g (by rw [hfm]; exact hg) (h3 g hg), h4, h5, fun k q x c hx hc => ?_⟩
          · rcases h1.2 with hn | ⟨g, cap, cur, hv, hb, hg, rest⟩
            · exact .inl hn
            · exact .inr ⟨g, cap, cur, hv, hb, by rw [hkeep g (by rw [hfm, hv]; rfl)]; exact hg, rest⟩
          · obtain ⟨v, hv, hr⟩ := h6 k q x c hx hc
            exact ⟨v, hv, hr.mono hS hwS⟩
        | iter l pos =>
          obtain ⟨g, h1, h2, h3, h4⟩ := hB'
          have hg : footO (μ j) = some g := by rw [h1]; rfl
          exact ⟨g, by rw [hμ j hne]; exact h1, h2, hS'' g hg h3, by rw [hkeep g hg]; exact h4⟩
  · have key : ∀ {p q : Nat} {bp bq : Blk}, p ≠ q → ((st.sub i y).setB i b').heap[p]? = some bp → ((st.sub i y).setB i b').heap[q]? = some bq → bp.live = true → bq.live = true → footO (μ' p) = some g → footO (μ' q) = some g → p = i → False := by
      intro p q bp bq hpq hp hq lp lq hgp hgq e
      subst e
      rcases look hp with ⟨_, rfl⟩ | ⟨hne, _⟩
      · rcases look hq with ⟨e, _⟩ | ⟨hne, b1, hb1, rfl⟩
        · exact hpq e.symm
        · rw [Blk.sub_live] at lq
          rw [hμ q hne] at hgq
          have hfq := (R.heap q b1 hb1).foot_lt lq g hgq
          rcases hf g hgp lp with h | h
          · exact R.sep p q b0 b1 g hpq hi hb1 hl0 lq h hgq
          · omega
      · exact hne rfl
    by_cases ej : j = i
    · exact key hjk hj hk lj lk hgj hgk ej
    · by_cases ek : k = i
      · exact key (Ne.symm hjk) hk hj lk lj hgk hgj ek
      · rcases look hj with ⟨e, _⟩ | ⟨_, b1, hb1, rfl⟩
        · exact ej e
        · rcases look hk with ⟨e, _⟩ | ⟨_, b2, hb2, rfl⟩
          · exact ek e
          · rw [Blk.sub_live] at lj lk
            rw [hμ j ej] at hgj
            rw [hμ k ek] at hgk
            exact R.sep j k b1 b2 g hjk hb1 hb2 lj lk hgj hgk
  · rcases hS1 g h with h | h
    · exact R.s1 g h
    · exact .inr (hf0 g h).2.1
  · rcases hS1 g h with h | h
    · exact Nat.lt_of_lt_of_le (R.s2 g h) hbw.size
    · exact Nat.lt_of_lt_of_le (hf0 g h).1 hbw.size
  · simp [St.setB, St.sub] at hj
    rw [hμ j (by omega)]
    exact R.dom j hj

/-! ## The operations -/
def Good (G : World → Prop) (w0 : World) (S0 : Nat → Prop) (st : St) (a : Act) (w : World) : Prop := ∃ μ S, RelM G w0 S0 μ S st a w
theorem Does.wp {E : Env} (hE : E.ok G) {o : Oper} {c : AV} {Q : Exit → Act → World → Prop} (R : RelM G w0 S0 μ S st a w) (h : Does E.P μ S w (execOp a.eval o) c) : o.wp E.P a w (Good G w0 S0 (st.put o.dst c)) Q := by
  unfold Oper.wp
  rcases h with ⟨v, w', S', h, hb, h1, h2, h3, hr⟩ | ⟨f, args, x, h, rfl, hc⟩
  · rw [h]
    exact ⟨μ, S', (R.world hb h1 h2 h3).put o.dst hr⟩
  · rw [h]
    refine hc.mono fun e w' hp => ?_
    obtain ⟨v, S', rfl, hb, h1, h2, h3, hv⟩ := hp
    exact ⟨μ, S', (R.world hb h1 h2 h3).put o.dst (.p _ _ hv)⟩
theorem ListRel.keep {μ' : Nat → Option Value} {w' : World} {cs : List AV} {vs : List Value} (h : ListRel μ S w cs vs) (hμ : ∀ b u, μ b = some u → μ' b = some u) (hw : ∀ g, S g → w'.heap[g]? = w.heap[g]?) : ListRel μ' S w' cs vs :=
  ⟨h.1, h.2.1, fun j c v hc hv => (h.2.2 j c v hc hv).mono' hμ (fun _ h => h) hw⟩
/-- A new variable that holds these cells. -/
theorem RelM.newBox {cs : List AV} {vs : List Value} (e : TypeId) (R : RelM G w0 S0 μ S st a w) (hl : ListRel μ S w cs vs) :
    RelM G w0 S0 (upd μ st.heap.length (.pointer (some ⟨w.heap.size, 0, none⟩))) S (st.newB (.box cs)) a (w.alloc (.cells vs.toArray e)) := by
  have hb := alloc_below w (.cells vs.toArray e)
  refine R.newB hb (fun g hg => by cases hg; exact Nat.le_refl _) ?_
  have hμ : ∀ b u, μ b = some u → upd μ st.heap.length (.pointer (some ⟨w.heap.size, 0, none⟩)) b = some u := fun b u h => by
    by_cases e : b = st.heap.length
    · subst e; rw [R.dom _ (Nat.le_refl _)] at h; cases h
    · rw [upd_other _ e]; exact h
  have hk := hl.keep hμ (fun g hg => hb.block g (R.s2 g hg))
  exact ⟨w.heap.size, e, vs, upd_same _ _, R.below.size, fun h => by have := R.s2 _ h; omega, alloc_get w _, hk.1, hk.2.1, hk.2.2⟩
theorem run_storeVar' {t : TypeId} {i : TypeInfo} {g o : Nat} {ty : TypeId} {vs : List Value} {v : Value} (hi : P.info? t = some i) (hg : w.heap[g]? = some (.cells vs.toArray ty (0, 0))) (hs : v.cells.size = i.size)
    (ho : o + v.cells.size ≤ vs.length) (h1 : ∀ u ∈ v.cells.toList, u.oneCell' = true) : (storeVar t ⟨g, o, none⟩ v).run P w = .ok () (w.setRow g (splice vs o v.cells.toList).toArray) := by
  have := run_storeCells_at P g o ty v.cells.toList 0 vs.toArray w hg (by simpa using ho) h1
  simp [storeVar, run_sizeOf' hi, hs, this, splice]
theorem setRow_world (w : World) (g : Nat) (cs : Array Value) : (w.setRow g cs).os = w.os ∧ (w.setRow g cs).tape = w.tape ∧ (w.setRow g cs).output = w.output ∧ (w.setRow g cs).heap.size = w.heap.size := ⟨rfl, rfl, rfl, by simp [World.setRow]⟩
theorem splice_len {α : Type} {l xs : List α} {o : Nat} (h : o + xs.length ≤ l.length) : (splice l o xs).length = l.length := by simp [splice]; omega
theorem splice_get {α : Type} {l xs : List α} {o : Nat} (h : o + xs.length ≤ l.length) {j : Nat} : (splice l o xs)[j]? = if o ≤ j ∧ j < o + xs.length then xs[j - o]? else l[j]? := by
  unfold splice
  by_cases h1 : j < o
  · rw [if_neg (by omega), List.append_assoc, List.getElem?_append_left (by simp; omega), List.getElem?_take, if_pos h1]
  · by_cases h2 : j < o + xs.length
    · rw [if_pos ⟨by omega, h2⟩, List.getElem?_append_left (by simp; omega), List.getElem?_append_right (by simp; omega)]
      congr 1; simp; omega
    · rw [if_neg (by omega), List.getElem?_append_right (by simp; omega), List.getElem?_drop]
      congr 1; simp; omega
theorem splice_take {α : Type} {l xs : List α} {o n : Nat} (h : o + xs.length ≤ n) (hn : n ≤ l.length := by omega) : (splice l o xs).take n = splice (l.take n) o xs := by
  apply List.ext_getElem?
  intro j
  rw [List.getElem?_take, splice_get (by omega), splice_get (by simp; omega), List.getElem?_take]
  split
  · rfl
  · rw [if_neg (by omega)]
theorem allOne_cell : ∀ {cs : List PV}, allOne (cs.map AV.p) = true → ∀ c ∈ cs, c.cells = [c]
  | [], _, c, hc => by simp at hc
  | x :: cs, h, c, hc => by
    simp only [List.map_cons, allOne, Bool.and_eq_true] at h
    rcases List.mem_cons.1 hc with rfl | hc
    · have h1 := h.1
      cases c <;> simp [AV.one, PV.one] at h1 <;> rfl
    · exact allOne_cell h.2 c hc
theorem setCells_cells {y : PV} {off : Nat} {cs : List PV} (h : off + cs.length ≤ y.cells.length) (h0 : 0 < cs.length) (h1 : ∀ c ∈ cs, c.cells = [c]) : (setCells y off cs).cells = splice y.cells off cs := by
  cases y with
  | agg l => rfl
  | _ =>
    simp only [PV.cells, List.length_cons, List.length_nil] at h
    match cs, h, h0, h1 with
    | [c], h, _, h1 =>
      have : off = 0 := by simp at h; omega
      subst this
      exact h1 c (by simp)
    | c :: d :: l, h, _, _ => simp at h; omega
theorem aStore_ok {ρ : Type} {r : ρ} {E : Env} (hE : E.ok G) {t : TypeId} {x y : Operand} {k : St → Option ρ} (R : RelM G w0 S0 μ S st a w) (h : aStore E t st (st.ev x) (st.ev y) k = some r) :
    ∃ st' w', k st' = some r ∧ (Instr.storeAt t (a.eval x) (a.eval y)).run E.P w = .ok () w' ∧ RelM G w0 S0 μ S st' a w' := by
  unfold aStore at h
  have hx := R.ev x
  have hy := R.ev y
  split at h
  · rename_i b off e
    rw [e] at hx
    simp only [onSome_some] at h
    obtain ⟨bl, hb, h⟩ := h
    split at h
    · rename_i cs
      simp only [aGd_some, decide_eq_true_eq] at h
      obtain ⟨h0, hsz, h1, hle, h⟩ := h
      have hyl := AV.cells_rel hy h1
      generalize a.eval x = vx at hx
      cases hx with
      | box b off g hm =>
      obtain ⟨g', ty, vs, hm', hbase, hns, hg, hl⟩ := (R.heap _ _ hb).box_list
      rw [hm] at hm'; cases hm'
      obtain ⟨i, hi, hsi⟩ := siz_info h0
      have hcs : (a.eval y).cells.size = i.size := by have := hyl.1; simp at this; omega
      have hrun := run_storeVar' (t := t) (o := off) (v := a.eval y) hi hg hcs (by have := hyl.1; have := hl.1; simp at *; omega) hyl.2.1
      refine ⟨_, _, h, by simpa [Instr.storeAt, Instr.sureAddr] using hrun, ?_⟩
      obtain ⟨q1, q2, q3, q4⟩ := setRow_world w g (splice vs off (a.eval y).cells.toList).toArray
      have hw : ∀ g', footO (μ b) ≠ some g' → (w.setRow g (splice vs off (a.eval y).cells.toList).toArray).heap[g']? = w.heap[g']? := fun g' hg' => setRow_other w g g' _ (fun e => hg' (by rw [hm, e]; rfl))
      refine R.setB hb rfl q4 ⟨q1, q2, q3⟩ hw ?_
      have hl' := splice_rel hl hyl off hle
      have hwS : ∀ g', S g' → (w.setRow g (splice vs off (a.eval y).cells.toList).toArray).heap[g']? = w.heap[g']? := fun g' hg' => setRow_other w g g' _ (fun e => hns (e ▸ hg'))
      have hl'' := hl'.keep (fun _ _ h => h) hwS
      exact ⟨g, ty, _, hm, hbase, hns, setRow_heap w g _ _ ty _ hg, hl''.1, hl''.2.1, hl''.2.2⟩
    · cases h
  · rename_i b s i off e
    rw [e] at hx
    simp only [onSome_some] at h
    obtain ⟨bl, hb, h⟩ := h
    split at h
    · rename_i e' s' xs
      simp only [aGd_some, decide_eq_true_eq] at h
      obtain ⟨rfl, h0, hsz, h1, hle, h⟩ := h
      rcases allP_some h with ⟨cs, hcs, h⟩ | h
      · simp only [onGet_some, Int.toNat_natCast] at h
        obtain ⟨y', _, hy', h⟩ := h
        have hyl := AV.cells_rel hy h1
        have hc1 : ∀ c ∈ cs, c.cells = [c] := fun c hc => by
          have : allOne (cs.map AV.p) = true := by rw [← hcs]; exact h1
          exact allOne_cell this c hc
        rw [hcs] at hyl hle hsz
        have hyp := hyl.p
        obtain ⟨mv, vs, hmv, hown, hs, hns, hlen, hone, hrel⟩ := R.heap _ _ hb
        generalize a.eval x = vx at hx
        cases hx with
        | el b st i off g n cap hm =>
        rw [hm] at hmv; cases hmv
        rcases hown.2 with ⟨hn, _⟩ | ⟨g', cap', cur, hv, hbase, hg, hnc, hcm, hcsz, htk⟩
        · cases hn
        cases hv
        have hi : i < xs.length := (List.getElem?_eq_some_iff.1 hy').1
        have hvl : vs.length = xs.length * s' := hown.1
        have hul : cs.length = (a.eval y).cells.toList.length := hyp.1
        simp only [List.length_map] at hle hsz
        have hrow : i * s' + s' ≤ xs.length * s' := by rw [← Nat.succ_mul]; exact Nat.mul_le_mul_right _ hi
        have hcur : xs.length * s' ≤ cur.toList.length := by simp only [Array.length_toList, hcsz]; exact Nat.mul_le_mul_right _ hnc
        obtain ⟨ti, hti, hsi⟩ := siz_info h0
        have hucs : (a.eval y).cells.size = ti.size := by have := hul; simp at this; omega
        have hrun := run_storeVar' (P := E.P) (t := t) (o := i * s' + off) (v := a.eval y) (vs := cur.toList) hti (by simpa using hg) hucs (by have := hul; simp at this; omega) hyl.2.1
        refine ⟨_, _, h, by simpa [Instr.storeAt, Instr.sureAddr] using hrun, ?_⟩
        obtain ⟨q1, q2, q3, q4⟩ := setRow_world w g (splice cur.toList (i * s' + off) (a.eval y).cells.toList).toArray
        have hw : ∀ g', footO (μ b) ≠ some g' → (w.setRow g (splice cur.toList (i * s' + off) (a.eval y).cells.toList).toArray).heap[g']? = w.heap[g']? := fun g' hg' => setRow_other w g g' _ (fun e => hg' (by rw [hm, e]; rfl))
        have hnsg : ¬ S g := hns g rfl
        have hwS : ∀ g', S g' → (w.setRow g (splice cur.toList (i * s' + off) (a.eval y).cells.toList).toArray).heap[g']? = w.heap[g']? := fun g' hg' => setRow_other w g g' _ (fun e => hnsg (e ▸ hg'))
        have hys : y'.cells.length = s' := hlen y' (List.mem_of_getElem? hy')
        have hsc := setCells_cells (y := y') (off := off) (cs := cs) (by omega) (by omega) hc1
        refine R.setB hb rfl q4 ⟨q1, q2, q3⟩ hw ?_
        refine ⟨_, splice vs (i * s' + off) (a.eval y).cells.toList, hm, ⟨?_, .inr ⟨g, cap, (splice cur.toList (i * s' + off) (a.eval y).cells.toList).toArray, by simp, hbase, ?_, by simpa using hnc, hcm, ?_, ?_⟩⟩, hs, hns, fun x hx => ?_, fun v hv => ?_, fun k j x c hx hc => ?_⟩
        · rw [splice_len (by omega)]; simpa using hvl
        · exact setRow_heap w g cur (splice cur.toList (i * s' + off) (a.eval y).cells.toList).toArray e' (0, 0) hg
        · simp only [List.size_toArray]; rw [splice_len (by omega)]; simpa using hcsz
        · simp only [List.toList_toArray, List.length_set]
          rw [splice_take (by omega), htk]
        · rcases List.mem_or_eq_of_mem_set hx with hx | rfl
          · exact hlen x hx
          · rw [hsc, splice_len (by omega), hys]
        · obtain ⟨q, hq⟩ := List.getElem?_of_mem hv
          rw [splice_get (by omega)] at hq
          split at hq
          · exact hyl.2.1 v (List.mem_of_getElem? hq)
          · exact hone v (List.mem_of_getElem? hq)
        · rw [splice_get (by omega)]
          rw [List.getElem?_set] at hx
          split at hx
          · rename_i hik; subst hik
            cases hx
            rw [hsc, splice_get (by omega)] at hc
            split at hc
            · rename_i hj
              rw [if_pos (by omega), show i * s' + j - (i * s' + off) = j - off by omega]
              obtain ⟨v, hv, hr⟩ := hyp.get hc
              exact ⟨v, hv, hr.mono (fun _ h => h) hwS⟩
            · rename_i hj
              rw [if_neg (by omega)]
              obtain ⟨v, hv, hr⟩ := hrel i j y' c hy' hc
              exact ⟨v, hv, hr.mono (fun _ h => h) hwS⟩
          · rename_i hik
            have hkl : x.cells.length = s' := hlen x (List.mem_of_getElem? hx)
            have hj : j < s' := by rw [← hkl]; exact (List.getElem?_eq_some_iff.1 hc).1
            rw [if_neg ?_]
            · obtain ⟨v, hv, hr⟩ := hrel k j x c hx hc
              exact ⟨v, hv, hr.mono (fun _ h => h) hwS⟩
            · intro hh
              rcases Nat.lt_or_gt_of_ne hik with h' | h'
              · have : (i + 1) * s' ≤ k * s' := Nat.mul_le_mul_right _ h'
                rw [Nat.succ_mul] at this; omega
              · have : (k + 1) * s' ≤ i * s' := Nat.mul_le_mul_right _ h'
                rw [Nat.succ_mul] at this; omega
      · cases h
    · cases h
  · cases h

theorem aWp {E : Env} {o : Oper} {st' : St} {v : Next} {w' : World} {Q : Exit → Act → World → Prop} (hr : (execOp a.eval o).run E.P w = .ok v w') (hv : ∀ f args, v ≠ .enter f args)
    (h : match v with | .value u => Good G w0 S0 st' (a.put o.dst u) w' | .skip => Good G w0 S0 st' (a.put o.dst undef) w' | _ => False) : o.wp E.P a w (Good G w0 S0 st') Q := by
  unfold Oper.wp
  rw [hr]
  cases v <;> simp only [Oper.upon] at h ⊢ <;> first | exact h | exact h.elim | exact absurd rfl (hv _ _)
theorem run_iter (l : List UInt8) (pos : Nat) {g : Nat} (hg : w.heap[g]? = some (.stringIter ⟨l.toArray⟩ pos)) (t : TypeId) :
    (Instr.next (.pointer (some ⟨g, 0, none⟩)) true t).run P w =
      if pos < l.length then .ok (.tuple #[.bool true, .int .i64 pos, .int .i32 (Utf8.decode ⟨l.toArray⟩ pos).1]) { w with heap := w.heap.setIfInBounds g (.stringIter ⟨l.toArray⟩ (pos + (Utf8.decode ⟨l.toArray⟩ pos).2)) }
      else .ok (.tuple #[.bool false]) w := by
  have hget : (getObj g).run P w = .ok (.stringIter ⟨l.toArray⟩ pos) w := by simp [getObj, Sem.run, hg]
  simp only [Instr.next, Sem.run_bind, hget, Result.andThen_ok, ba_size]
  split
  · simp [setObj, Sem.run, hg, goInt]
  · rfl

/-! ## append -/
theorem foot_own {v : Value} {g : Nat} : v.ownBlock = some g ↔ foot v = some g ∧ ∃ a n c, v = .slice a n c := by
  cases v with
  | slice a n c => cases a <;> simp [Value.ownBlock, foot]
  | _ => simp [Value.ownBlock]
theorem run_append' {base : Nat} {t ty e : TypeId} {i : TypeInfo} {z : Value} (ht : P.underlying t = some (.slice e)) (hi : P.info? e = some i) (hz : i.zero = some z) (hzs : z.cells.size = i.size) (hsz : 0 < i.size)
    {v : Value} {n : Nat} {xs : List Value} (hown : w.ownsRow base e i.size v n xs) {ad : Addr} {m c : Nat} {news : List Value} (hl : news.length = m * i.size)
    (hnews : ∀ (j : Nat) u, news[j]? = some u → w.cell? (ad.add j) = some u) (h1 : ∀ u ∈ news, u.oneCell' = true) (hb : (n + m) * (i.bytes + 1) ≤ 140737488355328) (hbase : base ≤ w.heap.size) :
    ∃ v' w', (Builtin.append_ #[t, t] ty #[v, .slice (some ad) m c]).run P w = .ok v' w' ∧ w'.ownsRow base e i.size v' (n + m) (xs ++ news) ∧ w.grownBy w' v.ownBlock ∧ ∀ g, foot v' = some g → foot v = some g ∨ w.heap.size ≤ g := by
  have hb1 : (n + m) * i.bytes ≤ 140737488355328 := by rw [Nat.mul_add] at hb; omega
  have hb2 : n + m ≤ 140737488355328 := by rw [Nat.mul_add] at hb; omega
  have hm : n + m ≤ maxLen := by simp only [maxLen]; omega
  obtain ⟨v', w', hr, h2, h3, h4⟩ := run_append_own (P := P) w base t ty e i z i.size i.bytes ht hi hz rfl rfl hzs hsz v n xs hown ad m c news hl hnews h1 hm hb1 hbase
  refine ⟨v', w', hr, h2, h3, fun g hg => ?_⟩
  rcases hown.2 with ⟨rfl, rfl⟩ | ⟨g', cap, cur, rfl, hbg, hg', hnc, hcm, hcs, htake⟩
  · by_cases hm0 : m = 0
    · rw [h4.2 ⟨rfl, hm0⟩] at hg; cases hg
    · have := run_append_nil (P := P) w t ty e i z ht hi hz ad m c news hl hnews (by omega) (by omega) (by have hb3 := hb1; rw [Nat.zero_add] at hb3; omega)
      rw [hr] at this
      cases this
      cases hg
      exact .inr (Nat.le_refl _)
  · by_cases hroom : n + m ≤ cap
    · have hfit : n * i.size + news.length ≤ cur.size := by rw [hl, hcs, ← Nat.add_mul]; exact Nat.mul_le_mul_right _ hroom
      have := run_append_room (P := P) w t ty e i ht hi g' n cap cur hg' ad m c news hl hnews h1 hroom hfit
      rw [hr] at this
      cases this
      exact .inl hg
    · have holds : ∀ (j : Nat) u, xs[j]? = some u → w.cell? ((⟨g', 0, none⟩ : Addr).add j) = some u := hown.cells (g := g') rfl
      have := run_append_grow (P := P) w t ty e i z ht hi hz ⟨g', 0, none⟩ n cap xs hown.1 holds ad m c news hl hnews (by omega) (by omega) (growslice_fits (by omega) hb1)
      rw [hr] at this
      cases this
      cases hg
      exact .inr (Nat.le_refl _)
theorem run_append_none {base : Nat} {t ty e : TypeId} {i : TypeInfo} (ht : P.underlying t = some (.slice e)) (hi : P.info? e = some i)
    {v : Value} {n : Nat} {xs : List Value} (hown : w.ownsRow base e i.size v n xs) : (Builtin.append_ #[t, t] ty #[v, .slice none 0 0]).run P w = .ok v w := by
  rcases hown.2 with ⟨rfl, rfl⟩ | ⟨g', cap, cur, rfl, hbg, hg', hnc, hcm, hcs, htake⟩
  · simp [Builtin.append_, run_underlying ht, run_sizeOf' hi, Builtin.lenOf, Builtin.firstCells, loadCells, loadCellsFrom]
  · simp [Builtin.append_, run_underlying ht, run_sizeOf' hi, Builtin.lenOf, Builtin.firstCells, hnc, storeCells]

/-- The value v is a slice of the elements ys, cell by cell. -/
def Elems (S : Nat → Prop) (w : World) (sz : Nat) (ys : List PV) (v : Value) : Prop :=
  (v = .slice none 0 0 ∧ ys = []) ∨ ∃ (ad : Addr) (cap : Nat) (news : List Value), v = .slice (some ad) ys.length cap ∧ news.length = ys.length * sz ∧ (∀ (j : Nat) u, news[j]? = some u → w.cell? (ad.add j) = some u) ∧ (∀ u ∈ news, u.oneCell' = true) ∧
    ∀ (k j : Nat) x c, ys[k]? = some x → x.cells[j]? = some c → ∃ u, news[k * sz + j]? = some u ∧ VRel S w c u
theorem VRel.elems {sz : Nat} {ys : List PV} {v : Value} (h : VRel S w (.sl sz ys) v) (hs : 0 < sz) : Elems S w sz ys v ∧ ∀ x ∈ ys, x.cells.length = sz := by
  obtain ⟨a, cap, rfl, hc, hm, ha, hnil, hst, hel⟩ := h.sl_cells
  refine ⟨?_, hst⟩
  cases a with
  | none =>
    have h0 := hnil rfl
    have : ys = [] := List.eq_nil_of_length_eq_zero (by omega)
    subst this; subst h0
    exact .inl ⟨rfl, rfl⟩
  | some ad =>
    rcases Nat.eq_zero_or_pos ys.length with hy0 | hyp
    · have : ys = [] := List.eq_nil_of_length_eq_zero hy0
      subst this
      exact .inr ⟨ad, cap, [], rfl, by simp, by simp, by simp, by simp⟩
    obtain ⟨b, o, sp⟩ := ad
    obtain ⟨hS, rfl⟩ := ha hyp _ _ _ rfl
    have cell : ∀ j, j < ys.length * sz → ∃ x c u, ys[j / sz]? = some x ∧ x.cells[j % sz]? = some c ∧ w.cell? ⟨b, o + j, none⟩ = some u ∧ VRel S w c u ∧ u.oneCell' = true := fun j hj => by
      have hk : j / sz < ys.length := Nat.div_lt_of_lt_mul (by rw [Nat.mul_comm]; exact hj)
      have hx := List.getElem?_eq_getElem hk
      obtain ⟨b', o', vs, e, hl, hcell⟩ := hel _ _ hx
      cases e
      have hxl := hst _ (List.mem_of_getElem? hx)
      have hr : j % sz < (ys[j / sz]).cells.length := by rw [hxl]; exact Nat.mod_lt _ hs
      obtain ⟨u, hu, hr'⟩ := hl.get (List.getElem?_eq_getElem hr)
      have := hcell _ u hu
      refine ⟨_, _, u, hx, List.getElem?_eq_getElem hr, ?_, hr', hl.2.1 u (List.mem_of_getElem? hu)⟩
      rw [Nat.add_assoc] at this
      rwa [show j / sz * sz + j % sz = j from Nat.div_add_mod' j sz] at this
    refine .inr ⟨⟨b, o, none⟩, cap, (List.range (ys.length * sz)).map fun j => (w.cell? ⟨b, o + j, none⟩).getD undef, rfl, by simp, fun j u hj => ?_, fun u hu => ?_, fun k j x c hx hc => ?_⟩
    · rw [List.getElem?_map] at hj
      cases hr : (List.range (ys.length * sz))[j]? with
      | none => rw [hr] at hj; cases hj
      | some j' =>
        obtain ⟨hlt, e⟩ := List.getElem?_eq_some_iff.1 hr
        simp at e hlt
        subst e
        rw [hr] at hj
        obtain ⟨x, c, u', _, _, h1, _, _⟩ := cell j hlt
        simp [h1] at hj
        subst hj
        rw [Addr.add_lit]; exact h1
    · simp only [List.mem_map, List.mem_range] at hu
      obtain ⟨j, hj, rfl⟩ := hu
      obtain ⟨x, c, u', _, _, h1, _, h2⟩ := cell j hj
      rw [h1]; exact h2
    · have hk : k < ys.length := (List.getElem?_eq_some_iff.1 hx).1
      have hxl := hst _ (List.mem_of_getElem? hx)
      have hj : j < sz := by rw [← hxl]; exact (List.getElem?_eq_some_iff.1 hc).1
      have hlt : k * sz + j < ys.length * sz := by
        have : (k + 1) * sz ≤ ys.length * sz := Nat.mul_le_mul_right _ hk
        rw [Nat.add_mul] at this; omega
      have hdiv : (k * sz + j) / sz = k := by rw [Nat.mul_comm, Nat.mul_add_div hs, Nat.div_eq_of_lt hj]; rfl
      have hmod : (k * sz + j) % sz = j := by rw [Nat.mul_comm, Nat.mul_add_mod, Nat.mod_eq_of_lt hj]
      obtain ⟨x', c', u, hx', hc', h1, h2, _⟩ := cell _ hlt
      rw [hdiv, hx] at hx'; cases hx'
      rw [hmod, hc] at hc'; cases hc'
      refine ⟨u, ?_, h2⟩
      rw [List.getElem?_map, List.getElem?_range hlt]
      simp [h1]
theorem BRel.elems {base i e sz : Nat} {ys : List PV} (h : BRel base μ S w i (.row e sz ys)) : ∃ mv, μ i = some mv ∧ Elems S w sz ys mv ∧ (∀ x ∈ ys, x.cells.length = sz) ∧ 0 < sz := by
  obtain ⟨mv, vs, hmv, h1, h2, h3, h4, h5, h6⟩ := h
  refine ⟨mv, hmv, ?_, h4, h2⟩
  rcases h1.2 with ⟨rfl, hn⟩ | ⟨g, cap, cur, rfl, hb, hg, hn, hcm, hcs, htk⟩
  · exact .inl ⟨rfl, List.eq_nil_of_length_eq_zero hn⟩
  · exact .inr ⟨_, cap, vs, rfl, h1.1, h1.cells (g := g) rfl, h5, h6⟩
/-- A row, as a slice that is not written any more. -/
theorem BRel.row_sl {base i e sz : Nat} {ys : List PV} {S' : Nat → Prop} (h : BRel base μ S w i (.row e sz ys)) (hS : ∀ g, S g → S' g) (hS' : ∀ g, footO (μ i) = some g → S' g) : ∃ mv, μ i = some mv ∧ VRel S' w (.sl sz ys) mv := by
  have h0 := h
  obtain ⟨mv, vs, hmv, h1, h2, h3, h4, h5, h6⟩ := h
  refine ⟨mv, hmv, ?_⟩
  rcases h1.2 with ⟨rfl, hn⟩ | ⟨g, cap, cur, hv, hb, hg, hn, hcm, hcs, htk⟩
  · obtain rfl : ys = [] := List.eq_nil_of_length_eq_zero hn
    exact .slnil _
  · subst hv
    refine .mk_sl (hS' g (by rw [hmv]; rfl)) hn hcm h4 (fun k x hx => ?_)
    obtain ⟨g', n', cap', vs', hm', hl, hxl, hcell⟩ := h0.row_elem hx
    rw [hmv] at hm'; cases hm'
    refine ⟨vs', ⟨hl.1, hl.2.1, fun j c v hc hv => (hl.2.2 j c v hc hv).mono hS (fun _ _ => rfl)⟩, fun j u hj => ?_⟩
    rw [Nat.zero_add]; exact hcell j u hj
theorem RelM.freeze {b e s : Nat} {xs : List PV} (R : RelM G w0 S0 μ S st a w) (hb : st.heap[b]? = some (.row e s xs)) :
    RelM G w0 S0 μ (fun g => S g ∨ footO (μ b) = some g) (st.freeze b s xs) a w := by
  have hB := R.heap _ _ hb
  obtain ⟨mv, hmv, hsl⟩ := hB.row_sl (S' := fun g => S g ∨ footO (μ b) = some g) (fun _ h => .inl h) (fun _ h => .inr h)
  refine R.subB hb rfl (fun _ _ => rfl) (Below.refl _ _) (fun _ h => .inl h) (fun _ h => h) (fun _ _ _ => rfl) (fun _ _ h => by cases h) (fun a n c h => ?_) trivial
  rw [hmv] at h; cases h
  exact .p _ _ hsl

theorem aElems_some {ρ : Type} {r : ρ} {sz : Nat} {x : Operand} {k : List PV → Option ρ} (R : RelM G w0 S0 μ S st a w) (hs : 0 < sz) (h : aElems st.heap sz (st.ev x) k = some r) :
    ∃ ys, k ys = some r ∧ Elems S w sz ys (a.eval x) ∧ ∀ x ∈ ys, x.cells.length = sz := by
  have hx := R.ev x
  unfold aElems at h
  split at h
  · rename_i c e
    rw [e] at hx
    simp only [onSome_some] at h
    obtain ⟨bl, hb, h⟩ := h
    split at h
    · simp only [aGd_some, decide_eq_true_eq] at h
      obtain ⟨rfl, h⟩ := h
      obtain ⟨mv, hmv, he, hl, _⟩ := (R.heap _ _ hb).elems
      refine ⟨_, h, ?_, hl⟩
      generalize a.eval x = v at hx
      cases hx with
      | own c a n cp hm => rw [hmv] at hm; cases hm; exact he
    · cases h
  · rename_i v e
    rw [e] at hx
    simp only [onSl_some] at h
    obtain ⟨ys, hys, h⟩ := h
    cases hx with
    | p _ _ hx =>
    have := (hx.empty hys).elems hs
    exact ⟨ys, h, this.1, this.2⟩
  · cases h
theorem aAppend_ok {ρ : Type} {r : ρ} {E : Env} {t ty : TypeId} {s x : Operand} {k : St → AV → Option ρ} (R : RelM G w0 S0 μ S st a w) (h : aAppend E t st (st.ev s) (st.ev x) k = some r) :
    ∃ st' c v' w' μ', k st' c = some r ∧ (Builtin.append_ #[t, t] ty #[a.eval s, a.eval x]).run E.P w = .ok v' w' ∧ RelM G w0 S0 μ' S st' a w' ∧ ARel μ' S w' c v' := by
  unfold aAppend at h
  split at h
  · rename_i e ht
    simp only [onSome_some, aGd_some, decide_eq_true_eq] at h
    obtain ⟨i, hi, z, hz, hzs, hsz, h⟩ := h
    obtain ⟨ys, h, hel, hyl⟩ := aElems_some R hsz h
    have hs := R.ev s
    split at h
    · rename_i b es
      rw [es] at hs
      simp only [onSome_some] at h
      obtain ⟨bl, hb, h⟩ := h
      split at h
      · rename_i e' st' xs
        simp only [aGd_some, decide_eq_true_eq] at h
        obtain ⟨rfl, rfl, hbd, h⟩ := h
        have hB := R.heap _ _ hb
        have hB0 := hB
        obtain ⟨mv, vs, hmv, hown, h2, h3, h4, h5, h6⟩ := hB
        have hse : a.eval s = mv := by
          generalize a.eval s = v at hs
          cases hs with | own c a n cp hm => rw [hmv] at hm; cases hm; rfl
        rcases hel with ⟨hx, rfl⟩ | ⟨ad, cap, news, hx, hl, hc, h1, hr⟩
        · refine ⟨_, _, mv, w, μ, h, by rw [hse, hx]; exact run_append_none ht hi hown, ?_, ?_⟩
          · refine R.subB hb rfl (fun _ _ => rfl) (Below.refl _ _) (fun _ h => h) (fun _ h => .inl h) (fun _ _ _ => rfl) (fun _ h _ => .inl h) (fun _ _ _ _ => .top _) ?_
            rw [List.append_nil]; exact hB0
          · obtain ⟨ad, cp, hv⟩ := own_slice hown
            rw [hv]; exact .own _ _ _ _ (by rw [hmv, hv])
        · obtain ⟨v', w', hrun, hown', hgr, hft⟩ := run_append' (P := E.P) (ty := ty) ht hi hz hzs hsz hown (c := cap) hl hc h1 hbd R.below.size
          have hfm : footO (μ b) = foot mv := by rw [hmv]; rfl
          have hbw : Below w0.heap.size w w' := (Below.refl _ w).grown hgr R.below.size (fun k hk => by
            have := (foot_own.1 hk).1
            exact (hB0.foot_lt rfl k (by rw [hfm]; exact this)).2.1)
          have hw : ∀ g, g < w.heap.size → footO (μ b) ≠ some g → w'.heap[g]? = w.heap[g]? := fun g hg hne => hgr.block g hg (fun e => hne (by rw [hfm]; exact (foot_own.1 e.symm).1))
          have hwS : ∀ g, S g → w'.heap[g]? = w.heap[g]? := fun g hg => hw g (R.s2 g hg) (fun e => (hB0.foot_lt rfl g e).2.2 hg)
          obtain ⟨ad', cp', hv'⟩ := own_slice hown'
          refine ⟨_, _, v', w', upd μ b v', h, by rw [hse, hx]; exact hrun, ?_, ?_⟩
          · refine R.subB hb rfl (fun c hc => upd_other _ hc) hbw (fun _ h => h) (fun _ h => .inl h) hw (fun g hg _ => ?_) (fun _ _ _ _ => .top _) ?_
            · rw [upd_same] at hg
              rw [hfm]; exact hft g hg
            · refine ⟨v', _, upd_same _ _, by rw [List.length_append]; exact hown', h2, fun g hg hS => ?_, fun x hx => ?_, fun u hu => ?_, fun q j x c hx hc' => ?_⟩
              · rcases hft g hg with h | h
                · exact h3 g h hS
                · have := R.s2 g hS; omega
              · rcases List.mem_append.1 hx with h | h
                · exact h4 x h
                · exact hyl x h
              · rcases List.mem_append.1 hu with h | h
                · exact h5 u h
                · exact h1 u h
              · by_cases hq : q < xs.length
                · rw [List.getElem?_append_left hq] at hx
                  obtain ⟨u, hu, hr'⟩ := h6 q j x c hx hc'
                  refine ⟨u, ?_, hr'.mono (fun _ h => h) hwS⟩
                  rw [List.getElem?_append_left (List.getElem?_eq_some_iff.1 hu).1]; exact hu
                · rw [List.getElem?_append_right (by omega)] at hx
                  obtain ⟨u, hu, hr'⟩ := hr _ j x c hx hc'
                  refine ⟨u, ?_, hr'.mono (fun _ h => h) hwS⟩
                  have hvl := hown.1
                  have hge : xs.length * i.size ≤ q * i.size := Nat.mul_le_mul_right _ (by omega)
                  rw [List.getElem?_append_right (by omega), hvl]
                  rw [show q * i.size + j - xs.length * i.size = (q - xs.length) * i.size + j by rw [Nat.sub_mul]; omega]
                  exact hu
          · rw [hv']; exact .own _ _ _ _ (by rw [upd_same])
      · cases h
    · rename_i es
      rw [es] at hs
      simp only [aGd_some, decide_eq_true_eq] at h
      obtain ⟨hbd, h⟩ := h
      have hse : a.eval s = .slice none 0 0 := by
        generalize a.eval s = v at hs
        cases hs with | p _ _ hs => cases hs; rfl
      have hown : w.ownsRow w0.heap.size e i.size (.slice none 0 0) 0 [] := World.ownsRow_nil _ _ _ _
      rcases hel with ⟨hx, rfl⟩ | ⟨ad, cap, news, hx, hl, hc, h1, hr⟩
      · refine ⟨_, _, .slice none 0 0, w, upd μ st.heap.length (.slice none 0 0), h, by rw [hse, hx]; exact run_append_none ht hi hown, ?_, .own _ _ _ _ (upd_same _ _)⟩
        refine R.newB (Below.refl _ _) (fun g hg => by cases hg) ?_
        exact ⟨_, [], upd_same _ _, hown, hsz, (fun g hg => by cases hg), by simp, by simp, by simp⟩
      · obtain ⟨v', w', hrun, hown', hgr, hft⟩ := run_append' (P := E.P) (ty := ty) ht hi hz hzs hsz hown (c := cap) hl hc h1 (by rw [Nat.zero_add]; exact hbd) R.below.size
        have hbw : Below w.heap.size w w' := ⟨hgr.os, hgr.tape, hgr.output, hgr.size, fun k hk => hgr.block k hk (by simp [Value.ownBlock])⟩
        have hwS : ∀ g, S g → w'.heap[g]? = w.heap[g]? := fun g hg => hbw.block g (R.s2 g hg)
        obtain ⟨ad', cp', hv'⟩ := own_slice hown'
        have hft' : ∀ g, foot v' = some g → w.heap.size ≤ g := fun g hg => by
          rcases hft g hg with h | h
          · cases h
          · exact h
        refine ⟨_, _, v', w', upd μ st.heap.length v', h, by rw [hse, hx]; exact hrun, ?_, ?_⟩
        · refine R.newB hbw hft' ?_
          refine ⟨v', news, upd_same _ _, by simpa using hown', hsz, fun g hg hS => ?_, hyl, h1, fun q j x c hx hc' => ?_⟩
          · have := hft' g hg
            have := R.s2 g hS
            omega
          · obtain ⟨u, hu, hr'⟩ := hr q j x c hx hc'
            exact ⟨u, hu, hr'.mono (fun _ h => h) hwS⟩
        · rw [hv']; exact .own _ _ _ _ (by rw [upd_same])
    · cases h
  · cases h

/-- An empty literal: a row of the call's own. -/
theorem aBuildSlice_ok {ρ : Type} {r : ρ} {E : Env} {t : TypeId} {parts : Array (Nat × Operand)} {o : Oper} {k : St → Option ρ} (R : RelM G w0 S0 μ S st a w) (ho : o.op = .buildSlice t 0 parts) (h : aOp E o st k = some r) :
    ∃ st' c v w' μ', k (st'.put o.dst c) = some r ∧ (Instr.buildSlice t 0 (parts.map fun (i, x) => (i, a.eval x))).run E.P w = .ok v w' ∧ RelM G w0 S0 μ' S st' a w' ∧ ARel μ' S w' c v := by
  unfold aOp at h
  simp only [ho] at h
  split at h
  · rename_i e ht
    simp only [onSome_some, aGd_some, decide_eq_true_eq] at h
    obtain ⟨i, hi, z, hz, hs, hzs, hr, h⟩ := h
    have hp : parts.toList = [] := by simpa using hr
    have hb := alloc_below w (.cells #[] e)
    refine ⟨_, _, .slice (some ⟨w.heap.size, 0, none⟩) 0 0, w.alloc (.cells #[] e), _, h, ?_, R.newB hb (v := .slice (some ⟨w.heap.size, 0, none⟩) 0 0) (fun g hg => by cases hg; exact Nat.le_refl _) ?_, .own _ _ _ _ (upd_same _ _)⟩
    · have hp' : parts = #[] := Array.toList_eq_nil_iff.1 hp
      subst hp'
      have h0 : Array.map (fun _ => (default : Value)) (Array.range 0) = #[] := Array.eq_empty_of_size_eq_zero (by simp)
      simp [Instr.buildSlice, run_underlying ht, run_sizeOf' hi, Instr.fill, newRow, h0]
    · exact ⟨_, [], upd_same _ _, World.ownsRow_made w #[] 0 R.below.size (by decide) (by simp), hs, (fun g hg hS => by cases hg; exact absurd (R.s2 _ hS) (Nat.lt_irrefl _)), by simp, by simp, by simp⟩
  · cases h
/-! ## Every operation -/
theorem aArgsO_some {ρ : Type} {r : ρ} (R : RelM G w0 S0 μ S st a w) : ∀ {l : List AV} {vs : List Value} {k : List PV → List (Nat × Nat × List PV) → Option ρ}, l.length = vs.length → (∀ (i : Nat) c v, l[i]? = some c → vs[i]? = some v → ARel μ S w c v) → aArgsO st.heap l k = some r →
    ∃ xs bs, k xs bs = some r ∧ xs.length = vs.length ∧ (∀ p ∈ bs, ∃ e, st.heap[p.1]? = some (.row e p.2.1 p.2.2)) ∧ bs.Pairwise (fun p q => p.1 ≠ q.1) ∧
      ∀ S'' : Nat → Prop, (∀ g, S g → S'' g) → (∀ p ∈ bs, ∀ g, footO (μ p.1) = some g → S'' g) → ∀ (i : Nat) c v, xs[i]? = some c → vs[i]? = some v → VRel S'' w c v
  | [], [], k, _, _, h => ⟨[], [], h, rfl, by simp, .nil, by simp⟩
  | y :: l, u :: vs, k, hlen, hrel, h => by
    have ho := hrel 0 y u rfl rfl
    have hrel' : ∀ (i : Nat) c v, l[i]? = some c → vs[i]? = some v → ARel μ S w c v := fun i c v hc hv => hrel (i + 1) c v (by simpa using hc) (by simpa using hv)
    have hlen' : l.length = vs.length := by simpa using hlen
    have one : ∀ {x : PV}, y = .p x → (aArgsO st.heap l fun ys bs => k (x :: ys) bs) = some r → ∃ xs bs, k xs bs = some r ∧ xs.length = (u :: vs).length ∧ (∀ p ∈ bs, ∃ e, st.heap[p.1]? = some (.row e p.2.1 p.2.2)) ∧ bs.Pairwise (fun p q => p.1 ≠ q.1) ∧
      ∀ S'' : Nat → Prop, (∀ g, S g → S'' g) → (∀ p ∈ bs, ∀ g, footO (μ p.1) = some g → S'' g) → ∀ (i : Nat) c v, xs[i]? = some c → (u :: vs)[i]? = some v → VRel S'' w c v := by
      intro x hx h
      obtain ⟨xs, bs, h1, h2, h3, hp, h4⟩ := aArgsO_some R hlen' hrel' h
      refine ⟨x :: xs, bs, h1, by simp [h2], h3, hp, fun S'' hS hb i c v hc hv => ?_⟩
      cases i with
      | zero =>
        simp at hc hv; subst hc hv
        rw [hx] at ho
        cases ho with | p _ _ ho => exact ho.mono hS (fun _ _ => rfl)
      | succ i => exact h4 S'' hS hb i c v (by simpa using hc) (by simpa using hv)
    unfold aArgsO at h
    split at h
    · rename_i e; cases e
    · rename_i b l' e
      simp only [List.cons.injEq] at e
      obtain ⟨e1, rfl⟩ := e
      simp only [onSome_some] at h
      obtain ⟨bl, hb, h⟩ := h
      split at h
      · rename_i e' s xs'
        obtain ⟨xs, bs, h1, h2, h3, hpw, h4⟩ := aArgsO_some R hlen' hrel' h
        simp only [aGd_some, List.all_eq_true, bne_iff_ne, ne_eq] at h1
        obtain ⟨hne, h1⟩ := h1
        refine ⟨_, _, h1, by simp [h2], fun p hp => ?_, .cons (fun q hq e => hne q hq e.symm) hpw, fun S'' hS hbs i c v hc hv => ?_⟩
        · rcases List.mem_cons.1 hp with rfl | hp
          · exact ⟨e', hb⟩
          · exact h3 p hp
        · cases i with
          | zero =>
            simp at hc hv; subst hc hv
            rw [e1] at ho
            obtain ⟨mv, hmv, hr⟩ := (R.heap _ _ hb).row_sl hS (hbs (b, s, xs') (by simp))
            cases ho with | own b a n c hm => rw [hmv] at hm; cases hm; exact hr
          | succ i => exact h4 S'' hS (fun p hp => hbs p (by simp [hp])) i c v (by simpa using hc) (by simpa using hv)
      · cases h
    · rename_i x l' _ e
      simp only [List.cons.injEq] at e
      obtain ⟨e1, rfl⟩ := e
      simp only [onP_some] at h
      obtain ⟨x', e2, h⟩ := h
      exact one (by rw [e1, e2]) h
theorem onFn_some {ρ : Type} {r : ρ} {x : AV} {v : Value} {k : FuncId → List AV → Option ρ} (hx : ARel μ S w x v) (h : onFn x k = some r) :
    ∃ f cs us, k f cs = some r ∧ v = .func (.func f) #[] (List.toArray us) ∧ cs.length = us.length ∧ ∀ (i : Nat) c v, cs[i]? = some c → us[i]? = some v → ARel μ S w c v := by
  unfold onFn at h
  split at h
  · cases hx with | p _ _ hx => cases hx; exact ⟨_, [], [], h, rfl, rfl, by simp⟩
  · cases hx with | clo f cs vs hl hh => exact ⟨_, _, _, h, rfl, hl, hh⟩
  · cases h
theorem resolve_clo {ρ : Operand → Value} {c : Call} {t : TypeId} {f : Operand} {g : FuncId} {us : Array Value} (hc : c.callee = .value f) (hf : ρ f = .func (.func g) #[] us) :
    resolve ρ c t = pure { target := .fn (.func g) us, args := c.args.map ρ } := by
  simp [resolve, hc, hf, Deferred.ofValue]
/-! ## make -/
theorem madeCells_get {z : Array Value} {n i j : Nat} (hz : 0 < z.size) (hi : i < n) (hj : j < z.size) : (madeCells z (n * z.size)).toList[i * z.size + j]? = z.toList[j]? := by
  have hlt : i * z.size + j < n * z.size := by
    have : (i + 1) * z.size ≤ n * z.size := Nat.mul_le_mul_right _ hi
    rw [Nat.succ_mul] at this; omega
  have hm : (i * z.size + j) % z.size = j := by rw [Nat.mul_comm, Nat.mul_add_mod, Nat.mod_eq_of_lt hj]
  simp [madeCells, hlt, hm, hj]
theorem onZero_some {ρ : Type} {r : ρ} {z : Value} {n : Nat} {k : PV → Option ρ} (h : onZero z n k = some r) : ∃ x, k x = some r ∧ x.cells.length = n ∧ ∀ (S : Nat → Prop) (w : World), ListRelP S w x.cells z.cells.toList := by
  unfold onZero at h
  split at h
  · rename_i x hx
    simp only [aGd_some, decide_eq_true_eq] at h
    obtain ⟨h1, h2, h⟩ := h
    refine ⟨x, h, h1, fun S w => ?_⟩
    have := AV.cells_rel (μ := fun _ => none) (S := S) (w := w) (x := .p x) (v := z) (by rw [← hx]; exact ofConst_rel z) (by rw [p_cells]; exact h2)
    rw [p_cells] at this
    exact this.p
  · cases h
theorem aMakeSlice_ok {ρ : Type} {r : ρ} {E : Env} {t : TypeId} {len cap : Operand} {o : Oper} {k : St → Option ρ} (R : RelM G w0 S0 μ S st a w) (ho : o.op = .makeSlice t len cap) (h : aOp E o st k = some r) :
    ∃ st' c v w' μ', k (st'.put o.dst c) = some r ∧ (Instr.makeSlice t (a.eval len) (a.eval cap)).run E.P w = .ok v w' ∧ RelM G w0 S0 μ' S st' a w' ∧ ARel μ' S w' c v := by
  unfold aOp at h
  simp only [ho] at h
  split at h
  · rename_i e ht
    simp only [onSome_some, aGd_some, decide_eq_true_eq] at h
    obtain ⟨i, hi, z, hz, hs, hzs, h⟩ := h
    obtain ⟨zp, h, hzl, hzr⟩ := onZero_some h
    simp only [onP_some, onInt_some, aGd_some, decide_eq_true_eq, Bool.or_eq_true] at h
    obtain ⟨_, hl, l, rfl, _, hc, c, rfl, h0, hlc, hor, hb, h⟩ := h
    have hsame : sameOp len cap = true → l = c := fun h => by
      rw [sameOp_eq h, hc] at hl
      cases hl; rfl
    replace hlc : l ≤ c := by
      rcases hlc with h | h
      · rw [hsame h]; exact Int.le_refl _
      · exact h
    replace hor : l = c ∨ l = 0 := by
      rcases hor with h | h
      · exact .inl (hsame h)
      · exact h
    have hlv := R.ev len
    have hcv := R.ev cap
    rw [hl] at hlv
    rw [hc] at hcv
    have hlv := hlv.int
    have hcv := hcv.int
    obtain ⟨c, rfl⟩ := Int.eq_ofNat_of_zero_le (Int.le_trans h0 hlc)
    have hb0 : c * i.bytes ≤ 140737488355328 ∧ c ≤ 140737488355328 := by
      have hb' : c * (i.bytes + 1) ≤ 140737488355328 := by
        have : ((c * (i.bytes + 1) : Nat) : Int) ≤ 140737488355328 := by simpa using hb
        omega
      rw [Nat.mul_add] at hb'; omega
    have hcm : c ≤ maxLen := by simp only [maxLen]; omega
    have hby : i.bytes * c ≤ 281474976710656 := by rw [Nat.mul_comm]; omega
    have key : ∃ w', (Instr.makeSlice t (.int .i64 l) (.int .i64 (c : Int))).run E.P w = .ok (.slice (some ⟨w.heap.size, 0, none⟩) l.toNat c) w' ∧ w'.ownsRow w0.heap.size e i.size (.slice (some ⟨w.heap.size, 0, none⟩) l.toNat c) l.toNat (madeCells z.cells (l.toNat * i.size)).toList ∧ w.grownBy w' none := by
      rcases hor with h | h
      · subst h
        exact run_make_full w w0.heap.size t e i z i.size ht hi hz rfl .i64 .i64 c hby hcm R.below.size
      · subst h
        obtain ⟨w', h1, h2, h3⟩ := run_make_own w w0.heap.size t e i z i.size ht hi hz rfl .i64 .i64 c hby hcm R.below.size
        refine ⟨w', h1, ?_, h3⟩
        have : (madeCells z.cells ((0 : Int).toNat * i.size)).toList = [] := by simp [madeCells]
        rw [this]; exact h2
    obtain ⟨w', hrun, hown, hgr⟩ := key
    have hbw : Below w.heap.size w w' := (Below.refl _ w).grown hgr (Nat.le_refl _) (fun k hk => by cases hk)
    refine ⟨_, _, _, w', _, h, by rw [hlv, hcv]; exact hrun, R.newB hbw (v := .slice (some ⟨w.heap.size, 0, none⟩) l.toNat c) (fun g hg => by cases hg; exact Nat.le_refl _) ?_, .own _ _ _ _ (upd_same _ _)⟩
    refine ⟨_, _, upd_same _ _, by rw [List.length_replicate]; exact hown, hs, fun g hg hS => by cases hg; exact absurd (R.s2 _ hS) (Nat.lt_irrefl _), fun x hx => ?_, fun v hv => ?_, fun q j x c hx hcj => ?_⟩
    · rw [(List.mem_replicate.1 hx).2]; exact hzl
    · obtain ⟨q, hq⟩ := List.getElem?_of_mem hv
      have hz' := hzr S w
      simp only [madeCells, Array.toList_map, List.getElem?_map] at hq
      cases hr : (Array.range (l.toNat * i.size)).toList[q]? with
      | none => rw [hr] at hq; cases hq
      | some m =>
        rw [hr] at hq; cases hq
        have hlt : m % z.cells.size < z.cells.size := Nat.mod_lt _ (by omega)
        refine hz'.2.1 _ ?_
        show z.cells[m % z.cells.size]! ∈ z.cells.toList
        rw [getElem!_pos z.cells _ hlt]; simp
    · rw [List.getElem?_replicate] at hx
      split at hx
      · rename_i hq
        cases hx
        have hj : j < z.cells.size := by have := (List.getElem?_eq_some_iff.1 hcj).1; omega
        obtain ⟨v, hv, hr⟩ := (hzr S w').get hcj
        refine ⟨v, ?_, hr⟩
        have := madeCells_get (z := z.cells) (n := l.toNat) (i := q) (j := j) (by omega) hq hj
        rw [hzs] at this
        rw [this]; exact hv
      · cases hx
  · cases h
theorem RelM.freezeAll : ∀ {bs : List (Nat × Nat × List PV)} {st : St} {S : Nat → Prop}, RelM G w0 S0 μ S st a w → (∀ p ∈ bs, ∃ e, st.heap[p.1]? = some (.row e p.2.1 p.2.2)) → bs.Pairwise (fun p q => p.1 ≠ q.1) →
    ∃ S'', RelM G w0 S0 μ S'' (st.freezeAll bs) a w ∧ (∀ g, S g → S'' g) ∧ ∀ p ∈ bs, ∀ g, footO (μ p.1) = some g → S'' g
  | [], st, S, R, _, _ => ⟨S, R, fun _ h => h, by simp⟩
  | (b, s, xs) :: bs, st, S, R, hb, hp => by
    obtain ⟨e, he⟩ := hb (b, s, xs) (by simp)
    cases hp with
    | cons hne hp =>
    obtain ⟨S'', R'', g1, g2⟩ := RelM.freezeAll (bs := bs) (R.freeze he) (fun p hp => by
      obtain ⟨e', he'⟩ := hb p (by simp [hp])
      refine ⟨e', ?_⟩
      have : b ≠ p.1 := hne p hp
      simp only [St.freeze, St.setB, St.sub, List.getElem?_set, if_neg this, List.getElem?_map, he']
      rfl) hp
    refine ⟨S'', R'', fun g h => g1 g (.inl h), fun p hp g hg => ?_⟩
    rcases List.mem_cons.1 hp with rfl | hp
    · exact g1 g (.inr hg)
    · exact g2 p hp g hg
theorem args2' {α β : Type} {f : α → β} {l : List α} {x y : β} (h : l.map f = [x, y]) : ∃ o o', l = [o, o'] ∧ f o = x ∧ f o' = y := by
  match l, h with | [o, o'], h => exact ⟨o, o', rfl, by simpa using h⟩
theorem aOp_ok {ρ : Type} {r : ρ} {E : Env} (hE : E.ok G) {o : Oper} {k : St → Option ρ} (R : RelM G w0 S0 μ S st a w) (h : aOp E o st k = some r) :
    ∃ st', k st' = some r ∧ ∀ Q, o.wp E.P a w (Good G w0 S0 st') Q := by
  have hop : ∀ op, o.op = op → execOp a.eval o = execOp a.eval { o with op := op } := fun op h => by subst h; rfl
  have other : (aVal E o st.ev st.heap fun v => k (st.put o.dst v)) = some r → ∃ st', k st' = some r ∧ ∀ Q, o.wp E.P a w (Good G w0 S0 st') Q := fun h => by
    obtain ⟨c, hc, h⟩ := aVal_some h
    exact ⟨_, h, fun Q => (aVal_ok hE R hc).wp hE R⟩
  have h0 := h
  unfold aOp at h
  split at h
  · rename_i e v ho
    simp only [aGd_some] at h
    obtain ⟨h1, h⟩ := h
    have hl := AV.cells_rel (R.ev v) h1
    have R' := R.newBox e hl
    refine ⟨_, h, fun Q => aWp (v := .value (.pointer (some ⟨w.heap.size, 0, none⟩))) (w' := w.alloc (.cells (a.eval v).cells.toList.toArray e)) ?_ (by simp) ⟨_, _, R'.put o.dst (.box _ _ _ (upd_same _ _))⟩⟩
    rw [hop _ ho]
    simp [execOp, Instr.box, newVar, newRow]
  · rename_i e ho
    simp only [onSome_some, aGd_some] at h
    obtain ⟨i, hi, z, hz, h1, h⟩ := h
    have hl := zero_list (μ := μ) (S := S) (w := w) h1
    have R' := R.newBox e hl
    refine ⟨_, h, fun Q => aWp (v := .value (.pointer (some ⟨w.heap.size, 0, none⟩))) (w' := w.alloc (.cells z.cells.toList.toArray e)) ?_ (by simp) ⟨_, _, R'.put o.dst (.box _ _ _ (upd_same _ _))⟩⟩
    rw [hop _ ho]
    have hzr : (zeroValue e).run E.P w = .ok z w := by simp [zeroValue, typeInfo, hi, hz]
    simp [execOp, Instr.alloc, hzr, newVar, newRow]
  · rename_i t x y ho
    obtain ⟨st', w', h, hr, R'⟩ := aStore_ok hE R h
    refine ⟨_, h, fun Q => aWp (v := .skip) (w' := w') ?_ (by simp) ⟨_, _, R'.put o.dst (.top _)⟩⟩
    rw [hop _ ho]
    simp [execOp, hr]
  · rename_i t parts ho
    obtain ⟨st', c, v, w', μ', h, hr, R', hc⟩ := aBuildSlice_ok R ho h0
    refine ⟨_, h, fun Q => aWp (v := .value v) (w' := w') ?_ (by simp) ⟨_, _, R'.put o.dst hc⟩⟩
    rw [hop _ ho]
    simp only [execOp, Sem.run_bind, hr, Result.andThen_ok, Sem.run_pure]
  · rename_i t len cap ho
    obtain ⟨st', c, v, w', μ', h, hr, R', hc⟩ := aMakeSlice_ok R ho h0
    refine ⟨_, h, fun Q => aWp (v := .value v) (w' := w') ?_ (by simp) ⟨_, _, R'.put o.dst hc⟩⟩
    rw [hop _ ho]
    simp only [execOp, Sem.run_bind, hr, Result.andThen_ok, Sem.run_pure]
  · rename_i t x ho
    split at h
    · rename_i ht
      simp only [onP_some, onStr_some] at h
      obtain ⟨_, hx, l, rfl, h⟩ := h
      have hv := R.ev x
      rw [hx] at hv
      have hb := alloc_below w (.stringIter ⟨l.toArray⟩ 0)
      have R' := R.newB hb (v := .pointer (some ⟨w.heap.size, 0, none⟩)) (blk := .iter l 0) (fun g hg => by cases hg; exact Nat.le_refl _)
        ⟨w.heap.size, upd_same _ _, R.below.size, fun h => absurd (R.s2 _ h) (Nat.lt_irrefl _), alloc_get w _⟩
      refine ⟨_, h, fun Q => aWp (v := .value (.pointer (some ⟨w.heap.size, 0, none⟩))) ?_ (by simp) ⟨_, _, R'.put o.dst (.it _ _ (upd_same _ _))⟩⟩
      rw [hop _ ho]
      simp [execOp, Instr.range, run_underlying ht, hv.str]
    · cases h
  · rename_i it ho
    split at h
    · rename_i b hit
      have hv := R.ev it
      rw [hit] at hv
      simp only [onSome_some] at h
      obtain ⟨bl, hb, h⟩ := h
      split at h
      · rename_i l pos
        obtain ⟨g, hm, hbase, hns, hg⟩ := R.heap _ _ hb
        have hve : a.eval it = .pointer (some ⟨g, 0, none⟩) := by
          generalize a.eval it = v at hv
          cases hv with | it b a hm' => rw [hm] at hm'; cases hm'; rfl
        have hrun := run_iter (P := E.P) l pos hg o.type
        simp only [aIf_some, decide_eq_true_eq, decide_eq_false_iff_not] at h
        rcases h with ⟨hlt, h⟩ | ⟨hge, h⟩
        · rw [if_pos hlt] at hrun
          have hw : ∀ g', footO (μ b) ≠ some g' → ({ w with heap := w.heap.setIfInBounds g (.stringIter ⟨l.toArray⟩ (pos + (Utf8.decode ⟨l.toArray⟩ pos).2)) } : World).heap[g']? = w.heap[g']? := fun g' hg' => by
            have : g ≠ g' := fun e => hg' (by rw [hm, e]; rfl)
            show (w.heap.setIfInBounds g _)[g']? = _
            rw [Array.getElem?_setIfInBounds_ne this]
          have hglt : g < w.heap.size := (Array.getElem?_eq_some_iff.1 hg).1
          have R' := R.setB hb rfl (w' := { w with heap := w.heap.setIfInBounds g (.stringIter ⟨l.toArray⟩ (pos + (Utf8.decode ⟨l.toArray⟩ pos).2)) }) (b' := .iter l (pos + (Utf8.decode ⟨l.toArray⟩ pos).2)) (by simp) ⟨rfl, rfl, rfl⟩ hw
            ⟨g, hm, hbase, hns, by simp [hglt]⟩
          refine ⟨_, h, fun Q => aWp (v := .value _) ?_ (by simp) ⟨_, _, R'.put o.dst (.p _ _ (.tup [_, _, _] [.bool true, .int .i64 pos, .int .i32 (Utf8.decode ⟨l.toArray⟩ pos).1] rfl (fun i c v hc hv => ?_)))⟩⟩
          · rw [hop _ ho]
            simp only [execOp, Sem.run_bind, hve, hrun, Result.andThen_ok, Sem.run_pure]
          · match i, hc, hv with
            | 0, hc, hv => cases hc; cases hv; exact .bool _
            | 1, hc, hv => cases hc; cases hv; exact .int _ _
            | 2, hc, hv => cases hc; cases hv; exact .int _ _
        · rw [if_neg hge] at hrun
          refine ⟨_, h, fun Q => aWp (v := .value _) (w' := w) ?_ (by simp) ⟨_, _, R.put o.dst (.p _ _ (.tup [_] [.bool false] rfl (fun i c v hc hv => ?_)))⟩⟩
          · rw [hop _ ho]
            simp only [execOp, Sem.run_bind, hve, hrun, Result.andThen_ok, Sem.run_pure]
          · match i, hc, hv with
            | 0, hc, hv => cases hc; cases hv; exact .bool _
      · cases h
    · cases h
  · rename_i t x lo hi ho
    split at h
    · rename_i b hx
      simp only [onSome_some] at h
      obtain ⟨bl, hb, h⟩ := h
      split at h
      · rename_i e s xs
        have hsl : ∃ c, aSlice E t (.p (.sl s xs)) (lo.map st.ev) (hi.map st.ev) some = some c ∧ k ((st.freeze b s xs).put o.dst c) = some r := by
          have := aSlice_bind (E := E) (t := t) (x := .p (.sl s xs)) (lo := lo.map st.ev) (hi := hi.map st.ev) (g := some) (k := fun v => k ((st.freeze b s xs).put o.dst v))
          simp only [Option.bind_some] at this
          rw [h] at this
          cases hc : aSlice E t (.p (.sl s xs)) (lo.map st.ev) (hi.map st.ev) some with
          | none => rw [hc] at this; cases this
          | some c => rw [hc] at this; exact ⟨c, rfl, this⟩
        obtain ⟨c, hc, h⟩ := hsl
        have hv := R.ev x
        rw [hx] at hv
        obtain ⟨mv, hmv, hr⟩ := (R.heap _ _ hb).row_sl (S' := fun g => S g ∨ footO (μ b) = some g) (fun _ h => .inl h) (fun _ h => .inr h)
        have hve : a.eval x = mv := by
          generalize a.eval x = v at hv
          cases hv with | own b a n c hm => rw [hmv] at hm; cases hm; rfl
        obtain ⟨u, hu, hcu⟩ := aSlice_ok (μ2 := μ) R (.p _ _ hr) hc
        refine ⟨_, h, fun Q => aWp (v := .value u) (w' := w) ?_ (by simp) ⟨_, _, (R.freeze hb).put o.dst hcu⟩⟩
        rw [hop _ ho]
        simp only [execOp, Sem.run_bind, hve, hu, Result.andThen_ok, Option.map_none, Sem.run_pure]
      · cases h
    · exact other h
  · rename_i c ho
    split at h
    · rename_i s x hcl hargs
      obtain ⟨os, ox, hos, rfl, rfl⟩ := args2' hargs
      simp only [onSome_some, aGd_some, decide_eq_true_eq] at h
      obtain ⟨t, ht, ht2, h⟩ := h

      obtain ⟨st', c', v', w', μ', h, hrun, R', hc'⟩ := aAppend_ok (ty := o.type) R h
      refine ⟨_, h, fun Q => aWp (v := .value v') (w' := w') ?_ (by simp) ⟨_, _, R'.put o.dst hc'⟩⟩
      have e1 : c.args.map a.eval = #[a.eval os, a.eval ox] := by
        apply Array.ext'
        rw [Array.toList_map, hos]; rfl
      have e2 : c.argTypes = #[t, t] := by apply Array.ext'; exact ht2
      unfold execOp
      simp only [ho, resolve, hcl, Sem.run_bind, Sem.run_pure, Result.andThen_ok, invoke, e1, e2, BigFrame.builtin_append, hrun]
    · rename_i args f hcl
      obtain ⟨f', caps, us, h, hfv, hcl2, hcr⟩ := onFn_some (R.ev f) h
      have hargl : (c.args.toList.map st.ev ++ caps).length = (c.args.toList.map a.eval ++ us).length := by simp [hcl2]
      have hargr : ∀ (i : Nat) x v, (c.args.toList.map st.ev ++ caps)[i]? = some x → (c.args.toList.map a.eval ++ us)[i]? = some v → ARel μ S w x v := fun i x v hx hv => by
        by_cases hi : i < c.args.toList.length
        · rw [List.getElem?_append_left (by simpa using hi), List.getElem?_map, List.getElem?_eq_getElem hi] at hx hv
          cases hx; cases hv; exact R.ev _
        · rw [List.getElem?_append_right (by simp; simpa using hi)] at hx hv
          simp only [List.length_map] at hx hv
          exact hcr _ _ _ hx hv
      · obtain ⟨xs, bs, h, hl, hbs, hpw, hv⟩ := aArgsO_some R hargl hargr h
        split at h
        · rename_i ce hce
          rw [ce.par] at h
          cases hr : ce.run xs some with
          | none => simp [hr] at h
          | some y =>
            simp only [hr, Option.bind_some, aIf_some] at h
            obtain ⟨S'', R'', hS, hS2⟩ := R.freezeAll hbs hpw
            have hrun : (execOp a.eval o).run E.P w = .ok (.enter f' (c.args.map a.eval ++ us.toArray)) w := by
              unfold execOp
              simp only [ho, resolve_clo hcl hfv, Sem.run_bind, Sem.run_pure, Result.andThen_ok, invoke]
              exact hE.body f' ce hce _ w
            have hcall := hE.spec f' ce hce xs y hr S'' w _ R''.s2 (hE.keep w0 w R.gw R.below) hl (hv S'' hS hS2)
            have e : (c.args.toList.map a.eval ++ us).toArray = c.args.map a.eval ++ us.toArray := by apply Array.ext'; simp
            rw [e] at hcall
            rcases h with ⟨hsc, h⟩ | ⟨hsc, h⟩
            · refine ⟨_, h, fun Q => ?_⟩
              unfold Oper.wp
              rw [hrun]
              refine hcall.mono fun e w' hp => ?_
              obtain ⟨v, S3, rfl, hb, h1, h2, h3, hv3⟩ := hp
              exact ⟨μ, S, (R.world hb (fun _ h => h) (fun _ h => .inl h) (fun g h => Nat.lt_of_lt_of_le (R.s2 g h) hb.size)).put o.dst (.p _ _ (hv3.of_scalar hsc))⟩
            · refine ⟨_, h, fun Q => ?_⟩
              unfold Oper.wp
              rw [hrun]
              refine hcall.mono fun e w' hp => ?_
              obtain ⟨v, S3, rfl, hb, h1, h2, h3, hv3⟩ := hp
              exact ⟨μ, S3, (R''.world hb h1 h2 h3).put o.dst (.p _ _ hv3)⟩
        · cases h
    · exact other h
  · exact other h
end
end Go.Proofs.Ytmnedpfilckilaa
