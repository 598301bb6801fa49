/- A function's code, by the pure reading: what it hands back of the machine. No program is named here. -/
import Derived.Test.YtmnedpfilckilaaExf
set_option linter.unusedSimpArgs false
set_option linter.unusedVariables false
namespace Go.Proofs.Ytmnedpfilckilaa
open Go.RowKit

section
variable {P : Program} {μ : Nat → Option Value} {S : Nat → Prop} {w : World}
variable {G : World → Prop} {w0 : World} {S0 : Nat → Prop} {st : St} {a : Act} {E : Env} {ops : Array Oper}
variable {ρ : Type} {r : ρ}

theorem RelM.here (R : RelM G w0 S0 μ S st a w) {t : Nat} (h : st.tmps.get t ≠ .top) : ∃ v, a.tmps[t]? = some v := by
  cases hx : a.tmps[t]? with
  | some v => exact ⟨v, rfl⟩
  | none =>
    have hn : st.tmps.n ≤ t := by have := Array.getElem?_eq_none_iff.1 hx; rw [R.size] at this; exact this
    exact absurd (Tm.get_out _ hn) h
theorem RelM.bool_at (R : RelM G w0 S0 μ S st a w) {t : Nat} {b : Bool} (h : st.tmps.get t = .p (.bool b)) : a.tmps[t]? = some (.bool b) := by
  obtain ⟨v, hv⟩ := R.here (t := t) (by rw [h]; simp)
  have hr := R.tmps t v hv
  rw [h] at hr
  rw [hv, hr.bool]
theorem St.put_same {t : Nat} {c : AV} (h : st.tmps.get t = c) (hc : c ≠ .top) : st.put (some t) c = st := by
  unfold St.put
  dsimp only
  rw [Tm.set_same _ _ h hc]
theorem aWanted_some {o : Oper} {x y : St → Option ρ} (R : RelM G w0 S0 μ S st a w) (h : aWanted ops st o x y = some r) :
    (Region.wanted o (yielded ops a.tmps) = true ∧ x st = some r) ∨ (Region.wanted o (yielded ops a.tmps) = false ∧ y st = some r) := by
  unfold aWanted at h
  unfold Region.wanted
  split at h
  · rename_i hg; rw [hg]; exact .inl ⟨rfl, h⟩
  · rename_i j want hg
    rw [hg]
    split at h
    · rename_i t ht
      split at h
      · rename_i b hb
        have hy : yielded ops a.tmps j = some b := by
          unfold yielded
          rw [ht]
          simp [R.bool_at hb]
        simp only [hy, aIf_some] at h ⊢
        rcases h with ⟨rfl, h⟩ | ⟨rfl, h⟩ <;> rw [St.put_same hb (by simp)] at h <;> cases want <;> simp_all
      · rename_i hb
        have hy : yielded ops a.tmps j = none := by
          unfold yielded
          rw [ht]
          simp only [Option.bind_some]
          obtain ⟨v, hv⟩ := R.here (t := t) (by rw [hb]; simp)
          have hr := R.tmps t v hv
          rw [hb] at hr
          rw [hv]
          cases hr with | p _ _ hr => cases hr with | tup cs vs hl hh => rfl
        exact .inr ⟨by simp [hy], h⟩
      · cases h
    · cases h
theorem undef_rel : ARel μ S w (.p (.tup [])) undef := .p _ _ (.tup [] [] rfl (by simp))
/-- The same, of the state alone. -/
theorem aWanted_st {o : Oper} {x y : St → Option ρ} (h : aWanted ops st o x y = some r) : (∀ {ρ' : Type} (x' y' : St → Option ρ'), aWanted ops st o x' y' = x' st) ∧ x st = some r ∨ (∀ {ρ' : Type} (x' y' : St → Option ρ'), aWanted ops st o x' y' = y' st) ∧ y st = some r := by
  unfold aWanted at h ⊢
  split at h
  · exact .inl ⟨fun _ _ => rfl, h⟩
  · rename_i j want hg
    split at h
    · rename_i t ht
      split at h
      · rename_i b hb
        simp only [aIf_some] at h
        have hp := St.put_same hb (by simp)
        rcases h with ⟨rfl, h⟩ | ⟨rfl, h⟩ <;> rw [hp] at h <;> cases want
        · exact .inr ⟨fun x' y' => by simp only [ht, hb, aIf, hp], h⟩
        · exact .inl ⟨fun x' y' => by simp only [ht, hb, aIf, hp], h⟩
        · exact .inl ⟨fun x' y' => by simp only [ht, hb, aIf, hp], h⟩
        · exact .inr ⟨fun x' y' => by simp only [ht, hb, aIf, hp], h⟩
      · rename_i hb
        exact .inr ⟨fun x' y' => by simp only [ht, hb], h⟩
      · cases h
    · cases h

theorem aOps_ok (hE : E.ok G) {k : St → Option ρ} {Q : Exit → Act → World → Prop} (hQ : ∀ st' a' w', Good G w0 S0 st' a' w' → k st' = some r → Q .normal a' w') : ∀ (l : List Oper) (st : St) (a : Act) (w : World), Good G w0 S0 st a w → aOps E ops l st k = some r →
    wpList E.P ops Q l a w
  | [], st, a, w, R, h => hQ st a w R h
  | o :: l, st, a, w, ⟨μ, S, R⟩, h => by
    refine wpList_step fun K hK => ?_
    simp only [aOps] at h
    rcases aWanted_some R h with ⟨hw, h⟩ | ⟨hw, h⟩
    · rw [if_pos hw]
      obtain ⟨st', h, hwp⟩ := aOp_ok hE R h
      refine upon_mono (fun a' w' hg => hK a' w' (aOps_ok hE hQ l st' a' w' hg h)) (hwp Q)
    · rw [if_neg (by rw [hw]; simp)]
      exact hK _ _ (aOps_ok hE hQ l _ _ _ ⟨μ, S, R.put o.dst undef_rel⟩ h)
where
  upon_mono {o : Oper} {a : Act} {w : World} {K K' : Act → World → Prop} {Q : Exit → Act → World → Prop} (hK : ∀ a w, K a w → K' a w) (h : o.wp E.P a w K Q) : o.wp E.P a w K' Q := by
    unfold Oper.wp at *
    generalize (execOp a.eval o).run E.P w = x at *
    cases x with
    | ok n w' =>
      cases n <;> simp only [Oper.upon] at h ⊢ <;> try first | exact hK _ _ h | exact h
      · exact h.mono fun e w'' he => by cases e <;> first | exact hK _ _ he | exact he
      · exact h.mono fun v w'' he => hK _ _ he
    | halt x w' => cases x <;> exact h

/-! ## Regions that draw their order -/
variable {B : Option (List Nat)}
def vOf (B : Option (List Nat)) (E : Env) (ops : Array Oper) (st : St) (o : Oper) : Option AV := aWanted ops st o (fun st => aVal E o st.ev (hideO B st.heap) some) (fun _ => some (.p (.tup [])))
theorem St.ev_put {dst : Option Tmp} {v : AV} {x : Operand} (h : ∀ d, dst = some d → x ≠ .tmp d) : (st.put dst v).ev x = st.ev x := by
  cases dst with
  | none => rfl
  | some d =>
    cases x with
    | tmp t =>
      have hne : d ≠ t := fun e => h d rfl (e ▸ rfl)
      simp only [St.ev, St.put]; exact Tm.get_set_ne _ _ (Ne.symm hne)
    | _ => rfl
theorem St.put_comm {x y : Option Tmp} (v u : AV) (h : ∀ d, x = some d → y ≠ some d) : (st.put x v).put y u = (st.put y u).put x v := by
  cases x with
  | none => rfl
  | some d =>
    cases y with
    | none => rfl
    | some e =>
      have hne : d ≠ e := fun he => h d rfl (he ▸ rfl)
      simp only [St.put]; rw [Tm.set_comm _ _ _ (Ne.symm hne)]
theorem St.heap_put (dst : Option Tmp) (v : AV) : (st.put dst v).heap = st.heap := by cases dst <;> rfl
theorem aVal_congr {o : Oper} {ev ev' : Operand → AV} {heap : List Blk} (h : ∀ x ∈ o.op.operands, ev x = ev' x) : aVal E o ev heap some = aVal E o ev' heap some := by
  unfold aVal
  cases ho : o.op <;> rw [ho] at h <;> simp only [Op.operands] at h <;> try (first | rfl | (simp_all; done))
  case build t ps =>
    have : (ps.toList.map fun (i, x) => (i, ev x)) = (ps.toList.map fun (i, x) => (i, ev' x)) := List.map_congr_left fun p hp => by
      obtain ⟨i, x⟩ := p
      have := h x (by simp; exact ⟨i, by simpa using hp⟩)
      simp [this]
    simp only [this]
  case makeFunc fn first caps =>
    cases fn <;> try rfl
    have : caps.toList.map ev = caps.toList.map ev' := List.map_congr_left fun x hx => h x (by simp; exact .inr (by simpa using hx))
    simp only [this]
  case buildSlice t n ps =>
    cases n with
    | zero => rfl
    | succ n =>
      have : (ps.toList.map fun (i, x) => ev x) = (ps.toList.map fun (i, x) => ev' x) := List.map_congr_left fun p hp => by
        obtain ⟨i, x⟩ := p
        have := h x (by simp; exact ⟨i, by simpa using hp⟩)
        simp [this]
      simp only [this]
  case slice t x lo hi mx =>
    cases mx with
    | some _ => rfl
    | none => cases lo <;> cases hi <;> simp_all
  case call c =>
    have hargs : c.args.toList.map ev = c.args.toList.map ev' := List.map_congr_left fun x hx => h x (by simp [Call.operands]; exact .inr (by simpa using hx))
    dsimp only
    rw [hargs]
    split
    · rfl
    · rename_i f hf
      rw [h f (by simp [Call.operands, hf])]
    · rfl
theorem vOf_put {oi oj : Oper} {v : AV} (h : ∀ d, oi.dst = some d → d ∉ oj.looksAt ops) : vOf B E ops (st.put oi.dst v) oj = vOf B E ops st oj := by
  have hv : aVal E oj (st.put oi.dst v).ev (hideO B (st.put oi.dst v).heap) some = aVal E oj st.ev (hideO B st.heap) some := by
    rw [St.heap_put]
    exact aVal_congr fun x hx => St.ev_put fun d hd e => h d hd (by subst e; exact List.mem_append_left _ (List.mem_filterMap.2 ⟨.tmp d, by simpa using hx, rfl⟩))
  have hguard : ∀ g want, oj.guard = some (g, want) → ∀ t, (ops[g]?).bind (·.dst) = some t → (st.put oi.dst v).tmps.get t = st.tmps.get t := fun g want hg t ht => by
    cases hd : oi.dst with
    | none => rfl
    | some d =>
      have hne : d ≠ t := fun e => h d hd (by subst e; simp [Oper.looksAt, hg, ht])
      exact Tm.get_set_ne _ _ (Ne.symm hne)
  unfold vOf aWanted
  cases hg : oj.guard with
  | none => exact hv
  | some gw =>
    obtain ⟨g, want⟩ := gw
    dsimp only
    cases ht : (ops[g]?).bind (·.dst) with
    | none => rfl
    | some t =>
      dsimp only
      have e := hguard g want hg t ht
      rw [e]
      split
      · rename_i b hb
        cases b
        · rw [St.put_same (c := .p (.bool false)) hb (by simp), St.put_same (c := .p (.bool false)) (e.trans hb) (by simp), hv]
          rfl
        · rw [St.put_same (c := .p (.bool true)) hb (by simp), St.put_same (c := .p (.bool true)) (e.trans hb) (by simp), hv]
          rfl
      · rfl
      · rfl
/-! What an operation makes of the state. -/
def sOf (B : Option (List Nat)) (E : Env) (ops : Array Oper) (st : St) (o : Oper) : Option St :=
  match opEff o.op with
  | true => aGd o.guard.isNone (aEff B E o st some)
  | false => (vOf B E ops st o).map (st.put o.dst)
theorem aEff_some {o : Oper} {st : St} {k : St → Option ρ} (h : aEff B E o st k = some r) : ∃ st', aEff B E o st some = some st' ∧ k st' = some r := by
  unfold aEff at h ⊢
  split at h
  · simp only [onSome_some, aGd_some] at h ⊢
    obtain ⟨i, hi, z, hz, h1, h⟩ := h
    exact ⟨_, ⟨i, hi, z, hz, h1, rfl⟩, h⟩
  · split at h
    · simp only [onSome_some] at h ⊢
      obtain ⟨bl, hb, h⟩ := h
      split at h
      · simp only [aGd_some] at h
        obtain ⟨h0, h1, h2, h3, h4, h⟩ := h
        exact ⟨_, ⟨_, hb, by simp only [aGd_some]; exact ⟨h0, h1, h2, h3, h4, trivial⟩⟩, h⟩
      · cases h
    · cases h
  · cases h
theorem sOf_of {o : Oper} {l : List Oper} {k : St → Option ρ} (h : aOpsQ B E ops (o :: l) st k = some r) : ∃ st', sOf B E ops st o = some st' ∧ aOpsQ B E ops l st' k = some r := by
  simp only [aOpsQ] at h
  unfold sOf
  split at h
  · rename_i he
    rw [he]
    simp only [aGd_some] at h ⊢
    obtain ⟨hg, h⟩ := h
    obtain ⟨st', h1, h2⟩ := aEff_some h
    exact ⟨st', ⟨hg, h1⟩, h2⟩
  · rename_i he
    rw [he]
    rcases aWanted_st h with ⟨hw, h⟩ | ⟨hw, h⟩
    · obtain ⟨v, hv, h⟩ := aVal_some h
      exact ⟨_, by unfold vOf; rw [hw, hv]; rfl, h⟩
    · exact ⟨_, by unfold vOf; rw [hw]; rfl, h⟩
/-! What is seen of less memory is seen of more. -/
def Cov (h h' : List Blk) : Prop := ∀ (i : Nat) b, h[i]? = some b → b = .none ∨ h'[i]? = some b
theorem Cov.refl (h : List Blk) : Cov h h := fun _ _ hb => .inr hb
theorem hide_cov : ∀ (bs : List Nat) (h : List Blk), Cov (hide bs h) h
  | [], h => Cov.refl h
  | b :: bs, h => fun i x hx => by
    rcases hide_cov bs (h.set b .none) i x hx with e | e
    · exact .inl e
    · rw [List.getElem?_set] at e
      split at e
      · split at e
        · cases e; exact .inl rfl
        · cases e
      · exact .inr e
theorem hideO_cov (B : Option (List Nat)) (h : List Blk) : Cov (hideO B h) h := by
  cases B with
  | none => exact Cov.refl h
  | some bs => exact hide_cov bs h
theorem onSome_cov {β : Type} {h h' : List Blk} (C : Cov h h') {b : Nat} {f : Blk → Option β} {y : β} (hf : f .none = none) (H : onSome h[b]? f = some y) : onSome h'[b]? f = some y := by
  simp only [onSome_some] at H ⊢
  obtain ⟨z, hz, hy⟩ := H
  rcases C b z hz with e | e
  · subst e; rw [hf] at hy; cases hy
  · exact ⟨z, e, hy⟩
theorem aLoad_cov {t : TypeId} {h h' : List Blk} (C : Cov h h') {v : AV} {y : AV} (H : aLoad E t h v some = some y) : aLoad E t h' v some = some y := by
  unfold aLoad at H ⊢
  split at H
  · exact onSome_cov C rfl H
  · exact onSome_cov C rfl H
  · exact H
  · cases H
theorem aIndexAddr_cov {t : TypeId} {h h' : List Blk} (C : Cov h h') {v ix : AV} {y : AV} (H : aIndexAddr E t h v ix some = some y) : aIndexAddr E t h' v ix some = some y := by
  unfold aIndexAddr at H ⊢
  cases ix with
  | p ix =>
    cases ix with
    | int k n =>
      simp only [onP, onInt] at H ⊢
      simp only [aGd_some] at H ⊢
      refine ⟨H.1, ?_⟩
      replace H := H.2
      cases hu : E.P.underlying t with
      | none => rw [hu] at H; cases H
      | some d =>
        rw [hu] at H
        cases d with
        | slice e =>
          cases v with
          | own b => exact onSome_cov C rfl H
          | _ => exact H
        | _ => exact H
    | _ => cases H
  | _ => cases H
theorem aBuiltin_cov {b : Builtin} {ts : List TypeId} {args : List AV} {h h' : List Blk} (C : Cov h h') {y : AV} (H : aBuiltin E b ts args h some = some y) : aBuiltin E b ts args h' some = some y := by
  unfold aBuiltin at H ⊢
  split at H
  · simp only [onSome_some] at H ⊢
    obtain ⟨t, ht, d, hd, H⟩ := H
    refine ⟨t, ht, d, hd, ?_⟩
    cases d with
    | slice e =>
      dsimp only at H ⊢
      split at H
      · exact onSome_cov C rfl H
      · exact H
    | _ => exact H
  · exact H
  · exact H
  · cases H
theorem aVal_cov {o : Oper} {ev : Operand → AV} {h h' : List Blk} (C : Cov h h') {y : AV} (H : aVal E o ev h some = some y) : aVal E o ev h' some = some y := by
  unfold aVal at H ⊢
  cases ho : o.op <;> rw [ho] at H <;> try exact H
  case buildSlice t n ps => cases n <;> exact H
  case makeFunc fn a b => cases fn <;> exact H
  case slice t a lo hi mx => cases mx <;> exact H
  case load t a => exact aLoad_cov C H
  case indexAddr t a ix => exact aIndexAddr_cov C H
  case call c =>
    dsimp only at H ⊢
    split at H
    · exact aBuiltin_cov C H
    · exact H
    · exact H
theorem hide_app : ∀ (bs : List Nat) (h : List Blk) (x : Blk), Cov (hide bs h) (hide bs (h ++ [x]))
  | [], h, x => fun i b hb => .inr (by
    have hb' : h[i]? = some b := hb
    show (h ++ [x])[i]? = some b
    rw [List.getElem?_append_left (List.getElem?_eq_some_iff.1 hb').1]; exact hb')
  | c :: bs, h, x => by
    show Cov (hide bs (h.set c .none)) (hide bs ((h ++ [x]).set c .none))
    by_cases hc : c < h.length
    · rw [List.set_append_left _ _ hc]
      exact hide_app bs _ x
    · rw [List.set_eq_of_length_le (by omega), List.set_append_right _ _ (by omega)]
      cases hk : c - h.length with
      | zero => exact hide_app bs h .none
      | succ k => exact hide_app bs h x
theorem hideO_app (B : Option (List Nat)) (h : List Blk) (x : Blk) : Cov (hideO B h) (hideO B (h ++ [x])) := by
  cases B with
  | none => exact hide_app [] h x
  | some bs => exact hide_app bs h x
theorem hide_set : ∀ {bs : List Nat} {b : Nat} (h : List Blk) (x : Blk), b ∈ bs → hide bs (h.set b x) = hide bs h
  | [], b, h, x, hb => by cases hb
  | c :: bs, b, h, x, hb => by
    show hide bs ((h.set b x).set c .none) = hide bs (h.set c .none)
    by_cases e : b = c
    · subst e; rw [List.set_set]
    · rw [List.set_comm _ _ e]
      exact hide_set _ x (by
        rcases List.mem_cons.1 hb with h | h
        · exact absurd h e
        · exact h)
theorem hideO_set {B : Option (List Nat)} (hs : B.isSome = true) {b : Nat} (hb : hidB B b = true) (h : List Blk) (x : Blk) : hideO B (h.set b x) = hideO B h := by
  cases B with
  | none => cases hs
  | some bs => exact hide_set h x (by simpa [hidB] using hb)

/-! New memory changes no value. -/
theorem onSome_more {α : Type} {β : Type} {h : List α} {b : Nat} {x : α} {f : α → Option β} {y : β} (H : onSome h[b]? f = some y) : onSome (h ++ [x])[b]? f = some y := by
  simp only [onSome_some] at H ⊢
  obtain ⟨z, hz, hf⟩ := H
  exact ⟨z, by rw [List.getElem?_append_left (List.getElem?_eq_some_iff.1 hz).1]; exact hz, hf⟩
theorem aLoad_more {t : TypeId} {heap : List Blk} {x : Blk} {v : AV} {y : AV} (H : aLoad E t heap v some = some y) : aLoad E t (heap ++ [x]) v some = some y := by
  unfold aLoad at H ⊢
  split at H
  · exact onSome_more H
  · exact onSome_more H
  · exact H
  · cases H
theorem aIndexAddr_more {t : TypeId} {heap : List Blk} {x : Blk} {v ix : AV} {y : AV} (H : aIndexAddr E t heap v ix some = some y) : aIndexAddr E t (heap ++ [x]) v ix some = some y := by
  unfold aIndexAddr at H ⊢
  cases ix with
  | p ix =>
    cases ix with
    | int k n =>
      simp only [onP, onInt] at H ⊢
      simp only [aGd_some] at H ⊢
      refine ⟨H.1, ?_⟩
      replace H := H.2
      cases hu : E.P.underlying t with
      | none => rw [hu] at H; cases H
      | some d =>
        rw [hu] at H
        cases d with
        | slice e =>
          cases v with
          | own b => exact onSome_more H
          | _ => exact H
        | _ => exact H
    | _ => cases H
  | _ => cases H
theorem aBuiltin_more {b : Builtin} {ts : List TypeId} {args : List AV} {heap : List Blk} {x : Blk} {y : AV} (H : aBuiltin E b ts args heap some = some y) : aBuiltin E b ts args (heap ++ [x]) some = some y := by
  unfold aBuiltin at H ⊢
  split at H
  · simp only [onSome_some] at H ⊢
    obtain ⟨t, ht, d, hd, H⟩ := H
    refine ⟨t, ht, d, hd, ?_⟩
    cases d with
    | slice e =>
      dsimp only at H ⊢
      split at H
      · exact onSome_more H
      · exact H
    | _ => exact H
  · exact H
  · exact H
  · cases H
theorem aVal_more {o : Oper} {ev : Operand → AV} {heap : List Blk} {x : Blk} {y : AV} (H : aVal E o ev heap some = some y) : aVal E o ev (heap ++ [x]) some = some y := by
  unfold aVal at H ⊢
  cases ho : o.op <;> rw [ho] at H <;> try exact H
  case buildSlice t n ps => cases n <;> exact H
  case makeFunc fn a b => cases fn <;> exact H
  case slice t a lo hi mx => cases mx <;> exact H
  case load t a => exact aLoad_more H
  case indexAddr t a ix => exact aIndexAddr_more H
  case call c =>
    dsimp only at H ⊢
    split at H
    · exact aBuiltin_more H
    · exact H
    · exact H
theorem aVal_still {o : Oper} {ev : Operand → AV} {heap heap' : List Blk} (hs : opStill o.op = true) : aVal E o ev heap some = aVal E o ev heap' some := by
  unfold aVal
  cases ho : o.op <;> rw [ho] at hs <;> first | rfl | cases hs
theorem vOf_heap {o : Oper} {h' : List Blk} {v : AV} (hv : ∀ v, aVal E o st.ev (hideO B st.heap) some = some v → aVal E o st.ev (hideO B h') some = some v) (h : vOf B E ops st o = some v) : vOf B E ops ⟨st.tmps, h'⟩ o = some v := by
  unfold vOf aWanted at h ⊢
  cases hg : o.guard with
  | none => rw [hg] at h; exact hv v h
  | some gw =>
    obtain ⟨g, want⟩ := gw
    rw [hg] at h
    dsimp only at h ⊢
    cases ht : (ops[g]?).bind (·.dst) with
    | none => rw [ht] at h; cases h
    | some t =>
      rw [ht] at h
      dsimp only at h ⊢
      split at h
      · rename_i b hb
        cases b
        · rw [St.put_same (c := .p (.bool false)) hb (by simp)] at h
          rw [St.put_same (st := ⟨st.tmps, h'⟩) (c := .p (.bool false)) hb (by simp)]
          cases want
          · exact hv v h
          · exact h
        · rw [St.put_same (c := .p (.bool true)) hb (by simp)] at h
          rw [St.put_same (st := ⟨st.tmps, h'⟩) (c := .p (.bool true)) hb (by simp)]
          cases want
          · exact h
          · exact hv v h
      · exact h
      · cases h
theorem St.newB_put (b : Blk) (dst : Option Tmp) (v : AV) : (st.put dst v).newB b = (st.newB b).put dst v := by cases dst <;> rfl
theorem St.setB_put (i : Nat) (b : Blk) (dst : Option Tmp) (v : AV) : (st.put dst v).setB i b = (st.setB i b).put dst v := by cases dst <;> rfl
theorem looks_op {oj : Oper} {d : Tmp} (h : d ∉ oj.looksAt ops) {x : Operand} (hx : x ∈ oj.op.operands) : x ≠ .tmp d := fun e => h (by
  subst e
  exact List.mem_append_left _ (List.mem_filterMap.2 ⟨.tmp d, by simpa using hx, rfl⟩))
theorem sOf_comm {oi oj : Oper} {si sij : St} (hp : pairB B.isSome oi oj = true) (a1 : ∀ d, oi.dst = some d → d ∉ oj.looksAt ops) (a2 : ∀ d, oi.dst = some d → oj.dst ≠ some d) (a3 : ∀ d, oj.dst = some d → d ∉ oi.looksAt ops)
    (hi : sOf B E ops st oi = some si) (hj : sOf B E ops si oj = some sij) : ∃ sj, sOf B E ops st oj = some sj ∧ sOf B E ops sj oi = some sij := by
  unfold pairB at hp
  unfold sOf at *
  cases ei : opEff oi.op with
  | false =>
    rw [ei] at hp hi
    simp only [Option.map_eq_some_iff] at hi
    obtain ⟨v, hv, rfl⟩ := hi
    cases ej : opEff oj.op with
    | false =>
      rw [ej] at hj
      simp only [Option.map_eq_some_iff] at hj
      obtain ⟨u, hu, rfl⟩ := hj
      rw [vOf_put a1] at hu
      refine ⟨st.put oj.dst u, by simp [hu], ?_⟩
      simp only [Option.map_eq_some_iff]
      exact ⟨v, by rw [vOf_put a3]; exact hv, (St.put_comm v u a2).symm⟩
    | true =>
      rw [ej] at hp hj
      simp only [aGd_some] at hj ⊢
      obtain ⟨hg, hj⟩ := hj
      unfold aEff at hj ⊢
      split at hj
      · rename_i e ho
        simp only [onSome_some, aGd_some, Option.some.injEq] at hj ⊢
        obtain ⟨i, h1, z, h2, h3, rfl⟩ := hj
        refine ⟨_, ⟨hg, i, h1, z, h2, h3, rfl⟩, ?_⟩
        simp only [Option.map_eq_some_iff]
        refine ⟨v, ?_, ?_⟩
        · rw [vOf_put a3]
          exact vOf_heap (fun v h => aVal_cov (hideO_app B _ _) h) hv
        · rw [St.newB_put, St.heap_put, St.put_comm v _ a2]
      · rename_i t a x ho
        rw [ho] at hp
        have op : ∀ y ∈ oj.op.operands, (st.put oi.dst v).ev y = st.ev y := fun y hy => St.ev_put fun d hd => looks_op (a1 d hd) hy
        have ea := op a (by rw [ho]; simp [Op.operands])
        have ex := op x (by rw [ho]; simp [Op.operands])
        rw [ea, ex] at hj
        split at hj
        · rename_i b off hb
          rw [St.heap_put] at hj
          simp only [onSome_some] at hj ⊢
          obtain ⟨bl, hbl, hj⟩ := hj
          split at hj
          · rename_i cs
            simp only [aGd_some, Option.some.injEq] at hj
            obtain ⟨h0, h1, h2, h3, h4, rfl⟩ := hj
            refine ⟨_, ⟨hg, _, hbl, by simp only [aGd_some]; exact ⟨h0, h1, h2, h3, h4, rfl⟩⟩, ?_⟩
            simp only [Option.map_eq_some_iff]
            refine ⟨v, ?_, ?_⟩
            · rw [vOf_put a3]
              refine vOf_heap (fun v h => ?_) hv
              cases hm : B.isSome with
              | true => exact (congrArg (fun z => aVal E oi st.ev z some) (hideO_set hm h0 _ _)).trans h
              | false =>
                have hp' : opStill oi.op = true := by simpa [hm] using hp
                rw [← h]; exact aVal_still hp'
            · rw [St.setB_put, St.put_comm v _ a2]
          · cases hj
        · cases hj
      · cases hj
  | true =>
    rw [ei] at hp hi
    cases ej : opEff oj.op with
    | true => rw [ej] at hp; cases hp
    | false =>
      rw [ej] at hp hj
      simp only [aGd_some] at hi
      obtain ⟨hg, hi⟩ := hi
      simp only [Option.map_eq_some_iff] at hj
      obtain ⟨u, hu, rfl⟩ := hj
      unfold aEff at hi
      split at hi
      · rename_i e ho
        rw [ho] at hp; cases hp
      · rename_i t a x ho
        rw [ho] at hp
        split at hi
        · rename_i b off hb
          simp only [onSome_some] at hi
          obtain ⟨bl, hbl, hi⟩ := hi
          split at hi
          · rename_i cs
            simp only [aGd_some, Option.some.injEq] at hi
            obtain ⟨h0, h1, h2, h3, h4, rfl⟩ := hi
            rw [vOf_put a1] at hu
            have hu' : vOf B E ops st oj = some u := vOf_heap (st := st.setB b _) (h' := st.heap) (fun v h => by
              cases hm : B.isSome with
              | true => exact (congrArg (fun z => aVal E oj st.ev z some) (hideO_set hm h0 _ _)).symm.trans h
              | false =>
                have hp' : opStill oj.op = true := by simpa [hm] using hp
                rw [← h]; exact aVal_still hp') hu
            refine ⟨st.put oj.dst u, by simp [hu'], ?_⟩
            have op : ∀ y ∈ oi.op.operands, (st.put oj.dst u).ev y = st.ev y := fun y hy => St.ev_put fun d hd => looks_op (a3 d hd) hy
            have ea := op a (by rw [ho]; simp [Op.operands])
            have ex := op x (by rw [ho]; simp [Op.operands])
            unfold aEff
            rw [ho]
            simp only [aGd_some]
            refine ⟨hg, ?_⟩
            rw [ea, hb, ex, St.heap_put]
            simp only [onSome_some]
            refine ⟨_, hbl, ?_⟩
            simp only [aGd_some]
            refine ⟨h0, h1, h2, h3, h4, ?_⟩
            rw [St.setB_put, St.put_comm _ u a2]
          · cases hi
        · cases hi
      · cases hi
theorem maskL_bit {t : Nat} : ∀ {l : List Nat}, t ∈ l → (maskL l).testBit t = true
  | [], h => by cases h
  | u :: l, h => by
    show ((1 <<< u) ||| maskL l).testBit t = true
    rw [Nat.testBit_or, Bool.or_eq_true]
    rcases List.mem_cons.1 h with rfl | h
    · exact .inl (by rw [Nat.one_shiftLeft]; exact Nat.testBit_two_pow_self)
    · exact .inr (maskL_bit h)
theorem dstM_bit {o : Oper} {d : Tmp} (h : o.dst = some d) : (dstM o).testBit d = true := by
  unfold dstM
  rw [h]
  show (1 <<< d).testBit d = true
  rw [Nat.one_shiftLeft]; exact Nat.testBit_two_pow_self
theorem land_no {a b d : Nat} (h : Nat.beq (Nat.land a b) 0 = true) (ha : a.testBit d = true) (hb : b.testBit d = true) : False := by
  have h0 : a &&& b = 0 := Nat.eq_of_beq_eq_true h
  have := congrArg (fun x => x.testBit d) h0
  simp [ha, hb] at this
theorem apartQ_spec {x y : Oper} (h : apartQ ops x y = true) :
    (∀ d, x.dst = some d → d ∉ y.looksAt ops) ∧ (∀ d, x.dst = some d → y.dst ≠ some d) ∧ (∀ d, y.dst = some d → d ∉ x.looksAt ops) := by
  simp only [apartQ, Bool.and_eq_true] at h
  refine ⟨fun d hd hm => ?_, fun d hd hy => ?_, fun d hd hm => ?_⟩
  · refine land_no h.1 (dstM_bit hd) ?_
    show (maskL (y.looksAt ops) ||| dstM y).testBit d = true
    rw [Nat.testBit_or, maskL_bit hm]; rfl
  · refine land_no h.1 (dstM_bit hd) ?_
    show (maskL (y.looksAt ops) ||| dstM y).testBit d = true
    rw [Nat.testBit_or, dstM_bit hy]; simp
  · exact land_no h.2 (dstM_bit hd) (maskL_bit hm)
def anyA (B : Option (List Nat)) (E : Env) (ops : Array Oper) (Q : St → Prop) : Nat → Array Bool → St → Prop
  | 0, listed, st => Region.ready .any ops listed = [] ∧ Q st
  | n + 1, listed, st => (Region.ready .any ops listed = [] → Q st) ∧ ∀ i ∈ Region.ready .any ops listed, ∀ o, ops[i]? = some o → ∃ st', sOf B E ops st o = some st' ∧ anyA B E ops Q n (listed.setIfInBounds i true) st'
theorem anyA_first {Q : St → Prop} {i : Nat} {oi : Oper} (hi : ops[i]? = some oi) : ∀ (n : Nat) (listed : Array Bool) (st si : St),
    (∀ j oj, ops[j]? = some oj → j ≠ i → listed.getD j true = false → (∀ e ∈ oj.after, Region.binds .any e = true → e.on ≠ i) → apartQ ops oi oj = true ∧ pairB B.isSome oi oj = true) →
    i ∈ Region.ready .any ops listed → sOf B E ops st oi = some si → anyA B E ops Q n (listed.setIfInBounds i true) si → anyA B E ops Q (n + 1) listed st := by
  intro n
  induction n with
  | zero =>
    intro listed st si _ hr hv H
    refine ⟨fun h => (by rw [h] at hr; cases hr), fun j hj oj hoj => ?_⟩
    by_cases hji : j = i
    · subst hji
      rw [hi] at hoj; cases hoj
      exact ⟨si, hv, H⟩
    · have := ready_mono hj hji
      rw [H.1] at this
      cases this
  | succ n ih =>
    intro listed st si hfree hr hv H
    refine ⟨fun h => (by rw [h] at hr; cases hr), fun j hj oj hoj => ?_⟩
    by_cases hji : j = i
    · subst hji
      rw [hi] at hoj; cases hoj
      exact ⟨si, hv, H⟩
    · obtain ⟨sij, hu, H2⟩ := H.2 j (ready_mono hj hji) oj hoj
      obtain ⟨hjun, oj', hoj', hall⟩ := mem_ready.1 hj
      rw [hoj] at hoj'; cases hoj'
      have hnot : ∀ e ∈ oj.after, Region.binds .any e = true → e.on ≠ i := fun e he hb heq => by
        have h1 := hall e he hb
        have h0 := (mem_ready.1 hr).1
        rw [heq] at h1
        rcases Nat.lt_or_ge i listed.size with h' | h'
        · simp [h'] at h0 h1; rw [h0] at h1; cases h1
        · simp [Array.getElem?_eq_none h'] at h1
      obtain ⟨hap, hpair⟩ := hfree j oj hoj hji hjun hnot
      obtain ⟨a1, a2, a3⟩ := apartQ_spec hap
      obtain ⟨sj, h1, h2⟩ := sOf_comm hpair a1 a2 a3 hv hu
      refine ⟨sj, h1, ih (listed.setIfInBounds j true) sj sij (fun k ok hk hki hun hno => ?_) (ready_mono hr (Ne.symm hji)) h2 ?_⟩
      · refine hfree k ok hk hki ?_ hno
        by_cases hjk : j = k
        · subst hjk; exact hjun
        · rw [getD_set_ne true hjk] at hun; exact hun
      · rw [Array.setIfInBounds_comm _ _ hji]
        exact H2
theorem anyA_lex {Q : St → Prop} {k : St → Option ρ} (hQ : ∀ st, k st = some r → Q st) : ∀ (l : List Oper) (n : Nat) (listed : Array Bool) (st : St), (∀ j, l[j]? = ops[n + j]?) → n + l.length = ops.size → listed.size = ops.size → (∀ j, j < n → listed.getD j true = true) → (∀ j, n ≤ j → j < ops.size → listed.getD j true = false) →
    lexQ B.isSome ops l n = true → aOpsQ B E ops l st k = some r → anyA B E ops Q l.length listed st
  | [], n, listed, st, hl, hn, hsz, hpre, hpost, hB, h => by
    refine ⟨?_, hQ _ h⟩
    apply List.eq_nil_iff_forall_not_mem.2
    intro i hi
    obtain ⟨h0, o, ho, -⟩ := mem_ready.1 hi
    have hlt := (Array.getElem?_eq_some_iff.1 ho).1
    rw [hpre i (by simp at hn; omega)] at h0
    cases h0
  | o :: l, n, listed, st, hl, hn, hsz, hpre, hpost, hB, h => by
    have h0 : ops[n]? = some o := by simpa using (hl 0).symm
    have hlt : n < ops.size := (Array.getElem?_eq_some_iff.1 h0).1
    simp only [lexQ, Bool.and_eq_true] at hB
    obtain ⟨hr, hf, hB'⟩ := hB
    obtain ⟨st', hv, h⟩ := sOf_of h
    have hready : n ∈ Region.ready .any ops listed := mem_ready.2 ⟨hpost n (Nat.le_refl _) hlt, o, h0, fun e he hb => by
      have := List.all_eq_true.1 hr e (by simpa using he)
      simp only [hb, Bool.not_true, Bool.false_or] at this
      have hlt' : e.on < n := by simpa [Nat.blt_eq] using this
      have := hpre e.on hlt'
      have hs : e.on < listed.size := by omega
      simpa [hs] using this⟩
    refine anyA_first h0 l.length listed st st' (fun j oj hj hne hun hno => ?_) hready hv
      (anyA_lex hQ l (n + 1) _ _ (fun j => by have := hl (j + 1); simpa [Nat.add_assoc, Nat.add_comm 1 j] using this) (by simp at hn; omega) (by simpa using hsz) (fun j hj => ?_) (fun j hj hjs => ?_) hB' h)
    · have hjs : j < ops.size := (Array.getElem?_eq_some_iff.1 hj).1
      have hnj : n < j := by
        rcases Nat.lt_or_ge j n with h' | h'
        · rw [hpre j h'] at hun; cases hun
        · omega
      have hm : oj ∈ l := by
        have := hl (j - n)
        rw [show n + (j - n) = j by omega, hj] at this
        have e : (o :: l)[j - n]? = l[j - n - 1]? := by
          obtain ⟨m, hm⟩ : ∃ m, j - n = m + 1 := ⟨j - n - 1, by omega⟩
          rw [hm]; simp
        rw [e] at this
        exact List.mem_of_getElem? this
      have := List.all_eq_true.1 hf oj hm
      simp only [Bool.or_eq_true, Bool.and_eq_true] at this
      rcases this with this | this
      · unfold boundB at this
        obtain ⟨e, he, hb⟩ := Array.any_eq_true'.1 this
        simp only [Bool.and_eq_true, beq_iff_eq] at hb
        exact absurd hb.2 (hno e he hb.1)
      · exact this
    · by_cases e : n = j
      · subst e
        have hs : n < listed.size := by omega
        simp [hs]
      · rw [getD_set_ne true e]
        exact hpre j (by omega)
    · rw [getD_set_ne true (by omega)]
      exact hpost j (by omega) hjs
theorem aEff_op {o : Oper} {k : St → Option ρ} (h : aEff B E o st k = some r) : aOp E o st k = some r := by
  unfold aEff at h
  unfold aOp
  split at h
  · rename_i e ho; rw [ho]; exact h
  · rename_i t a x ho
    rw [ho]
    dsimp only
    unfold aStore
    split at h
    · rename_i b off hb
      rw [hb]
      simp only [onSome_some] at h ⊢
      obtain ⟨bl, hbl, h⟩ := h
      refine ⟨bl, hbl, ?_⟩
      split at h
      · rw [aGd_some] at h; exact h.2
      · cases h
    · cases h
  · cases h
theorem anyA_wp (hE : E.ok G) {Q : St → Prop} {Q' : Exit → Act → World → Prop} (hQ : ∀ st a w, Good G w0 S0 st a w → Q st → Q' .normal a w) : ∀ (n : Nat) (listed : Array Bool) (st : St) (a : Act) (w : World), Good G w0 S0 st a w →
    anyA B E ops Q n listed st → wpAny E.P .any ops Q' n listed a w
  | 0, _, _, _, _, R, h => ⟨h.1, hQ _ _ _ R h.2⟩
  | n + 1, listed, st, a, w, ⟨μ, S, R⟩, h => by
    refine ⟨fun h0 => hQ _ _ _ ⟨μ, S, R⟩ (h.1 h0), fun i hi => ?_⟩
    unfold wpOp
    obtain ⟨_, o, ho, _⟩ := mem_ready.1 hi
    rw [ho]
    dsimp only
    obtain ⟨st', hs, H⟩ := h.2 i hi o ho
    unfold sOf at hs
    cases he : opEff o.op with
    | true =>
      rw [he] at hs
      simp only [aGd_some] at hs
      obtain ⟨hg, hs⟩ := hs
      have hg' : o.guard = none := by simpa using hg
      have hw : Region.wanted o (yielded ops a.tmps) = true := by unfold Region.wanted; rw [hg']
      rw [if_pos hw]
      obtain ⟨st'', e, hwp⟩ := aOp_ok hE R (aEff_op hs)
      cases e
      exact .inl (aOps_ok.upon_mono (fun a' w' hg => anyA_wp hE hQ n _ _ a' w' hg H) (hwp Q'))
    | false =>
      rw [he] at hs
      simp only [Option.map_eq_some_iff] at hs
      obtain ⟨v, hv, rfl⟩ := hs
      unfold vOf at hv
      rcases aWanted_some R hv with ⟨hw, hv⟩ | ⟨hw, hv⟩
      · rw [if_pos hw]
        exact .inl (aOps_ok.upon_mono (fun a' w' hg => anyA_wp hE hQ n _ _ a' w' hg H) ((aVal_ok hE R (aVal_cov (hideO_cov B _) hv)).wp hE R))
      · rw [if_neg (by rw [hw]; simp)]
        cases hv
        exact anyA_wp hE hQ n _ _ _ _ ⟨μ, S, R.put o.dst undef_rel⟩ H

/-! ## Masks: what is forgotten at the head of a loop -/
theorem underL_get {n : Nat} : ∀ {l : List AV}, AV.underL n l = true → ∀ (i : Nat) c, l[i]? = some c → AV.under n c = true
  | [], _, i, c, h => by simp at h
  | v :: l, h, i, c, hc => by
    simp only [AV.underL, Bool.and_eq_true] at h
    cases i with
    | zero => simp at hc; subst hc; exact h.1
    | succ i => exact underL_get h.2 i c (by simpa using hc)
theorem underH_get {n : Nat} : ∀ {l : List Blk}, underH n l = true → ∀ (i : Nat) c, l[i]? = some c → Blk.under n c = true
  | [], _, i, c, h => by simp at h
  | v :: l, h, i, c, hc => by
    simp only [underH, Bool.and_eq_true] at h
    cases i with
    | zero => simp at hc; subst hc; exact h.1
    | succ i => exact underH_get h.2 i c (by simpa using hc)
/-- Only the first n blocks are known. -/
def cutMu (n : Nat) (μ : Nat → Option Value) (i : Nat) : Option Value := if i < n then μ i else none
theorem ARel.cut {n : Nat} {x : AV} {v : Value} (h : ARel μ S w x v) (hx : AV.under n x = true) : ARel (cutMu n μ) S w x v := by
  induction h with
  | p x v h => exact .p x v h
  | box b off g h => simp only [AV.under, decide_eq_true_eq] at hx; exact .box b off g (by unfold cutMu; rw [if_pos hx]; exact h)
  | own b a n c h => simp only [AV.under, decide_eq_true_eq] at hx; exact .own b a n c (by unfold cutMu; rw [if_pos hx]; exact h)
  | el b st i off g n cap h => simp only [AV.under, decide_eq_true_eq] at hx; exact .el b st i off g n cap (by unfold cutMu; rw [if_pos hx]; exact h)
  | it b a h => simp only [AV.under, decide_eq_true_eq] at hx; exact .it b a (by unfold cutMu; rw [if_pos hx]; exact h)
  | agg cs vs hl h h1 ih => exact .agg cs vs hl (fun i c v hc hv => ih i c v hc hv (underL_get (by simpa only [AV.under] using hx) i c hc)) h1
  | tup cs vs hl h ih => exact .tup cs vs hl (fun i c v hc hv => ih i c v hc hv (underL_get (by simpa only [AV.under] using hx) i c hc))
  | clo f cs vs hl h ih => exact .clo f cs vs hl (fun i c v hc hv => ih i c v hc hv (underL_get (by simpa only [AV.under] using hx) i c hc))
  | top v => exact .top v
theorem kept_mem {t : Tm} : ∀ {keep : List Nat} {p : Nat × AV}, p ∈ t.kept keep → p.2 = t.get p.1
  | [], p, h => by simp [Tm.kept] at h
  | i :: l, p, h => by
    simp only [Tm.kept, List.mem_cons] at h
    rcases h with rfl | h
    · rfl
    · exact kept_mem h
theorem keptUnder_mem {n : Nat} : ∀ {l : List (Nat × AV)}, keptUnder n l = true → ∀ p ∈ l, AV.under n p.2 = true
  | [], _, p, h => by simp at h
  | x :: l, h, p, hp => by
    simp only [keptUnder, Bool.and_eq_true] at h
    rcases List.mem_cons.1 hp with rfl | hp
    · exact h.1
    · exact keptUnder_mem h.2 p hp
theorem RelM.mask (R : RelM G w0 S0 μ S st a w) (keep : List Nat) (n : Nat) (h1 : keptUnder n (st.tmps.kept keep) = true) (h2 : underH n (st.heap.take n) = true) :
    RelM G w0 S0 (cutMu n μ) S ⟨Tm.of st.tmps.n (st.tmps.kept keep), st.heap.take n⟩ a w := by
  have look : ∀ (i : Nat) b, (st.heap.take n)[i]? = some b → i < n ∧ st.heap[i]? = some b := fun i b h => by
    rw [List.getElem?_take] at h
    split at h
    · exact ⟨by assumption, h⟩
    · cases h
  refine ⟨R.size, fun i c hc => ?_, R.defers, R.below, fun i b h => ?_, fun i j bi bj g hij hi hj li lj hgi => ?_, R.s0, R.s1, R.s2, R.gw, fun i hi => ?_⟩
  · have hr := R.tmps i c hc
    rcases Tm.get_of st.tmps.n (st.tmps.kept keep) i with h | h
    · dsimp only; rw [h]; exact .top _
    · have hu := keptUnder_mem h1 _ h
      have he := kept_mem h
      dsimp only at hu he ⊢
      rw [he] at hu ⊢
      exact hr.cut hu
  · obtain ⟨hin, hb⟩ := look i b h
    have hB := R.heap i b hb
    have hc : cutMu n μ i = μ i := if_pos hin
    cases b with
    | none => trivial
    | box cs =>
      obtain ⟨g, ty, vs, q1, q2, q3, q4, q5, q6, q7⟩ := hB
      have hu : AV.underL n cs = true := underH_get h2 i _ h
      exact ⟨g, ty, vs, by rw [hc]; exact q1, q2, q3, q4, q5, q6, fun j c v hcj hv => (q7 j c v hcj hv).cut (underL_get hu j c hcj)⟩
    | row e s xs =>
      obtain ⟨mv, vs, hmv, rest⟩ := hB
      exact ⟨mv, vs, by rw [hc]; exact hmv, rest⟩
    | iter l pos =>
      obtain ⟨g, q1, rest⟩ := hB
      exact ⟨g, by rw [hc]; exact q1, rest⟩
  · obtain ⟨hin, hb⟩ := look i bi hi
    obtain ⟨hjn, hb'⟩ := look j bj hj
    unfold cutMu at hgi ⊢
    rw [if_pos hin] at hgi
    rw [if_pos hjn]
    exact R.sep i j bi bj g hij hb hb' li lj hgi
  · simp only [List.length_take] at hi
    unfold cutMu
    split
    · exact R.dom i (by omega)
    · rfl
theorem Good.rows : ∀ {l : List (Nat × TypeId × Nat)} {st : St} (hl : ∀ p ∈ l, 0 < p.2.2), Good G w0 S0 st a w → Good G w0 S0 (mkRows l st) a w
  | [], st, _, R => R
  | (t, e, s) :: l, st, hl, ⟨μ, S, R⟩ => by
    simp only [mkRows]
    refine Good.rows (fun p hp => hl p (by simp [hp])) ?_
    split
    · rename_i ht
      obtain ⟨v, hv⟩ := R.here (t := t) (by rw [ht]; simp)
      have hr := R.tmps t v hv
      rw [ht] at hr
      have hvn : v = .slice none 0 0 := by cases hr with | p _ _ h => cases h; rfl
      subst hvn
      have R' := R.newB (Below.refl _ _) (v := .slice none 0 0) (blk := .row e s []) (fun g hg => by cases hg)
        ⟨_, [], upd_same _ _, World.ownsRow_nil _ _ _ _, hl (t, e, s) (by simp), (fun g hg => by cases hg), by simp, by simp, by simp⟩
      refine ⟨upd μ st.heap.length (.slice none 0 0), S, ?_⟩
      have := R'.put (some t) (c := .own st.heap.length) (v := .slice none 0 0) (.own _ _ _ _ (upd_same _ _))
      have e : a.put (some t) (.slice none 0 0) = a := by
        simp only [Act.put]
        congr 1
        apply Array.ext_getElem?
        intro i
        rw [Array.getElem?_setIfInBounds]
        split
        · rename_i e; subst e
          split
          · rw [hv]
          · rw [Array.getElem?_eq_none (by omega)]
        · rfl
      rw [e] at this
      exact this
    · exact ⟨μ, S, R⟩
theorem Good.cells : ∀ {l : List (Nat × Nat × TypeId × Nat)} {st : St} (hl : ∀ p ∈ l, 0 < p.2.2.2), Good G w0 S0 st a w → Good G w0 S0 (mkCells l st) a w
  | [], st, _, R => R
  | (b, i, e, s) :: l, st, hl, ⟨μ, S, R⟩ => by
    simp only [mkCells]
    refine Good.cells (fun p hp => hl p (by simp [hp])) ?_
    split
    · rename_i cs hb
      split
      · rename_i hc
        obtain ⟨g, ty, vs, hm, hbase, hns, hg, hlen, hone, hrel⟩ := R.heap _ _ hb
        have hblt : b < st.heap.length := (List.getElem?_eq_some_iff.1 hb).1
        have hilt : i < cs.length := (List.getElem?_eq_some_iff.1 hc).1
        have hv : vs[i]? = some (.slice none 0 0) := by
          have hx := List.getElem?_eq_getElem (show i < vs.length by omega)
          have := hrel i _ _ hc hx
          rw [hx]
          generalize vs[i] = u at this
          cases this with | p _ _ h => cases h; rfl
        have R' := R.newB (Below.refl _ _) (v := .slice none 0 0) (blk := .row e s []) (fun g hg => by cases hg)
          ⟨_, [], upd_same _ _, World.ownsRow_nil _ _ _ _, hl (b, i, e, s) (by simp), (fun g hg => by cases hg), by simp, by simp, by simp⟩
        have hμ : ∀ c u, μ c = some u → upd μ st.heap.length (.slice none 0 0) c = some u := fun c u h => by
          by_cases e : c = st.heap.length
          · subst e; rw [R.dom _ (Nat.le_refl _)] at h; cases h
          · rw [upd_other _ e]; exact h
        have hb' : (st.newB (.row e s [])).heap[b]? = some (.box cs) := by
          simp only [St.newB]; rw [List.getElem?_append_left hblt]; exact hb
        refine ⟨_, S, R'.setB hb' rfl rfl ⟨rfl, rfl, rfl⟩ (fun _ _ => rfl) ⟨g, ty, vs, hμ _ _ hm, hbase, hns, hg, by simpa using hlen, hone, fun j c v hcj hvj => ?_⟩⟩
        rw [List.getElem?_set] at hcj
        split at hcj
        · rename_i hij; subst hij
          cases hcj
          rw [hv] at hvj; cases hvj
          exact .own _ _ _ _ (upd_same _ _)
        · exact (hrel j c v hcj hvj).mono' hμ (fun _ h => h) (fun _ _ => rfl)
      · exact ⟨μ, S, R⟩
    · exact ⟨μ, S, R⟩
def Mask.ok (m : Mask) : Prop := (∀ p ∈ m.rows, 0 < p.2.2) ∧ ∀ p ∈ m.cells, 0 < p.2.2.2
theorem aMask_some {m : Mask} {k : St → Option ρ} (hm : m.ok) (R : Good G w0 S0 st a w) (h : aMask m st k = some r) : ∃ st', Good G w0 S0 st' a w ∧ k st' = some r := by
  simp only [aMask, aGd_some, Bool.and_eq_true] at h
  obtain ⟨⟨h1, h2⟩, h⟩ := h
  obtain ⟨μ, S, R⟩ := (R.rows hm.1).cells hm.2
  exact ⟨_, ⟨_, _, R.mask m.keep m.heap h1 h2⟩, h⟩
theorem aMask?_some {m : Option Mask} {k : St → Option ρ} (hm : ∀ m', m = some m' → m'.ok) (R : Good G w0 S0 st a w) (h : aMask? m st k = some r) : ∃ st', Good G w0 S0 st' a w ∧ k st' = some r := by
  cases m with
  | none => exact ⟨st, R, h⟩
  | some m => exact aMask_some (hm m rfl) R h

/-! ## Code -/
def Mask.okB (m : Mask) : Bool := (m.rows.all fun p => decide (0 < p.2.2)) && m.cells.all fun p => decide (0 < p.2.2.2)
theorem Mask.ok_of {m : Mask} (h : m.okB = true) : m.ok := by
  simp only [Mask.okB, Bool.and_eq_true] at h
  exact ⟨fun p hp => by simpa using List.all_eq_true.1 h.1 p hp, fun p hp => by simpa using List.all_eq_true.1 h.2 p hp⟩
def Opts.ok (O : Opts) : Bool := (O.masks.all fun x => x.2.okB) && O.cuts.all fun x => x.2.okB
theorem masks_ok {l : List (Nat × Mask)} (h : (l.all fun x => x.2.okB) = true) {n : Nat} {m : Mask} (hm : (l.find? (fun x => x.1 == n)).map (·.2) = some m) : m.ok := by
  cases hf : l.find? (fun x => x.1 == n) with
  | none => rw [hf] at hm; cases hm
  | some x =>
    rw [hf] at hm
    cases hm
    exact Mask.ok_of (List.all_eq_true.1 h x (List.mem_of_find?_eq_some hf))
theorem Opts.mask_ok {O : Opts} (h : O.ok = true) {n : Nat} {m : Mask} (hm : O.mask n = some m) : m.ok := by
  simp only [Opts.ok, Bool.and_eq_true] at h
  exact masks_ok h.1 hm
theorem Opts.cut_ok {O : Opts} (h : O.ok = true) {n : Nat} {m : Mask} (hm : O.cut n = some m) : m.ok := by
  simp only [Opts.ok, Bool.and_eq_true] at h
  exact masks_ok h.2 hm

/-- How a piece of code is left. -/
def exitRel : Exit → AExit → Prop
  | .normal, .normal => True
  | .exit i, .exit j => i = j
  | .ret, .ret => True
  | _, _ => False
def Leaves (G : World → Prop) (w0 : World) (S0 : Nat → Prop) (k : AExit → St → Option ρ) (r : ρ) (e : Exit) (a : Act) (w : World) : Prop := ∃ ae st', exitRel e ae ∧ Good G w0 S0 st' a w ∧ k ae st' = some r
theorem aLoop_ok {c : Code} {O : Opts} {m : Option Mask} (hm : ∀ m', m = some m' → m'.ok) {k : AExit → St → Option ρ}
    (ih : ∀ (st : St) (a : Act) (w : World) (k : AExit → St → Option ρ), Good G w0 S0 st a w → aCode E O c st k = some r → c.wp E.P (Leaves G w0 S0 k r) a w) :
    ∀ (n : Nat) (st : St) (a : Act) (w : World), Good G w0 S0 st a w → aLoop m (aCode E O c) n st k = some r → Code.rounds E.P c (Leaves G w0 S0 k r) n a w
  | 0, _, _, _, _, h => by cases h
  | n + 1, st, a, w, R, h => by
    rw [rounds_succ]
    refine wp_mono (ih st a w _ R h) fun e a' w' hl => ?_
    obtain ⟨ae, st', he, R', h'⟩ := hl
    cases e <;> cases ae <;> simp only [exitRel] at he
    · obtain ⟨st'', R'', h''⟩ := aMask?_some hm R' h'
      exact aLoop_ok hm ih n st'' a' w' R'' h''
    · exact ⟨.exit _, st', he, R', h'⟩
    · exact ⟨.ret, st', trivial, R', h'⟩
theorem aCode_ok (hE : E.ok G) (hP : E.P.follows .mixedOrders = true) {O : Opts} (hO : O.ok = true) : ∀ (c : Code) (st : St) (a : Act) (w : World) (k : AExit → St → Option ρ), Good G w0 S0 st a w → aCode E O c st k = some r → c.wp E.P (Leaves G w0 S0 k r) a w := by
  intro c
  induction c with
  | skip => intro st a w k R h; exact wp_skip ⟨.normal, st, trivial, R, h⟩
  | label l => intro st a w k R h; exact wp_label ⟨.normal, st, trivial, R, h⟩
  | exit id => intro st a w k R h; exact wp_exit ⟨.exit id, st, rfl, R, h⟩
  | ret => intro st a w k R h; exact wp_ret ⟨.ret, st, trivial, R, h⟩
  | region id ops d =>
    intro st a w k R h
    cases d with
    | false =>
      refine wp_region_list ?_
      exact aOps_ok hE (fun st' a' w' R' h' => ⟨.normal, st', trivial, R', h'⟩) ops.toList st a w R h
    | true =>
      have go : ∀ (B : Option (List Nat)), lexQ B.isSome ops ops.toList 0 = true → aOpsQ B E ops ops.toList st (k .normal) = some r → (Code.region id ops true).wp E.P (Leaves G w0 S0 k r) a w := fun B hB h => by
        have hany := anyA_lex (B := B) (E := E) (Q := fun st => k .normal st = some r) (fun st h => h) ops.toList 0 (Array.replicate ops.size false) st (by simp) (by simp) (by simp) (fun j hj => by omega) (fun j _ hj => by simp [hj]) hB h
        have hdr : Good G w0 S0 st a { w with drawn := w.drawn + 1 } := by
          obtain ⟨μ, S, R⟩ := R
          exact ⟨μ, S, R.world (Below.drew (Below.refl _ w)) (fun _ h => h) (fun _ h => .inl h) R.s2⟩
        refine wp_region_any hP ?_
        have := anyA_wp hE (Q' := Leaves G w0 S0 k r) (fun st a w R h => ⟨.normal, st, trivial, R, h⟩) ops.toList.length _ _ _ _ hdr hany
        simpa using this
      simp only [aCode, aIf_some, aGd_some] at h
      rcases h with ⟨hB, h⟩ | ⟨_, hB, h⟩
      · exact go none hB h
      · exact go (some _) hB h
  | seq x y ihx ihy =>
    intro st a w k R h
    refine wp_seq (wp_mono (ihx st a w _ R h) fun e a' w' hl => ?_)
    obtain ⟨ae, st', he, R', h'⟩ := hl
    cases e <;> cases ae <;> simp only [exitRel] at he
    · simp only [seqK] at h'
      split at h'
      · rename_i m hm
        obtain ⟨st'', R'', h''⟩ := aMask_some (Opts.cut_ok hO hm) R' h'
        exact ihy _ _ _ _ R'' h''
      · exact ihy _ _ _ _ R' h'
    · exact ⟨.exit _, st', he, R', h'⟩
    · exact ⟨.ret, st', trivial, R', h'⟩
  | cond c x y ihx ihy =>
    intro st a w k R h
    simp only [aCode, onP_some, onBool_some, aIf_some] at h
    obtain ⟨_, hc, b, rfl, h⟩ := h
    have hb : a.eval c = .bool b := by
      obtain ⟨μ, S, R⟩ := R
      have := R.ev c
      rw [hc] at this
      exact this.bool
    rcases h with ⟨rfl, h⟩ | ⟨rfl, h⟩
    · exact wp_cond_true hb (ihx _ _ _ _ R h)
    · exact wp_cond_false hb (ihy _ _ _ _ R h)
  | block id c ih =>
    intro st a w k R h
    refine wp_block (wp_mono (ih st a w _ R h) fun e a' w' hl => ?_)
    obtain ⟨ae, st', he, R', h'⟩ := hl
    cases e <;> cases ae <;> simp only [exitRel] at he
    · exact ⟨.normal, st', trivial, R', h'⟩
    · subst he
      rename_i j
      simp only [blockK] at h'
      show (if j = id then _ else _)
      by_cases hj : j = id
      · rw [if_pos hj]
        simp only [hj, decide_true] at h'
        exact ⟨.normal, st', trivial, R', h'⟩
      · rw [if_neg hj]
        simp only [hj, decide_false] at h'
        exact ⟨.exit j, st', rfl, R', h'⟩
    · exact ⟨.ret, st', trivial, R', h'⟩
  | loop c ih =>
    intro st a w k R h
    simp only [aCode] at h
    have hm : ∀ m', O.mask (firstReg c) = some m' → m'.ok := fun m' h => Opts.mask_ok hO h
    obtain ⟨st', R', h'⟩ := aMask?_some hm R h
    exact wp_loop_rounds O.fuel (aLoop_ok hm (fun st a w k R h => ih st a w k R h) O.fuel st' a w R' h')
  | scope c ih =>
    intro st a w k R h
    refine wp_scope_straight (wp_mono (ih st a w k R h) fun e a' w' hl => ?_)
    cases e
    case goto l => obtain ⟨ae, st', he, R', h'⟩ := hl; cases ae <;> simp only [exitRel] at he
    all_goals exact hl
  | rangeFunc f ps x y _ _ => intro st a w k R h; cases h
  | goto l => intro st a w k R h; cases h
  | refuse m => intro st a w k R h; cases h

/-! ## Functions -/
/-- All that was made, and what was frozen before, is frozen. -/
def Done (w0 : World) (S0 : Nat → Prop) (w : World) (g : Nat) : Prop := S0 g ∨ (w0.heap.size ≤ g ∧ g < w.heap.size)
theorem RelM.done (R : RelM G w0 S0 μ S st a w) : (∀ g, S g → Done w0 S0 w g) ∧ ∀ (i : Nat) b g, st.heap[i]? = some b → b.live = true → footO (μ i) = some g → Done w0 S0 w g :=
  ⟨fun g h => (R.s1 g h).imp id (fun h' => ⟨h', R.s2 g h⟩), fun i b g h hl hg => .inr (by have := (R.heap i b h).foot_lt hl g hg; omega)⟩
theorem aPure1_some {v : AV} {u : Value} {k : PV → Option ρ} (R : RelM G w0 S0 μ S st a w) (hv : ARel μ S w v u) (h : aPure1 st.heap v k = some r) : ∃ x, k x = some r ∧ VRel (Done w0 S0 w) w x u := by
  unfold aPure1 at h
  split at h
  · simp only [onSome_some] at h
    obtain ⟨bl, hb, h⟩ := h
    split at h
    · obtain ⟨mv, hmv, hr⟩ := (R.heap _ _ hb).row_sl R.done.1 (fun g hg => R.done.2 _ _ g hb rfl hg)
      cases hv with | own b a n c hm => rw [hmv] at hm; cases hm; exact ⟨_, h, hr⟩
    · cases h
  · cases hv with | p _ _ hv => exact ⟨_, h, hv.mono R.done.1 (fun _ _ => rfl)⟩
  · cases h
theorem aPureL_some (R : RelM G w0 S0 μ S st a w) : ∀ {cs : List AV} {vs : List Value} {k : List PV → Option ρ}, cs.length = vs.length → (∀ (i : Nat) c v, cs[i]? = some c → vs[i]? = some v → ARel μ S w c v) → aPureL st.heap cs k = some r →
    ∃ xs, k xs = some r ∧ xs.length = vs.length ∧ ∀ (i : Nat) c v, xs[i]? = some c → vs[i]? = some v → VRel (Done w0 S0 w) w c v
  | [], [], k, _, _, h => ⟨[], h, rfl, by simp⟩
  | c :: cs, v :: vs, k, hl, hr, h => by
    simp only [aPureL] at h
    obtain ⟨x, h, hx⟩ := aPure1_some R (hr 0 c v rfl rfl) h
    obtain ⟨xs, h, hxl, hxs⟩ := aPureL_some R (by simpa using hl) (fun i c v hc hv => hr (i + 1) c v (by simpa using hc) (by simpa using hv)) h
    refine ⟨x :: xs, h, by simp [hxl], fun i c' v' hc hv => ?_⟩
    cases i with
    | zero => simp at hc hv; subst hc hv; exact hx
    | succ i => exact hxs i c' v' (by simpa using hc) (by simpa using hv)
theorem aPure_some {v : AV} {u : Value} {k : PV → Option ρ} (R : RelM G w0 S0 μ S st a w) (hv : ARel μ S w v u) (h : aPure st.heap v k = some r) : ∃ x, k x = some r ∧ VRel (Done w0 S0 w) w x u := by
  unfold aPure at h
  split at h
  · cases hv with
    | agg cs vs hl hh h1 =>
      obtain ⟨xs, h, hxl, hxs⟩ := aPureL_some R hl hh h
      exact ⟨_, h, .agg xs vs hxl hxs h1⟩
  · exact aPure1_some R hv h
theorem aLoad_addr {t : TypeId} {x : AV} {v : Value} {k : AV → Option ρ} (hx : ARel μ S w x v) (h : aLoad E t st.heap x k = some r) : ∃ ad, v = .pointer (some ad) := by
  unfold aLoad at h
  split at h
  · cases hx; exact ⟨_, rfl⟩
  · cases hx; exact ⟨_, rfl⟩
  · cases hx with | p _ _ hx => cases hx; exact ⟨_, rfl⟩
  · cases h
/-- What one result reads as. -/
def resRun (tmps : Array Value) : ResultVar → Sem Value
  | .tmp t => pure (tmps.getD t undef)
  | .cell a t => do loadVar t (← asAddr (tmps.getD a undef))
theorem RelM.tmp (R : RelM G w0 S0 μ S st a w) (t : Nat) : ARel μ S w (st.tmps.get t) (a.tmps.getD t undef) := R.ev (.tmp t)
theorem aRes_some {v : ResultVar} {k : AV → Option ρ} (R : RelM G w0 S0 μ S st a w) (h : aRes E st v k = some r) : ∃ c u, k c = some r ∧ (resRun a.tmps v).run E.P w = .ok u w ∧ ARel μ S w c u := by
  cases v with
  | tmp t => exact ⟨_, _, h, rfl, R.tmp t⟩
  | cell t ty =>
    simp only [aRes] at h
    have hb := aLoad_bind (E := E) (t := ty) (heap := st.heap) (v := st.tmps.get t) (g := some) (k := k)
    simp only [Option.bind_some] at hb
    rw [h] at hb
    cases hc : aLoad E ty st.heap (st.tmps.get t) some with
    | none => rw [hc] at hb; cases hb
    | some c =>
      rw [hc] at hb
      obtain ⟨u, hu, hr⟩ := aLoad_ok R (R.tmp t) hc
      obtain ⟨ad, had⟩ := aLoad_addr (st := st) (R.tmp t) hc
      refine ⟨c, u, hb, ?_, hr⟩
      simp only [resRun, Sem.run_bind, had, asAddr, Sem.run_pure, Result.andThen_ok]
      simpa [Instr.loadAt, Instr.sureAddr, had] using hu
theorem aResults_some (R : RelM G w0 S0 μ S st a w) : ∀ {l : List ResultVar} {k : List PV → Option ρ}, aResults E st l k = some r →
    ∃ xs vs, k xs = some r ∧ (l.mapM (resRun a.tmps)).run E.P w = .ok vs w ∧ xs.length = vs.length ∧ l.length = vs.length ∧ ∀ (i : Nat) c v, xs[i]? = some c → vs[i]? = some v → VRel (Done w0 S0 w) w c v
  | [], k, h => ⟨[], [], h, rfl, rfl, rfl, by simp⟩
  | v :: l, k, h => by
    simp only [aResults] at h
    obtain ⟨c, u, h, hu, hr⟩ := aRes_some R h
    obtain ⟨x, h, hx⟩ := aPure_some R hr h
    obtain ⟨xs, vs, h, hrun, hl, hl2, hxs⟩ := aResults_some R h
    refine ⟨x :: xs, u :: vs, h, ?_, by simp [hl], by simp [hl2], fun i c' v' hc hv => ?_⟩
    · simp only [List.mapM_cons, Sem.run_bind, hu, hrun, Result.andThen_ok, Sem.run_pure]
    · cases i with
      | zero => simp at hc hv; subst hc hv; exact hx
      | succ i => exact hxs i c' v' (by simpa using hc) (by simpa using hv)
def pack : List Value → Value
  | [v] => v
  | vs => .tuple vs.toArray
theorem results_run {fn : Func} {tmps : Array Value} {vs : List Value} (h : (fn.results.toList.mapM (resRun tmps)).run P w = .ok vs w) : (results fn tmps).run P w = .ok (pack vs) w := by
  unfold results
  rw [Array.mapM_eq_mapM_toList]
  simp only [map_eq_pure_bind, Sem.run_bind]
  change (((Sem.run P (List.mapM (resRun tmps) fn.results.toList) w).andThen _).andThen _) = _
  rw [h]
  simp only [Result.andThen_ok, Sem.run_pure]
  match vs with
  | [] => rfl
  | [v] => rfl
  | v :: u :: vs => simp [pack]
theorem argT_le : ∀ {args : List PV} {k i : Nat} {c : AV}, (i, c) ∈ argT k args → k ≤ i
  | [], _, _, _, h => by simp [argT] at h
  | y :: l, k, i, c, h => by
    simp only [argT, List.mem_cons, Prod.mk.injEq] at h
    rcases h with ⟨rfl, rfl⟩ | h
    · exact Nat.le_refl _
    · have := argT_le h; omega
theorem argT_mem : ∀ {args : List PV} {k i : Nat} {c : AV}, k ≤ i → (i, c) ∈ argT k args → ∃ x, args[i - k]? = some x ∧ c = .p x
  | [], _, _, _, _, h => by simp [argT] at h
  | y :: l, k, i, c, hk, h => by
    simp only [argT, List.mem_cons, Prod.mk.injEq] at h
    rcases h with ⟨rfl, rfl⟩ | h
    · exact ⟨y, by simp, rfl⟩
    · have hlt := argT_le h
      obtain ⟨x, hx, hc⟩ := argT_mem hlt h
      refine ⟨x, ?_, hc⟩
      rw [show i - k = (i - (k + 1)) + 1 by omega]
      simpa using hx
theorem aFn_ok (hE : E.ok G) (hP : E.P.follows .mixedOrders = true) {O : Opts} (hO : O.ok = true) {f : FuncId} {fn : Func} (hf : E.P.funcs[f]? = some fn) : Spec E.P G f (fun args => aFn E O fn args some) := by
  intro args r h S w vs hS hG hlen hv
  simp only [aFn, onSome_some] at h
  obtain ⟨c, hc, h⟩ := h
  refine calls_of_wp hf hc ?_
  have hR : RelM G w S (fun _ => none) S ⟨Tm.of (args.length + (fn.ntmps - args.length)) (argT 0 args), []⟩ { tmps := vs.toArray ++ Array.replicate (fn.ntmps - vs.toArray.size) undef, defers := [] } w := by
    refine ⟨by simp [hlen, Tm.of], fun i u hc => ?_, rfl, Below.refl _ _, by simp, by simp, fun _ h => h, fun _ h => .inl h, hS, hG, fun _ _ => rfl⟩
    dsimp only at hc ⊢
    rcases Tm.get_of (args.length + (fn.ntmps - args.length)) (argT 0 args) i with h | h
    · rw [h]; exact .top _
    · generalize (Tm.of (args.length + (fn.ntmps - args.length)) (argT 0 args)).get i = c at h ⊢
      obtain ⟨x, hx, rfl⟩ := argT_mem (Nat.zero_le _) h
      have hi : i < args.length := (List.getElem?_eq_some_iff.1 hx).1
      have hiv : i < vs.length := by omega
      rw [Array.getElem?_append_left (by simpa using hiv)] at hc
      exact .p _ _ (hv i _ _ (by simpa using hx) (by simpa using hc))
  refine wp_mono (aCode_ok hE hP hO c _ _ _ _ ⟨_, _, hR⟩ h) fun e a' w' hl => ?_
  obtain ⟨ae, st', he, ⟨μ', S', R'⟩, h'⟩ := hl
  unfold retK at h'
  have key : (match fn.results.toList with
      | [r] => aResults E st' [r] fun xs => match xs with | [x] => some x | _ => none
      | rs => aResults E st' rs fun xs => some (.tup xs)) = some r → ∃ v, (results fn a'.tmps).run E.P w' = .ok v w' ∧ Post w S r (.returned v) w' := by
    intro h
    have fin : ∀ {x : PV} {v : Value}, VRel (Done w S w') w' x v → Post w S x (.returned v) w' := fun hx =>
      ⟨_, Done w S w', rfl, R'.below, fun g h => .inl h, fun g h => h.imp id (fun h => h.1), fun g h => by
        rcases h with h | h
        · exact Nat.lt_of_lt_of_le (hS g h) R'.below.size
        · exact h.2, hx⟩
    split at h
    · rename_i rv hrv
      obtain ⟨xs, vs', h, hrun, hl, hl2, hxs⟩ := aResults_some R' h
      split at h
      · cases h
        rw [← hrv] at hrun
        refine ⟨_, results_run hrun, fin ?_⟩
        match vs', hl with
        | [v], _ => exact hxs 0 _ v rfl rfl
      · cases h
    · rename_i rs hrs
      obtain ⟨xs, vs', h, hrun, hl, hl2, hxs⟩ := aResults_some R' h
      cases h
      refine ⟨_, results_run hrun, fin ?_⟩
      have : pack vs' = Value.tuple vs'.toArray := by
        match vs', hl2 with
        | [], _ => rfl
        | [v], hl2 =>
          match hq : fn.results.toList, hl2 with
          | [rv], _ => exact absurd hq (hrs rv)
        | v :: u :: l, _ => rfl
      rw [this]
      exact .tup xs vs' hl hxs
  cases e <;> cases ae <;> simp only [exitRel] at he
  · exact ⟨R'.defers, key h'⟩
  · cases h'
  · exact ⟨R'.defers, key h'⟩
end
end Go.Proofs.Ytmnedpfilckilaa
