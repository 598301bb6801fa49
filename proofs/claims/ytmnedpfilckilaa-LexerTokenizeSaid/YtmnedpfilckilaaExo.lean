/- What the quiet operations of the pure reading are of the machine. No program is named here. -/
import Derived.Test.YtmnedpfilckilaaExe
set_option linter.unusedSimpArgs false
set_option linter.unusedVariables false
namespace Go.Proofs.Ytmnedpfilckilaa
open Go.RowKit

section
variable {ρ : Type} {r : ρ}
theorem aIf_some {b : Bool} {x y : Option ρ} : aIf b x y = some r ↔ (b = true ∧ x = some r) ∨ (b = false ∧ y = some r) := by cases b <;> simp [aIf]
theorem aGd_some {b : Bool} {x : Option ρ} : aGd b x = some r ↔ b = true ∧ x = some r := by cases b <;> simp [aGd]
theorem onSome_some {α : Type} {o : Option α} {k : α → Option ρ} : onSome o k = some r ↔ ∃ x, o = some x ∧ k x = some r := by cases o <;> simp [onSome]
theorem onInt_some {i : IntKind} {v : PV} {k : Int → Option ρ} : onInt i v k = some r ↔ ∃ n, v = .int i n ∧ k n = some r := by
  cases v <;> simp [onInt, aGd_some]
  rename_i j n
  constructor
  · rintro ⟨rfl, h⟩; exact ⟨n, ⟨rfl, rfl⟩, h⟩
  · rintro ⟨m, ⟨rfl, rfl⟩, h⟩; exact ⟨rfl, h⟩
theorem onBool_some {v : PV} {k : Bool → Option ρ} : onBool v k = some r ↔ ∃ n, v = .bool n ∧ k n = some r := by cases v <;> simp [onBool]
theorem onStr_some {v : PV} {k : List UInt8 → Option ρ} : onStr v k = some r ↔ ∃ n, v = .str n ∧ k n = some r := by cases v <;> simp [onStr]
theorem onAgg_some {v : PV} {k : List PV → Option ρ} : onAgg v k = some r ↔ ∃ n, v = .agg n ∧ k n = some r := by cases v <;> simp [onAgg]
theorem onSl_some {v : PV} {st : Nat} {k : List PV → Option ρ} : onSl st v k = some r ↔ ∃ n, (v = .sl st n ∨ (n = [] ∧ (v = .nilsl ∨ v = .emp))) ∧ k n = some r := by
  cases v <;> simp [onSl, aGd_some]
  rename_i s xs
  constructor
  · rintro ⟨rfl, h⟩; exact ⟨xs, ⟨rfl, rfl⟩, h⟩
  · rintro ⟨m, ⟨rfl, rfl⟩, h⟩; exact ⟨rfl, h⟩
theorem onSl0_some {v : PV} {k : List PV → Option ρ} : onSl0 v k = some r ↔ ∃ n, ((∃ st, v = .sl st n) ∨ (n = [] ∧ (v = .nilsl ∨ v = .emp))) ∧ k n = some r := by
  cases v <;> simp [onSl0]
theorem onP_some {v : AV} {k : PV → Option ρ} : onP v k = some r ↔ ∃ n, v = .p n ∧ k n = some r := by cases v <;> simp [onP]
theorem onGet_some {α : Type} {l : List α} {i : Int} {k : α → Option ρ} : onGet l i k = some r ↔ ∃ x, 0 ≤ i ∧ l[i.toNat]? = some x ∧ k x = some r := by
  unfold onGet
  by_cases h : 0 ≤ i
  · simp [h, onSome_some]
  · simp [h]
theorem allP_some {l : List AV} : ∀ {k : List PV → Option ρ} {n : Unit → Option ρ}, allP l k n = some r → (∃ xs, l = xs.map .p ∧ k xs = some r) ∨ n () = some r := by
  induction l with
  | nil => intro k n h; exact .inl ⟨[], rfl, h⟩
  | cons v l ih =>
    intro k n h
    cases v with
    | p x =>
      rcases ih (k := fun xs => k (x :: xs)) h with ⟨xs, rfl, h2⟩ | h2
      · exact .inl ⟨x :: xs, rfl, h2⟩
      · exact .inr h2
    | _ => exact .inr h
end

section
variable {ρ ρ' : Type} {k : ρ → Option ρ'}
theorem aIf_bind {b : Bool} {x y : Option ρ} : (aIf b x y).bind k = aIf b (x.bind k) (y.bind k) := by cases b <;> rfl
theorem aGd_bind {b : Bool} {x : Option ρ} : (aGd b x).bind k = aGd b (x.bind k) := by cases b <;> rfl
theorem onSome_bind {α : Type} {o : Option α} {g : α → Option ρ} : (onSome o g).bind k = onSome o fun x => (g x).bind k := by cases o <;> rfl
theorem onInt_bind {i : IntKind} {v : PV} {g : Int → Option ρ} : (onInt i v g).bind k = onInt i v fun x => (g x).bind k := by cases v <;> simp [onInt, aGd_bind]
theorem onBool_bind {v : PV} {g : Bool → Option ρ} : (onBool v g).bind k = onBool v fun x => (g x).bind k := by cases v <;> rfl
theorem onStr_bind {v : PV} {g : List UInt8 → Option ρ} : (onStr v g).bind k = onStr v fun x => (g x).bind k := by cases v <;> rfl
theorem onAgg_bind {v : PV} {g : List PV → Option ρ} : (onAgg v g).bind k = onAgg v fun x => (g x).bind k := by cases v <;> rfl
theorem onSl_bind {st : Nat} {v : PV} {g : List PV → Option ρ} : (onSl st v g).bind k = onSl st v fun x => (g x).bind k := by cases v <;> simp [onSl, aGd_bind]
theorem onSl0_bind {v : PV} {g : List PV → Option ρ} : (onSl0 v g).bind k = onSl0 v fun x => (g x).bind k := by cases v <;> rfl
theorem onP_bind {v : AV} {g : PV → Option ρ} : (onP v g).bind k = onP v fun x => (g x).bind k := by cases v <;> rfl
theorem onAggA_bind {v : AV} {g : List AV → Option ρ} : (onAggA v g).bind k = onAggA v fun x => (g x).bind k := by
  unfold onAggA
  split <;> rfl
theorem onGet_bind {α : Type} {l : List α} {i : Int} {g : α → Option ρ} : (onGet l i g).bind k = onGet l i fun x => (g x).bind k := by
  unfold onGet
  cases decide (0 ≤ i) <;> simp [onSome_bind]
theorem allP_bind : ∀ {l : List AV} {g : List PV → Option ρ} {n : Unit → Option ρ}, (allP l g n).bind k = allP l (fun x => (g x).bind k) (fun u => (n u).bind k)
  | [], g, n => rfl
  | v :: l, g, n => by cases v <;> simp [allP, allP_bind (l := l)]
theorem mkAgg_bind {l : List AV} {g : AV → Option ρ} : (mkAgg l g).bind k = mkAgg l fun x => (g x).bind k := by simp [mkAgg, allP_bind]
theorem onCK_bind {c : CK} {v : PV} {g : PV → Option ρ} : (onCK c v g).bind k = onCK c v fun x => (g x).bind k := by
  cases c <;> simp [onCK, onInt_bind, onStr_bind, onBool_bind, onSl_bind]
  split <;> rfl
theorem onShape_bind : ∀ {cs : List CK} {l : List PV} {g : List PV → Option ρ}, (onShape cs l g).bind k = onShape cs l fun x => (g x).bind k
  | [], l, g => by cases l <;> rfl
  | c :: cs, l, g => by cases l <;> simp [onShape, onCons, onCK_bind, onShape_bind (cs := cs)]
theorem aPart_bind {E : Env} {t : TypeId} {cs : List AV} {o : Nat} {g : AV → Option ρ} : (aPart E t cs o g).bind k = aPart E t cs o fun x => (g x).bind k := by
  simp [aPart, onSome_bind, aIf_bind, aGd_bind, mkAgg_bind]
theorem aPartP_bind {E : Env} {t : TypeId} {cs : List PV} {o : Nat} {g : PV → Option ρ} : (aPartP E t cs o g).bind k = aPartP E t cs o fun x => (g x).bind k := by
  simp [aPartP, onSome_bind, aIf_bind, aGd_bind, onShape_bind, onCK_bind]
theorem aInt_bind {op : BinOp} {i : IntKind} {x y : Int} {g : PV → Option ρ} : (aInt op i x y g).bind k = aInt op i x y fun x => (g x).bind k := by
  cases op <;> simp [aInt, aGd_bind]
theorem aShift_bind {op : BinOp} {i : IntKind} {x y : Int} {g : PV → Option ρ} : (aShift op i x y g).bind k = aShift op i x y fun x => (g x).bind k := by
  cases op <;> simp [aShift, aGd_bind]
theorem aStr_bind {op : BinOp} {x y : List UInt8} {g : PV → Option ρ} : (aStr op x y g).bind k = aStr op x y fun x => (g x).bind k := by
  cases op <;> simp [aStr, aGd_bind]
theorem isNil_bind {v : AV} {g : Bool → Option ρ} : (isNil v g).bind k = isNil v fun x => (g x).bind k := by
  unfold isNil
  split <;> rfl
theorem onCons_bind {α : Type} {l : List α} {g : α → List α → Option ρ} : (onCons l g).bind k = onCons l fun x y => (g x y).bind k := by cases l <;> rfl
theorem onNil_bind {α : Type} {l : List α} {g : Option ρ} : (onNil l g).bind k = onNil l (g.bind k) := by cases l <;> rfl
theorem eqFs_bind {E : Env} {rec : TypeId → List PV → List PV → (Bool → Option ρ) → Option ρ} {rec' : TypeId → List PV → List PV → (Bool → Option ρ') → Option ρ'} (hr : ∀ t xs ys g, (rec t xs ys g).bind k = rec' t xs ys fun x => (g x).bind k) {xs ys : List PV} :
    ∀ {l : List Field} {g : Bool → Option ρ}, (eqFs E rec xs ys l g).bind k = eqFs E rec' xs ys l fun x => (g x).bind k
  | [], g => rfl
  | f :: l, g => by simp [eqFs, aGd_bind, hr, eqFs_bind hr (l := l)]
theorem eqEs_bind {E : Env} {rec : TypeId → List PV → List PV → (Bool → Option ρ) → Option ρ} {rec' : TypeId → List PV → List PV → (Bool → Option ρ') → Option ρ'} (hr : ∀ t xs ys g, (rec t xs ys g).bind k = rec' t xs ys fun x => (g x).bind k) {e : TypeId} {xs ys : List PV} :
    ∀ {l : List Nat} {g : Bool → Option ρ}, (eqEs E rec e xs ys l g).bind k = eqEs E rec' e xs ys l fun x => (g x).bind k
  | [], g => rfl
  | f :: l, g => by simp [eqEs, aGd_bind, hr, eqEs_bind hr (l := l)]
theorem aEq_bind {E : Env} : ∀ {d : Nat} {t : TypeId} {xs ys : List PV} {g : Bool → Option ρ}, (aEq E d t xs ys g).bind k = aEq E d t xs ys fun x => (g x).bind k
  | 0, t, xs, ys, g => rfl
  | d + 1, t, xs, ys, g => by
    unfold aEq
    split
    · simp [onCons_bind, onInt_bind]
    · simp [onCons_bind, onStr_bind]
    · simp [onCons_bind, onBool_bind]
    · rw [aGd_bind, eqFs_bind (rec' := aEq E d) (fun t xs ys g => aEq_bind)]
    · rw [aGd_bind, eqEs_bind (rec' := aEq E d) (fun t xs ys g => aEq_bind)]
    · rfl
theorem aEqT_bind {E : Env} {t : TypeId} {x y : AV} {g : Bool → Option ρ} : (aEqT E t x y g).bind k = aEqT E t x y fun x => (g x).bind k := by
  simp [aEqT, aGd_bind, onP_bind, onAgg_bind, aEq_bind]
theorem aBin_bind {E : Env} {op : BinOp} {t yt : TypeId} {x y : AV} {g : PV → Option ρ} : (aBin E op t x y yt g).bind k = aBin E op t x y yt fun x => (g x).bind k := by
  unfold aBin
  split
  · simp only [onSome_bind]; congr 1; funext d; cases d <;> simp [onP_bind, onInt_bind, aShift_bind]
  · simp only [onSome_bind]; congr 1; funext d; cases d <;> simp [onP_bind, onInt_bind, aShift_bind]
  · simp [onP_bind, onInt_bind, aInt_bind]
  · simp [onP_bind, onStr_bind, aStr_bind]
  · simp [onP_bind, onBool_bind]
  · simp [onP_bind, onBool_bind]
  · split <;> simp [isNil_bind]
  · split <;> simp [isNil_bind]
  · simp [aEqT_bind]
  · simp [aEqT_bind]
  · simp [aEqT_bind]
  · simp [aEqT_bind]
  · rfl
theorem aUn_bind {op : UnOp} {x : PV} {g : PV → Option ρ} : (aUn op x g).bind k = aUn op x fun x => (g x).bind k := by
  unfold aUn
  split <;> rfl
theorem aPartB_bind {E : Env} {t : TypeId} {cs : List AV} {o : Nat} {g : AV → Option ρ} : (aPartB E t cs o g).bind k = aPartB E t cs o fun x => (g x).bind k := by
  unfold aPartB
  cases CK.scal (E.ck t) <;> simp [allP_bind, aPartP_bind, aPart_bind]
theorem aLoad_bind {E : Env} {t : TypeId} {heap : List Blk} {v : AV} {g : AV → Option ρ} : (aLoad E t heap v g).bind k = aLoad E t heap v fun x => (g x).bind k := by
  unfold aLoad
  split
  · simp only [onSome_bind]; congr 1; funext d; cases d <;> simp [aPartB_bind]
  · simp only [onSome_bind]; congr 1; funext d; cases d <;> simp [aGd_bind, onGet_bind, aPartP_bind]
  · simp [onSome_bind, aIf_bind, aPartP_bind, onCK_bind]
  · rfl
theorem aField_bind {E : Env} {s : TypeId} {f : Nat} {g : Field → Option ρ} : (aField E s f g).bind k = aField E s f fun x => (g x).bind k := by
  unfold aField
  split <;> simp [onSome_bind]
theorem aFieldAddr_bind {E : Env} {s : TypeId} {v : AV} {f : Nat} {g : AV → Option ρ} : (aFieldAddr E s v f g).bind k = aFieldAddr E s v f fun x => (g x).bind k := by
  unfold aFieldAddr
  simp only [aField_bind, aGd_bind]
  congr 1; funext fd; congr 1
  split <;> simp [aPartP_bind]
theorem aIndexAddr_bind {E : Env} {t : TypeId} {heap : List Blk} {x ix : AV} {g : AV → Option ρ} : (aIndexAddr E t heap x ix g).bind k = aIndexAddr E t heap x ix fun x => (g x).bind k := by
  unfold aIndexAddr
  simp only [onP_bind, onInt_bind]
  congr 1; funext y; congr 1; funext i
  split
  · split
    · simp only [onSome_bind]; congr 1; funext d; cases d <;> simp [aGd_bind]
    · simp [aGd_bind, onSl_bind, onGet_bind]
    · rfl
  · split
    · simp [aGd_bind]
    · simp [aGd_bind, aPartP_bind]
    · rfl
  · rfl
theorem aIndex_bind {E : Env} {t : TypeId} {x ix : AV} {g : AV → Option ρ} : (aIndex E t x ix g).bind k = aIndex E t x ix fun x => (g x).bind k := by
  unfold aIndex
  simp only [onP_bind, onInt_bind]
  congr 1; funext y; congr 1; funext i; congr 1; funext z
  split <;> simp [onStr_bind, onGet_bind, onAgg_bind, aGd_bind, aPartP_bind]
theorem aLow_bind {lo : Option AV} {h : Nat} {g : Nat → Option ρ} : (aLow lo h g).bind k = aLow lo h fun x => (g x).bind k := by
  cases lo <;> simp [aLow, onP_bind, onInt_bind, aGd_bind]
theorem aBounds_bind {n : Nat} {lo hi : Option AV} {g : Nat → Nat → Option ρ} : (aBounds n lo hi g).bind k = aBounds n lo hi fun x y => (g x y).bind k := by
  cases hi <;> simp [aBounds, onP_bind, onInt_bind, aGd_bind, aLow_bind]
theorem aSlice_bind {E : Env} {t : TypeId} {x : AV} {lo hi : Option AV} {g : AV → Option ρ} : (aSlice E t x lo hi g).bind k = aSlice E t x lo hi fun x => (g x).bind k := by
  unfold aSlice
  simp only [onP_bind]
  congr 1; funext y
  split <;> simp [onStr_bind, aBounds_bind, onSl_bind, aGd_bind]
theorem u8s_bind : ∀ {l : List PV} {g : List UInt8 → Option ρ}, (u8s l g).bind k = u8s l fun x => (g x).bind k
  | [], g => rfl
  | v :: l, g => by simp [u8s, onInt_bind, u8s_bind (l := l)]
theorem aConv_bind {E : Env} {t u : TypeId} {x : AV} {g : AV → Option ρ} : (aConv E t u x g).bind k = aConv E t u x fun x => (g x).bind k := by
  unfold aConv
  split
  · simp [onP_bind, onInt_bind]
  · simp [onP_bind, onStr_bind]
  · simp [onP_bind, onInt_bind]
  · split
    · simp [onP_bind, onSl_bind, u8s_bind]
    · rfl
  · rfl
theorem aArgs_bind : ∀ {l : List AV} {g : List PV → Option ρ}, (aArgs l g).bind k = aArgs l fun x => (g x).bind k
  | [], g => rfl
  | v :: l, g => by simp [aArgs, onP_bind, aArgs_bind (l := l)]
theorem run_bind' {c : Callee} {args : List PV} {g : PV → Option ρ} : (c.run args g).bind k = c.run args fun x => (g x).bind k := by
  rw [c.par args g, c.par args fun x => (g x).bind k, Option.bind_assoc]
theorem aCall_bind {E : Env} {f : AV} {args : List AV} {g : AV → Option ρ} : (aCall E f args g).bind k = aCall E f args fun x => (g x).bind k := by
  unfold aCall
  simp only [onP_bind]
  congr 1; funext y
  cases y <;> try rfl
  simp only [aArgs_bind]
  congr 1; funext xs
  split <;> simp [run_bind']
theorem aBuiltin_bind {E : Env} {b : Builtin} {ts : List TypeId} {args : List AV} {heap : List Blk} {g : AV → Option ρ} : (aBuiltin E b ts args heap g).bind k = aBuiltin E b ts args heap fun x => (g x).bind k := by
  unfold aBuiltin
  split
  · simp only [onSome_bind]
    congr 1; funext t; congr 1; funext d
    split
    · simp [onP_bind, onStr_bind]
    · rfl
    · split
      · simp only [onSome_bind]; congr 1; funext d; cases d <;> rfl
      · simp [onP_bind, onSl0_bind]
    · rfl
  · simp [onP_bind, onInt_bind]
  · simp [onP_bind, onInt_bind]
  · rfl
theorem aFill_bind : ∀ {l : List (Option (Nat × Nat) × AV)} {cs : List AV} {g : List AV → Option ρ}, (aFill cs l g).bind k = aFill cs l fun x => (g x).bind k
  | [], cs, g => rfl
  | (p, v) :: l, cs, g => by simp [aFill, onSome_bind, aGd_bind, aFill_bind (l := l)]
theorem aBuild_bind {E : Env} {t : TypeId} {parts : List (Nat × AV)} {g : AV → Option ρ} : (aBuild E t parts g).bind k = aBuild E t parts fun x => (g x).bind k := by
  unfold aBuild
  simp only [onSome_bind, aGd_bind]
  congr 1; funext i; congr 1; funext z; congr 1
  split <;> simp [aGd_bind, aFill_bind, mkAgg_bind]
theorem aVal_bind {E : Env} {o : Oper} {ev : Operand → AV} {heap : List Blk} {g : AV → Option ρ} : (aVal E o ev heap g).bind k = aVal E o ev heap fun x => (g x).bind k := by
  unfold aVal
  split
  · rfl
  · rfl
  · simp [onP_bind, onBool_bind, aIf_bind]
  · split <;> rfl
  · exact aBin_bind
  · simp [onP_bind, aUn_bind]
  · exact aConv_bind
  · simp [aField_bind, onAggA_bind, aPart_bind]
  · exact aFieldAddr_bind
  · exact aIndex_bind
  · exact aIndexAddr_bind
  · exact aSlice_bind
  · exact aLoad_bind
  · split <;> simp [onSome_bind]
  · simp only [aGd_bind]; congr 1; split <;> rfl
  · split <;> simp [onSome_bind, aGd_bind, aArgs_bind]
  · exact aBuild_bind
  · split
    · exact aBuiltin_bind
    · exact aCall_bind
    · rfl
  · rfl
theorem aVal_some {E : Env} {o : Oper} {ev : Operand → AV} {heap : List Blk} {g : AV → Option ρ} {r : ρ} (h : aVal E o ev heap g = some r) : ∃ c, aVal E o ev heap some = some c ∧ g c = some r := by
  have := aVal_bind (E := E) (o := o) (ev := ev) (heap := heap) (g := some) (k := g)
  simp only [Option.bind_some] at this
  rw [h] at this
  cases hc : aVal E o ev heap some with
  | none => rw [hc] at this; cases this
  | some c => rw [hc] at this; exact ⟨c, rfl, this⟩
end

section
variable {P : Program} {μ : Nat → Option Value} {S : Nat → Prop} {w : World}

theorem ARel.int {k : IntKind} {n : Int} {v : Value} (h : ARel μ S w (.p (.int k n)) v) : v = .int k n := by cases h with | p _ _ h => cases h; rfl
theorem ARel.bool {n : Bool} {v : Value} (h : ARel μ S w (.p (.bool n)) v) : v = .bool n := by cases h with | p _ _ h => cases h; rfl
theorem ARel.str {n : List UInt8} {v : Value} (h : ARel μ S w (.p (.str n)) v) : v = .string ⟨n.toArray⟩ := by cases h with | p _ _ h => cases h; rfl

theorem ba_app (a b : List UInt8) : (⟨a.toArray⟩ : ByteArray) ++ ⟨b.toArray⟩ = ⟨(a ++ b).toArray⟩ := by
  apply ByteArray.ext
  simp [ByteArray.data_append]
theorem ba_toList (a : List UInt8) : (⟨a.toArray⟩ : ByteArray).toList = a := by rw [ByteArray.toList_eq]
theorem ba_size (a : List UInt8) : (⟨a.toArray⟩ : ByteArray).size = a.length := by simp [ByteArray.size]

theorem aInt_ok {op : BinOp} {i : IntKind} {a b : Int} {c : PV} (t : TypeId) (x y : Operand) (hop : op ≠ .shl ∧ op ≠ .shr) (h : aInt op i a b some = some c) :
    ∃ v, (do eqGuard op t x y (.int i a) (.int i b); binOp op t (.int i a) (.int i b)).run P w = .ok v w ∧ VRel S w c v := by
  cases op <;> simp [aInt, aGd_some] at h hop <;> first
    | (obtain ⟨h0, rfl⟩ := h; simp [eqGuard, binOp, Op.intArith, Op.intDiv, Op.intBits, Op.intCmp, h0]; constructor)
    | (subst h; simp [eqGuard, binOp, Op.intArith, Op.intDiv, Op.intBits, Op.intCmp]; constructor)
theorem aShift_ok {op : BinOp} {i j : IntKind} {a b : Int} {c : PV} (t : TypeId) (x y : Operand) (h : aShift op i a b some = some c) :
    ∃ v, (do eqGuard op t x y (.int i a) (.int j b); binOp op t (.int i a) (.int j b)).run P w = .ok v w ∧ VRel S w c v := by
  cases op <;> simp [aShift, aGd_some] at h <;> obtain ⟨h0, h⟩ := h <;> subst h <;>
    have h0' : ¬ b < 0 := by omega
  all_goals
    simp [eqGuard, binOp, Op.shift, h0'] <;> constructor
theorem aStr_ok {op : BinOp} {a b : List UInt8} {c : PV} (t : TypeId) (x y : Operand) (h : aStr op a b some = some c) :
    ∃ v, (do eqGuard op t x y (.string ⟨a.toArray⟩) (.string ⟨b.toArray⟩); binOp op t (.string ⟨a.toArray⟩) (.string ⟨b.toArray⟩)).run P w = .ok v w ∧ VRel S w c v := by
  cases op <;> simp [aStr, aGd_some] at h
  case add =>
    obtain ⟨h0, rfl⟩ := h
    refine ⟨.string ⟨(a ++ b).toArray⟩, ?_, .str _⟩
    have h2 : ¬ (9223372036854775807 : Int) < (a.length : Int) + (b.length : Int) := by omega
    simp [eqGuard, binOp, Op.stringOp, ba_size, ba_app, show IntKind.i64.max = 9223372036854775807 from rfl, h2]
  all_goals
    subst h
    simp [eqGuard, binOp, Op.stringOp, ba_toList, ba_size, ba_app]
    constructor

theorem bytes_beq (a b : List UInt8) : ((⟨a.toArray⟩ : ByteArray) == ⟨b.toArray⟩) = (a == b) := by rw [beq_toListBytes, ba_toList, ba_toList]

theorem isNil_spec {x : AV} {b : Bool} {v : Value} (hx : ARel μ S w x v) (h : isNil x some = some b) : ∃ a n c, v = .slice a n c ∧ b = a.isNone := by
  unfold isNil at h
  split at h
  all_goals first
    | (cases hx with | p _ _ hx => cases hx <;> simp at h <;> subst h <;> exact ⟨_, _, _, rfl, rfl⟩)
    | cases h
theorem isNil_par {ρ : Type} {r : ρ} {x : AV} {k : Bool → Option ρ} (h : isNil x k = some r) : ∃ b, k b = some r ∧ isNil x some = some b := by
  unfold isNil at h ⊢
  split at h
  all_goals first
    | exact ⟨_, h, rfl⟩
    | cases h

/-! ## Where a state of the pure reading stands in the machine -/
def foot : Value → Option Nat
  | .pointer (some a) => some a.block
  | .slice (some a) _ _ => some a.block
  | _ => none
def footO (v : Option Value) : Option Nat := v.bind foot
def Blk.live : Blk → Bool
  | .none => false
  | _ => true
def BRel (base : Nat) (μ : Nat → Option Value) (S : Nat → Prop) (w : World) (i : Nat) : Blk → Prop
  | .none => True
  | .box cs => ∃ g ty vs, μ i = some (.pointer (some ⟨g, 0, none⟩)) ∧ base ≤ g ∧ ¬ S g ∧ w.heap[g]? = some (.cells (List.toArray vs) ty (0, 0)) ∧ cs.length = vs.length ∧ (∀ v ∈ vs, v.oneCell' = true) ∧
      ∀ (j : Nat) c v, cs[j]? = some c → vs[j]? = some v → ARel μ S w c v
  | .row e st xs => ∃ mv vs, μ i = some mv ∧ w.ownsRow base e st mv xs.length vs ∧ 0 < st ∧ (∀ g, foot mv = some g → ¬ S g) ∧ (∀ x ∈ xs, x.cells.length = st) ∧ (∀ v ∈ vs, v.oneCell' = true) ∧
      ∀ (k j : Nat) x c, xs[k]? = some x → x.cells[j]? = some c → ∃ v, vs[k * st + j]? = some v ∧ VRel S w c v
  | .iter l pos => ∃ g, μ i = some (.pointer (some ⟨g, 0, none⟩)) ∧ base ≤ g ∧ ¬ S g ∧ w.heap[g]? = some (.stringIter ⟨l.toArray⟩ pos)

structure RelM (G : World → Prop) (w0 : World) (S0 : Nat → Prop) (μ : Nat → Option Value) (S : Nat → Prop) (st : St) (a : Act) (w : World) : Prop where
  size : a.tmps.size = st.tmps.n
  tmps : ∀ (i : Nat) v, a.tmps[i]? = some v → ARel μ S w (st.tmps.get i) v
  defers : a.defers = []
  below : Below w0.heap.size w0 w
  heap : ∀ (i : Nat) b, st.heap[i]? = some b → BRel w0.heap.size μ S w i b
  sep : ∀ (i j : Nat) bi bj g, i ≠ j → st.heap[i]? = some bi → st.heap[j]? = some bj → bi.live = true → bj.live = true → footO (μ i) = some g → footO (μ j) ≠ some g
  s0 : ∀ g, S0 g → S g
  s1 : ∀ g, S g → S0 g ∨ w0.heap.size ≤ g
  s2 : ∀ g, S g → g < w.heap.size
  gw : G w0
  dom : ∀ i, st.heap.length ≤ i → μ i = none

theorem cellOf_rel {v : Value} (h : constOk v = true) : VRel S w (cellOf v) v := by
  unfold constOk at h
  split at h
  · constructor
  · constructor
  · rename_i s
    have : s = ⟨s.data.toList.toArray⟩ := by cases s; simp
    rw [this]
    exact .str _
  · rename_i f fi ca
    simp at h
    obtain ⟨rfl, rfl⟩ := h
    exact .fn f
  · exact .nilsl
  · cases h
theorem constOk_one {v : Value} (h : constOk v = true) : v.oneCell' = true := by
  unfold constOk at h
  split at h <;> first | rfl | cases h
theorem ofConst_rel (v : Value) : ARel μ S w (ofConst v) v := by
  unfold ofConst
  split
  · rename_i cs
    cases h : cs.toList.all constOk
    · exact .top _
    · simp only [cond_true]
      have hall := List.all_eq_true.1 h
      refine .p _ _ ?_
      have := VRel.agg (S := S) (w := w) (cs.toList.map cellOf) cs.toList (by simp) (fun i c v hc hv => ?_) (fun v hv => constOk_one (hall v hv))
      · simpa using this
      · rw [List.getElem?_map, hv] at hc
        simp at hc
        subst hc
        exact cellOf_rel (hall v (List.mem_of_getElem? hv))
  · cases h : constOk v
    · exact .top _
    · exact .p _ _ (cellOf_rel h)

variable {G : World → Prop} {w0 : World} {S0 : Nat → Prop} {st : St} {a : Act}
theorem RelM.ev (R : RelM G w0 S0 μ S st a w) (x : Operand) : ARel μ S w (st.ev x) (a.eval x) := by
  cases x with
  | tmp t =>
    simp only [St.ev, Act.eval]
    cases h : a.tmps[t]? with
    | none =>
      have hn : st.tmps.n ≤ t := by have := Array.getElem?_eq_none_iff.1 h; rw [R.size] at this; exact this
      rw [Tm.get_out _ hn]; exact .top _
    | some v =>
      have : a.tmps.getD t undef = v := by
        rw [Array.getD_eq_getD_getElem?, h]; rfl
      rw [this]; exact R.tmps t v h
  | const v => exact ofConst_rel v
  | global g => exact .top _
  | func f => exact .p _ _ (.fn f)

theorem Act.put_defers' (a : Act) (dst : Option Tmp) (v : Value) : (a.put dst v).defers = a.defers := by cases dst <;> rfl
theorem RelM.put (R : RelM G w0 S0 μ S st a w) (dst : Option Tmp) {c : AV} {v : Value} (h : ARel μ S w c v) : RelM G w0 S0 μ S (st.put dst c) (a.put dst v) w := by
  cases dst with
  | none => exact R
  | some d =>
    refine ⟨by simp [St.put, Act.put, R.size, Tm.set], fun i u hc => ?_, R.defers, R.below, R.heap, R.sep, R.s0, R.s1, R.s2, R.gw, R.dom⟩
    simp only [St.put, Act.put] at hc ⊢
    by_cases e : i = d
    · subst e
      rcases Tm.get_set_eq st.tmps i c with he | he
      · rw [he]
        rw [Array.getElem?_setIfInBounds, if_pos rfl] at hc
        split at hc
        · cases hc; exact h
        · cases hc
      · rw [he]; exact .top _
    · rw [Tm.get_set_ne _ _ e]
      rw [Array.getElem?_setIfInBounds_ne (Ne.symm e)] at hc
      exact R.tmps i u hc

/-! ## Parts, loads, addresses -/
def ListRel (μ : Nat → Option Value) (S : Nat → Prop) (w : World) (cs : List AV) (vs : List Value) : Prop :=
  cs.length = vs.length ∧ (∀ v ∈ vs, v.oneCell' = true) ∧ ∀ (j : Nat) c v, cs[j]? = some c → vs[j]? = some v → ARel μ S w c v
def ListRelP (S : Nat → Prop) (w : World) (cs : List PV) (vs : List Value) : Prop :=
  cs.length = vs.length ∧ (∀ v ∈ vs, v.oneCell' = true) ∧ ∀ (j : Nat) c v, cs[j]? = some c → vs[j]? = some v → VRel S w c v
theorem ListRel.sub {cs : List AV} {vs : List Value} (h : ListRel μ S w cs vs) (o n : Nat) : ListRel μ S w ((cs.drop o).take n) ((vs.drop o).take n) := by
  obtain ⟨h1, h2, h3⟩ := h
  refine ⟨by simp [h1], fun v hv => h2 v (List.mem_of_mem_drop (List.mem_of_mem_take hv)), fun j c v hc hv => ?_⟩
  rw [List.getElem?_take] at hc hv
  split at hc
  · rw [if_pos (by assumption)] at hv
    rw [List.getElem?_drop] at hc hv
    exact h3 _ c v hc hv
  · cases hc
theorem ListRelP.sub {cs : List PV} {vs : List Value} (h : ListRelP S w cs vs) (o n : Nat) : ListRelP S w ((cs.drop o).take n) ((vs.drop o).take n) := by
  obtain ⟨h1, h2, h3⟩ := h
  refine ⟨by simp [h1], fun v hv => h2 v (List.mem_of_mem_drop (List.mem_of_mem_take hv)), fun j c v hc hv => ?_⟩
  rw [List.getElem?_take] at hc hv
  split at hc
  · rw [if_pos (by assumption)] at hv
    rw [List.getElem?_drop] at hc hv
    exact h3 _ c v hc hv
  · cases hc
theorem ListRel.p {xs : List PV} {vs : List Value} (h : ListRel μ S w (xs.map .p) vs) : ListRelP S w xs vs := by
  obtain ⟨h1, h2, h3⟩ := h
  refine ⟨by simpa using h1, h2, fun j c v hc hv => ?_⟩
  have := h3 j (.p c) v (by simp [hc]) hv
  cases this; assumption
theorem ListRelP.av {xs : List PV} {vs : List Value} (h : ListRelP S w xs vs) : ListRel μ S w (xs.map .p) vs := by
  obtain ⟨h1, h2, h3⟩ := h
  refine ⟨by simpa using h1, h2, fun j c v hc hv => ?_⟩
  rw [List.getElem?_map] at hc
  cases hx : xs[j]? with
  | none => simp [hx] at hc
  | some x => simp [hx] at hc; subst hc; exact .p _ _ (h3 j x v hx hv)
theorem ListRelP.agg {xs : List PV} {vs : List Value} (h : ListRelP S w xs vs) : VRel S w (.agg xs) (.agg vs.toArray) := .agg xs vs h.1 h.2.2 h.2.1
theorem mkAgg_some {l : List AV} {vs : List Value} {c : AV} (h : mkAgg l some = some c) (hl : ListRel μ S w l vs) : ARel μ S w c (.agg vs.toArray) := by
  unfold mkAgg at h
  rcases allP_some h with ⟨xs, rfl, h2⟩ | h2
  · cases h2
    exact .p _ _ hl.p.agg
  · cases h2
    exact .agg l vs hl.1 hl.2.2 hl.2.1
theorem ListRel.get {cs : List AV} {vs : List Value} (h : ListRel μ S w cs vs) {o : Nat} {c : AV} (hc : cs[o]? = some c) : ∃ v, vs[o]? = some v ∧ ARel μ S w c v := by
  have hlt : o < vs.length := by rw [← h.1]; exact (List.getElem?_eq_some_iff.1 hc).1
  exact ⟨vs[o], List.getElem?_eq_getElem hlt, h.2.2 o c _ hc (List.getElem?_eq_getElem hlt)⟩
theorem ListRelP.get {cs : List PV} {vs : List Value} (h : ListRelP S w cs vs) {o : Nat} {c : PV} (hc : cs[o]? = some c) : ∃ v, vs[o]? = some v ∧ VRel S w c v := by
  have hlt : o < vs.length := by rw [← h.1]; exact (List.getElem?_eq_some_iff.1 hc).1
  exact ⟨vs[o], List.getElem?_eq_getElem hlt, h.2.2 o c _ hc (List.getElem?_eq_getElem hlt)⟩

theorem tinfo_some {E : Env} {t : TypeId} {g : Bool × Nat} (h : E.tinfo t = some g) : ∃ d i, E.P.underlying t = some d ∧ E.P.info? t = some i ∧ g = (aggD d, i.size) := by
  unfold Env.tinfo at h
  split at h
  · rename_i d hd
    split at h
    · rename_i i hi
      simp only [Option.some.injEq] at h
      exact ⟨d, i, hd, hi, h.symm⟩
    · cases h
  · cases h
theorem run_isAgg' {d : TypeDesc} {t : TypeId} (h : P.underlying t = some d) : (isAgg t).run P w = .ok (aggD d) w := by
  simp only [isAgg, Sem.run_bind, run_underlying h, Result.andThen_ok]
  cases d <;> rfl
theorem run_sizeOf' {t : TypeId} {i : TypeInfo} (h : P.info? t = some i) : (sizeOf t).run P w = .ok i.size w := by simp [sizeOf, typeInfo, h]

/-- A part of cells: either n of them as one aggregate, or one. -/
theorem aPart_spec {E : Env} {t : TypeId} {cs : List AV} {vs : List Value} {o : Nat} {c : AV} (h : aPart E t cs o some = some c) (hl : ListRel μ S w cs vs) :
    ∃ d i v, E.P.underlying t = some d ∧ E.P.info? t = some i ∧ ARel μ S w c v ∧ ((aggD d = true ∧ ((vs.drop o).take i.size).length = i.size ∧ v = .agg ((vs.drop o).take i.size).toArray) ∨ (aggD d = false ∧ vs[o]? = some v)) := by
  simp only [aPart, onSome_some, aIf_some, aGd_some, decide_eq_true_eq] at h
  obtain ⟨g, hg, h⟩ := h
  obtain ⟨d, i, hd, hi, rfl⟩ := tinfo_some hg
  rcases h with ⟨hg, hle, h⟩ | ⟨hg, c', hc, h⟩
  · exact ⟨d, i, _, hd, hi, mkAgg_some h (hl.sub o i.size), .inl ⟨hg, by have := hl.1; dsimp only at hle; simp; omega, rfl⟩⟩
  · simp at h; subst h
    obtain ⟨v, hv, hr⟩ := hl.get hc
    exact ⟨d, i, v, hd, hi, hr, .inr ⟨hg, hv⟩⟩
theorem VRel.empty {S : Nat → Prop} {w : World} {xs : List PV} {x : PV} {v : Value} {sz : Nat} (hx : VRel S w x v) (h : x = .sl sz xs ∨ (xs = [] ∧ (x = .nilsl ∨ x = .emp))) : VRel S w (.sl sz xs) v := by
  rcases h with rfl | ⟨rfl, rfl | rfl⟩
  · exact hx
  · cases hx; exact .slnil _
  · cases hx with
    | emp b o hb => exact .sl0 sz _ 0 (by decide) (by simp)
theorem onCK_spec {ρ : Type} {r : ρ} {c : CK} {x : PV} {k : PV → Option ρ} (h : onCK c x k = some r) :
    ∃ y, k y = some r ∧ (∀ {ρ' : Type} (k' : PV → Option ρ'), onCK c x k' = k' y) ∧ y.one = true ∧ ∀ (S : Nat → Prop) (w : World) v, VRel S w x v → VRel S w y v := by
  cases c <;> simp only [onCK, onInt_some, onStr_some, onBool_some, onSl_some] at h
  · obtain ⟨n, rfl, h⟩ := h; exact ⟨_, h, fun k' => by simp [onCK, onInt, aGd], rfl, fun _ _ _ h => h⟩
  · obtain ⟨n, rfl, h⟩ := h; exact ⟨_, h, fun k' => rfl, rfl, fun _ _ _ h => h⟩
  · obtain ⟨n, rfl, h⟩ := h; exact ⟨_, h, fun k' => rfl, rfl, fun _ _ _ h => h⟩
  · obtain ⟨n, hx, h⟩ := h
    refine ⟨_, h, fun k' => ?_, rfl, fun S w v hv => hv.empty hx⟩
    rcases hx with rfl | ⟨rfl, rfl | rfl⟩ <;> simp [onCK, onSl, aGd]
  · split at h
    · exact ⟨_, h, fun k' => rfl, rfl, fun _ _ _ h => h⟩
    · cases h
  · cases h
theorem onShape_spec {ρ : Type} {r : ρ} : ∀ {cs : List CK} {l : List PV} {k : List PV → Option ρ}, onShape cs l k = some r →
    ∃ ys, k ys = some r ∧ (∀ {ρ' : Type} (k' : List PV → Option ρ'), onShape cs l k' = k' ys) ∧ ∀ (S : Nat → Prop) (w : World) vs, ListRelP S w l vs → ListRelP S w ys vs
  | [], l, k, h => by
    cases l with
    | nil => exact ⟨[], h, fun _ => rfl, fun _ _ _ h => h⟩
    | cons x l => cases h
  | c :: cs, l, k, h => by
    cases l with
    | nil => cases h
    | cons x l =>
      simp only [onShape, onCons] at h
      obtain ⟨y, h, hy, _, hyr⟩ := onCK_spec h
      obtain ⟨ys, h, hys, hysr⟩ := onShape_spec h
      refine ⟨y :: ys, h, fun k' => by simp only [onShape, onCons]; rw [hy, hys], fun S w vs hl => ?_⟩
      cases vs with
      | nil => exact absurd hl.1 (by simp)
      | cons v vs =>
        have h2 := hysr S w vs ⟨by simpa using hl.1, fun u hu => hl.2.1 u (by simp [hu]), fun j c u hc hu => hl.2.2 (j + 1) c u (by simpa using hc) (by simpa using hu)⟩
        refine ⟨by simp [h2.1], hl.2.1, fun j c u hc hu => ?_⟩
        cases j with
        | zero => simp at hc hu; subst hc hu; exact hyr S w v (hl.2.2 0 x v rfl rfl)
        | succ j => exact h2.2.2 j c u (by simpa using hc) (by simpa using hu)
theorem aPartP_par {ρ : Type} {r : ρ} {E : Env} {t : TypeId} {cs : List PV} {o : Nat} {k : PV → Option ρ} (h : aPartP E t cs o k = some r) : ∃ y, k y = some r ∧ ∀ {ρ' : Type} (k' : PV → Option ρ'), aPartP E t cs o k' = k' y := by
  simp only [aPartP, onSome_some, aIf_some] at h
  obtain ⟨g, hg, h⟩ := h
  rcases h with ⟨h1, h⟩ | ⟨h1, x, hx, h⟩
  · obtain ⟨ys, h, hys, _⟩ := onShape_spec h
    simp only [aGd_some, decide_eq_true_eq] at h
    exact ⟨_, h.2, fun k' => by simp [aPartP, hg, onSome, h1, aIf, hys, h.1, aGd]⟩
  · obtain ⟨y, h, hy, _⟩ := onCK_spec h
    exact ⟨_, h, fun k' => by simp [aPartP, hg, onSome, h1, aIf, hx, hy]⟩
theorem aPartP_spec {E : Env} {t : TypeId} {cs : List PV} {vs : List Value} {o : Nat} {c : PV} (h : aPartP E t cs o some = some c) (hl : ListRelP S w cs vs) :
    ∃ d i v, E.P.underlying t = some d ∧ E.P.info? t = some i ∧ VRel S w c v ∧ ((aggD d = true ∧ ((vs.drop o).take i.size).length = i.size ∧ v = .agg ((vs.drop o).take i.size).toArray) ∨ (aggD d = false ∧ vs[o]? = some v)) ∧
      ((aggD d = true ∧ ∃ ys, c = .agg ys ∧ ListRelP S w ys ((vs.drop o).take i.size)) ∨ (aggD d = false ∧ c.one = true)) := by
  simp only [aPartP, onSome_some, aIf_some, aGd_some, decide_eq_true_eq] at h
  obtain ⟨g, hg, h⟩ := h
  obtain ⟨d, i, hd, hi, rfl⟩ := tinfo_some hg
  rcases h with ⟨hg, h⟩ | ⟨hg, c', hc, h⟩
  · obtain ⟨ys, h, _, hys⟩ := onShape_spec h
    simp only [aGd_some, decide_eq_true_eq, Option.some.injEq] at h
    obtain ⟨hlen, rfl⟩ := h
    have hr := hys S w _ (hl.sub o i.size)
    exact ⟨d, i, _, hd, hi, hr.agg, .inl ⟨hg, by rw [← hr.1]; exact hlen, rfl⟩, .inl ⟨hg, ys, rfl, hr⟩⟩
  · obtain ⟨v, hv, hr⟩ := hl.get hc
    obtain ⟨y, h, _, h1, hyr⟩ := onCK_spec h
    cases h
    exact ⟨d, i, v, hd, hi, hyr S w v hr, .inr ⟨hg, hv⟩, .inr ⟨hg, h1⟩⟩
theorem run_part {t : TypeId} {d : TypeDesc} {i : TypeInfo} {vs : List Value} {o : Nat} {v : Value} (hd : P.underlying t = some d) (hi : P.info? t = some i)
    (h : (aggD d = true ∧ ((vs.drop o).take i.size).length = i.size ∧ v = .agg ((vs.drop o).take i.size).toArray) ∨ (aggD d = false ∧ vs[o]? = some v)) : (part t vs.toArray o).run P w = .ok v w := by
  simp only [part, Sem.run_bind, run_isAgg' hd, Result.andThen_ok]
  rcases h with ⟨hg, hle, rfl⟩ | ⟨hg, hv⟩
  · simp only [hg, if_true, Sem.run_bind, run_sizeOf' hi, Result.andThen_ok, Sem.run_pure]
    congr 2
    simp [List.extract_eq_take_drop]
  · simp [hg, hv]
theorem run_load' {t : TypeId} {d : TypeDesc} {i : TypeInfo} {vs : List Value} {o g B : Nat} {v : Value} (hd : P.underlying t = some d) (hi : P.info? t = some i)
    (hc : ∀ (j : Nat) u, vs[j]? = some u → w.cell? ⟨g, B + j, none⟩ = some u)
    (h : (aggD d = true ∧ ((vs.drop o).take i.size).length = i.size ∧ v = .agg ((vs.drop o).take i.size).toArray) ∨ (aggD d = false ∧ vs[o]? = some v)) : (loadVar t ⟨g, B + o, none⟩).run P w = .ok v w := by
  simp only [loadVar, Sem.run_bind, run_isAgg' hd, Result.andThen_ok]
  rcases h with ⟨hg, hle, rfl⟩ | ⟨hg, hv⟩
  · simp only [hg, if_true, Sem.run_bind, run_sizeOf' hi, Result.andThen_ok, Sem.run_pure]
    have hl := hle
    have := run_loadCells_list (P := P) w ⟨g, B + o, none⟩ ((vs.drop o).take i.size) (fun j u hj => by
      rw [List.getElem?_take] at hj
      split at hj
      · rw [List.getElem?_drop] at hj
        have := hc _ _ hj
        unfold Addr.add
        split
        · rename_i h0; subst h0; simpa using this
        · rw [← Nat.add_assoc] at this; exact this
      · cases hj)
    rw [hl] at this
    rw [this]; rfl
  · simp [hg, load, Sem.run, hc _ _ hv]
theorem BRel.box_list {base i : Nat} {cs : List AV} (h : BRel base μ S w i (.box cs)) : ∃ g ty vs, μ i = some (.pointer (some ⟨g, 0, none⟩)) ∧ base ≤ g ∧ ¬ S g ∧ w.heap[g]? = some (.cells (List.toArray vs) ty (0, 0)) ∧ ListRel μ S w cs vs := by
  obtain ⟨g, ty, vs, h1, h2, h3, h4, h5, h6, h7⟩ := h
  exact ⟨g, ty, vs, h1, h2, h3, h4, h5, h6, h7⟩
theorem cell_of_cells {g : Nat} {vs : List Value} {ty : TypeId} {fr : Nat × Nat} (h : w.heap[g]? = some (.cells vs.toArray ty fr)) (j : Nat) (u : Value) (hj : vs[j]? = some u) : w.cell? ⟨g, j, none⟩ = some u := by
  rw [cell_of_row w g j vs.toArray ty fr h]
  simpa using hj

/-- The cells of element x at place o of block b. -/
theorem VRel.at_cells {x : PV} {v : Value} (h : VRel S w (.at_ x) v) : ∃ (b o : Nat) (vs : List Value), v = .pointer (some ⟨b, o, none⟩) ∧ S b ∧ 0 < x.cells.length ∧ ListRelP S w x.cells vs ∧
    (∀ (j : Nat) u, vs[j]? = some u → w.cell? ⟨b, o + j, none⟩ = some u) := by
  cases h with
  | at_ x b o val hb hp h1 h2 h3 =>
    have key : ∀ (j : Nat) u, ((List.range x.cells.length).map val)[j]? = some u → ∃ c, x.cells[j]? = some c ∧ u = val j := fun j u hj => by
      rw [List.getElem?_map] at hj
      cases hr : (List.range x.cells.length)[j]? with
      | none => simp [hr] at hj
      | some i =>
        simp [hr] at hj
        obtain ⟨hlt, rfl⟩ := List.getElem?_eq_some_iff.1 hr
        simp at hlt
        exact ⟨_, List.getElem?_eq_getElem hlt, by simpa using hj.symm⟩
    refine ⟨b, o, (List.range x.cells.length).map val, rfl, hb, hp, ⟨by simp, fun v hv => ?_, fun j c u hc hu => ?_⟩, fun j u hj => ?_⟩
    · obtain ⟨j, hj⟩ := List.getElem?_of_mem hv
      obtain ⟨c, hc, rfl⟩ := key j v hj
      exact h3 j c hc
    · obtain ⟨c', hc', rfl⟩ := key j u hu
      exact h2 j c' hc' |> fun h => by rw [hc] at hc'; cases hc'; exact h
    · obtain ⟨c, hc, rfl⟩ := key j u hj
      exact h1 j c hc
theorem VRel.mk_at {x : PV} {b o : Nat} {vs : List Value} (hb : S b) (hp : 0 < x.cells.length) (hl : ListRelP S w x.cells vs) (hc : ∀ (j : Nat) u, vs[j]? = some u → w.cell? ⟨b, o + j, none⟩ = some u) :
    VRel S w (.at_ x) (.pointer (some ⟨b, o, none⟩)) := by
  have key : ∀ (j : Nat) c, x.cells[j]? = some c → vs[j]? = some (vs.getD j undef) := fun j c h => by
    obtain ⟨v, hv, _⟩ := hl.get h
    rw [List.getD_eq_getElem?_getD, hv]; rfl
  exact .at_ x b o (fun j => vs.getD j undef) hb hp (fun j c h => hc j _ (key j c h)) (fun j c h => hl.2.2 j c _ h (key j c h)) (fun j c h => hl.2.1 _ (List.mem_of_getElem? (key j c h)))
/-- The cells of element i of a slice. -/
theorem VRel.sl_cells {xs : List PV} {sz : Nat} {v : Value} (h : VRel S w (.sl sz xs) v) : ∃ a cap, v = .slice a xs.length cap ∧ xs.length ≤ cap ∧ cap ≤ maxLen ∧ (0 < xs.length → ∀ b o sp, a = some ⟨b, o, sp⟩ → S b ∧ sp = none) ∧ (a = none → cap = 0) ∧ (∀ x ∈ xs, x.cells.length = sz) ∧
    ∀ (i : Nat) x, xs[i]? = some x → ∃ b o vs, a = some ⟨b, o, none⟩ ∧ ListRelP S w x.cells vs ∧ ∀ (j : Nat) u, vs[j]? = some u → w.cell? ⟨b, o + i * sz + j, none⟩ = some u := by
  cases h with
  | sl0 _ a cap hm hn => exact ⟨a, cap, rfl, Nat.zero_le _, hm, by simp, hn, by simp, by simp⟩
  | sl xs b o cap _ val hb hc hm hst h1 h2 h3 =>
    refine ⟨_, cap, rfl, hc, hm, fun _ b' o' sp e => by cases e; exact ⟨hb, rfl⟩, by simp, hst, fun i x hx => ⟨b, o, (List.range x.cells.length).map (val i), rfl, ?_⟩⟩
    have key : ∀ (j : Nat) u, ((List.range x.cells.length).map (val i))[j]? = some u → ∃ c, x.cells[j]? = some c ∧ u = val i j := fun j u hj => by
      rw [List.getElem?_map] at hj
      cases hr : (List.range x.cells.length)[j]? with
      | none => simp [hr] at hj
      | some i =>
        simp [hr] at hj
        obtain ⟨hlt, rfl⟩ := List.getElem?_eq_some_iff.1 hr
        simp at hlt
        exact ⟨_, List.getElem?_eq_getElem hlt, by simpa using hj.symm⟩
    refine ⟨⟨by simp, fun v hv => ?_, fun j c u hc hu => ?_⟩, fun j u hj => ?_⟩
    · obtain ⟨j, hj⟩ := List.getElem?_of_mem hv
      obtain ⟨c, hc, rfl⟩ := key j v hj
      exact h3 i j x c hx hc
    · obtain ⟨c', hc', rfl⟩ := key j u hu
      exact h2 i j x c' hx hc' |> fun h => by rw [hc] at hc'; cases hc'; exact h
    · obtain ⟨c, hc, rfl⟩ := key j u hj
      exact h1 i j x c hx hc
theorem VRel.mk_sl {xs : List PV} {b o cap st : Nat} (hb : S b) (hc : xs.length ≤ cap) (hm : cap ≤ maxLen) (hst : ∀ x ∈ xs, x.cells.length = st)
    (h : ∀ (i : Nat) x, xs[i]? = some x → ∃ vs, ListRelP S w x.cells vs ∧ ∀ (j : Nat) u, vs[j]? = some u → w.cell? ⟨b, o + i * st + j, none⟩ = some u) : VRel S w (.sl st xs) (.slice (some ⟨b, o, none⟩) xs.length cap) := by
  have key : ∀ (i j : Nat) x c, xs[i]? = some x → x.cells[j]? = some c → ∃ v, w.cell? ⟨b, o + i * st + j, none⟩ = some v ∧ VRel S w c v ∧ v.oneCell' = true := fun i j x c hx hj => by
    obtain ⟨vs, hl, hcell⟩ := h i x hx
    obtain ⟨v, hv, hr⟩ := hl.get hj
    exact ⟨v, hcell j v hv, hr, hl.2.1 v (List.mem_of_getElem? hv)⟩
  have pick : ∀ (i j : Nat) x c, xs[i]? = some x → x.cells[j]? = some c → w.cell? ⟨b, o + i * st + j, none⟩ = some ((w.cell? ⟨b, o + i * st + j, none⟩).getD undef) := fun i j x c hx hj => by
    obtain ⟨v, hv, _⟩ := key i j x c hx hj
    rw [hv]; rfl
  exact .sl xs b o cap st (fun i j => (w.cell? ⟨b, o + i * st + j, none⟩).getD undef) hb hc hm hst pick
    (fun i j x c hx hj => by obtain ⟨v, hv, hr, _⟩ := key i j x c hx hj; rw [hv]; exact hr)
    (fun i j x c hx hj => by obtain ⟨v, hv, _, h1⟩ := key i j x c hx hj; rw [hv]; exact h1)
def PV.wf1 : PV → Bool
  | .agg cs => oneP cs
  | .tup _ => false
  | _ => true

theorem BRel.row_elem {base i k e st : Nat} {xs : List PV} {x : PV} (h : BRel base μ S w i (.row e st xs)) (hx : xs[k]? = some x) :
    ∃ g n cap vs, μ i = some (.slice (some ⟨g, 0, none⟩) n cap) ∧ ListRelP S w x.cells vs ∧ x.cells.length = st ∧ ∀ (j : Nat) u, vs[j]? = some u → w.cell? ⟨g, k * st + j, none⟩ = some u := by
  obtain ⟨mv, vs, hmv, h1, h2, h3, h4, h5, h6⟩ := h
  have hxl := h4 x (List.mem_of_getElem? hx)
  have hk : k < xs.length := (List.getElem?_eq_some_iff.1 hx).1
  have hlen : vs.length = xs.length * st := h1.1
  have hle : k * st + st ≤ vs.length := by
    rw [hlen, ← Nat.succ_mul]; exact Nat.mul_le_mul_right _ hk
  rcases h1.2 with ⟨he, hn⟩ | ⟨g, cap, cur, hv, hb, hg, hn, hcm, hcs, htk⟩
  · omega
  have hcell := h1.cells (g := g) (by rw [hv]; rfl)
  refine ⟨g, xs.length, cap, (vs.drop (k * st)).take st, by rw [hmv, hv], ⟨by simp [hxl]; omega, fun v hv => h5 v (List.mem_of_mem_drop (List.mem_of_mem_take hv)), fun j c v hc hv' => ?_⟩, hxl, fun j u hj => ?_⟩
  · obtain ⟨v', hv1, hr⟩ := h6 k j x c hx hc
    rw [List.getElem?_take] at hv'
    split at hv'
    · rw [List.getElem?_drop, hv1] at hv'; cases hv'; exact hr
    · cases hv'
  · rw [List.getElem?_take] at hj
    split at hj
    · rw [List.getElem?_drop] at hj
      have := hcell _ u hj
      unfold Addr.add at this
      split at this
      · rename_i h0; rw [h0]; exact this
      · simpa using this
    · cases hj

theorem aPartB_spec {E : Env} {t : TypeId} {cs : List AV} {vs : List Value} {o : Nat} {c : AV} (h : aPartB E t cs o some = some c) (hl : ListRel μ S w cs vs) :
    ∃ d i v, E.P.underlying t = some d ∧ E.P.info? t = some i ∧ ARel μ S w c v ∧ ((aggD d = true ∧ ((vs.drop o).take i.size).length = i.size ∧ v = .agg ((vs.drop o).take i.size).toArray) ∨ (aggD d = false ∧ vs[o]? = some v)) := by
  unfold aPartB at h
  split at h
  · rcases allP_some h with ⟨xs, rfl, h2⟩ | h2
    · obtain ⟨y, e, h'⟩ := aPartP_par h2
      replace h' := h' some
      cases e
      obtain ⟨d, i, u, hd, hi, hr, hu, _⟩ := aPartP_spec h' hl.p
      exact ⟨d, i, u, hd, hi, .p _ _ hr, hu⟩
    · exact aPart_spec h2 hl
  · exact aPart_spec h hl
theorem aLoad_ok {E : Env} {t : TypeId} {x c : AV} {v : Value} (R : RelM G w0 S0 μ S st a w) (hx : ARel μ S w x v) (h : aLoad E t st.heap x some = some c) :
    ∃ u, (Instr.loadAt t v).run E.P w = .ok u w ∧ ARel μ S w c u := by
  unfold aLoad at h
  split at h
  · simp only [onSome_some] at h
    obtain ⟨bl, hb, h⟩ := h
    split at h
    · cases hx with
      | box b off g hm =>
      obtain ⟨g', ty, vs, hm', _, _, hg, hl⟩ := (R.heap _ _ hb).box_list
      rw [hm] at hm'; cases hm'
      obtain ⟨d, i, u, hd, hi, hr, hu⟩ := aPartB_spec h hl
      refine ⟨u, ?_, hr⟩
      have := run_load' (B := 0) hd hi (fun j u hj => by rw [Nat.zero_add]; exact cell_of_cells hg j u hj) hu
      rw [Nat.zero_add] at this
      simpa [Instr.loadAt, Instr.sureAddr] using this
    · cases h
  · simp only [onSome_some] at h
    obtain ⟨bl, hb, h⟩ := h
    split at h
    · simp only [aGd_some, onGet_some, decide_eq_true_eq] at h
      obtain ⟨rfl, y, h0, hy, h⟩ := h
      cases hx with
      | el b st i off g n cap hm =>
      obtain ⟨g', n', cap', vs, hm', hl, hxl, hcell⟩ := (R.heap _ _ hb).row_elem hy
      rw [hm] at hm'; cases hm'
      obtain ⟨y', e, h'⟩ := aPartP_par h
      replace h' := h' some
      cases e
      obtain ⟨d, i', u, hd, hi, hr, hu, _⟩ := aPartP_spec h' hl
      refine ⟨u, ?_, .p _ _ hr⟩
      have := run_load' hd hi (fun j u hj => hcell j u hj) hu
      simpa [Instr.loadAt, Instr.sureAddr] using this
    · cases h
  · simp only [onSome_some, aIf_some] at h
    obtain ⟨gg, hgg, h⟩ := h
    obtain ⟨d0, i0, hd0, hi0, rfl⟩ := tinfo_some hgg
    cases hx with
    | p _ _ hx =>
    obtain ⟨b, o, vs, rfl, hS, hp, hl, hcell⟩ := hx.at_cells
    rename_i x
    rcases h with ⟨hg0, h⟩ | ⟨hg0, h⟩
    · obtain ⟨y', e, h'⟩ := aPartP_par h
      cases e
      obtain ⟨d, i', u, hd, hi, hr, hu, _⟩ := aPartP_spec (h' some) hl
      refine ⟨u, ?_, .p _ _ hr⟩
      have := run_load' hd hi hcell hu
      rw [Nat.add_zero] at this
      simpa [Instr.loadAt, Instr.sureAddr] using this
    · obtain ⟨y', e, h', h1, hyr⟩ := onCK_spec h
      cases e
      have hx1 : x.cells = [x] ∨ x = y' := by
        cases hck : E.ck t <;> rw [hck] at h <;> simp only [onCK, onInt_some, onStr_some, onBool_some, onSl_some] at h
        · obtain ⟨n, rfl, h⟩ := h; exact .inl rfl
        · obtain ⟨n, rfl, h⟩ := h; exact .inl rfl
        · obtain ⟨n, rfl, h⟩ := h; exact .inl rfl
        · obtain ⟨n, hx, h⟩ := h; rcases hx with rfl | ⟨rfl, rfl | rfl⟩ <;> exact .inl rfl
        · split at h
          · exact .inl rfl
          · cases h
        · cases h
      have hxc : x.cells = [x] := by
        rcases hx1 with h | rfl
        · exact h
        · cases x <;> simp [PV.one] at h1 <;> rfl
      rw [hxc] at hl
      obtain ⟨u, hu, hr⟩ := hl.get (o := 0) (c := x) rfl
      refine ⟨u, ?_, .p _ _ (hyr S w u hr)⟩
      have := run_load' (o := 0) hd0 hi0 hcell (.inr ⟨hg0, hu⟩)
      rw [Nat.add_zero] at this
      simpa [Instr.loadAt, Instr.sureAddr] using this
  · cases h

theorem VRel.cells_one {x : PV} {v : Value} (h : VRel S w x v) (h1 : v.oneCell' = true) : x.cells = [x] := by
  cases h <;> first | rfl | (simp [Value.oneCell'] at h1)
theorem addr_add (g o n : Nat) : (⟨g, o, none⟩ : Addr).add n = ⟨g, o + n, none⟩ := by
  unfold Addr.add; split <;> simp_all
/-- A part of memory that holds x. -/
theorem part_at {E : Env} {t : TypeId} {x y : PV} {b o n : Nat} {vs : List Value} (hb : S b) (hl : ListRelP S w x.cells vs) (hc : ∀ (j : Nat) u, vs[j]? = some u → w.cell? ⟨b, o + j, none⟩ = some u)
    (h : aPartP E t x.cells n some = some y) (hs : 0 < E.siz t) : VRel S w (.at_ y) (.pointer (some ⟨b, o + n, none⟩)) := by
  obtain ⟨d, i, v, hd, hi, hr, hv, hc2⟩ := aPartP_spec h hl
  have hsz : E.siz t = i.size := by simp [Env.siz, hi]
  rcases hv with ⟨hg, hle, rfl⟩ | ⟨hg, hv⟩
  · rcases hc2 with ⟨_, ys, rfl, hys⟩ | ⟨hg', _⟩
    · refine .mk_at hb (by show 0 < ys.length; rw [hys.1]; omega) hys (fun j u hj => ?_)
      rw [List.getElem?_take] at hj
      split at hj
      · rw [List.getElem?_drop] at hj
        rw [Nat.add_assoc]; exact hc _ u hj
      · cases hj
    · rw [hg] at hg'; cases hg'
  · have h1 := hl.2.1 v (List.mem_of_getElem? hv)
    have hcy := hr.cells_one h1
    refine .mk_at (vs := [v]) hb (by simp [hcy]) ⟨by simp [hcy], by simpa using h1, fun j c u hj hu => ?_⟩ (fun j u hj => ?_)
    · rw [hcy] at hj
      cases j with
      | zero => simp at hj hu; subst hj hu; exact hr
      | succ j => simp at hj
    · cases j with
      | zero => simp at hj; subst hj; exact hc n v hv
      | succ j => simp at hj
theorem siz_info {E : Env} {t : TypeId} (h : 0 < E.siz t) : ∃ i, E.P.info? t = some i ∧ E.siz t = i.size := by
  unfold Env.siz at h ⊢
  split at h
  · rename_i i hi; exact ⟨i, hi, rfl⟩
  · omega
theorem aFieldAddr_ok {E : Env} {t : TypeId} {x c : AV} {v : Value} {f : Nat} (hx : ARel μ S w x v) (h : aFieldAddr E t x f some = some c) :
    ∃ u, (Instr.fieldAt t v f).run E.P w = .ok u w ∧ ARel μ S w c u := by
  unfold aFieldAddr aField at h
  split at h
  · rename_i fs hfs
    simp only [onSome_some, aGd_some, decide_eq_true_eq] at h
    obtain ⟨fd, hfd, hs, h⟩ := h
    obtain ⟨i, hi, hsi⟩ := siz_info hs
    have hne : i.size ≠ 0 := by omega
    have run : ∀ (g o : Nat), (Instr.fieldAt t (.pointer (some ⟨g, o, none⟩)) f).run E.P w = .ok (.pointer (some ⟨g, o + fd.offset, none⟩)) w := fun g o => by
      simp [Instr.fieldAt, run_underlying hfs, hfd, Instr.sureAddr, fieldPlace, run_sizeOf' hi, hne, addr_add]
    split at h
    · simp only [Option.some.injEq] at h; subst h
      cases hx with
      | box b off g hm => exact ⟨_, run _ _, .box _ _ _ hm⟩
    · simp only [Option.some.injEq] at h; subst h
      cases hx with
      | el b st i off g n cap hm => exact ⟨_, run _ _, by rw [Nat.add_assoc]; exact .el _ _ _ _ _ _ _ hm⟩
    · obtain ⟨y, e, h'⟩ := aPartP_par h
      cases e
      cases hx with
      | p _ _ hx =>
      obtain ⟨b, o, vs, rfl, hS, hp, hl, hcell⟩ := hx.at_cells
      exact ⟨_, run _ _, .p _ _ (part_at hS hl hcell (h' some) hs)⟩
    · cases h
  · cases h
theorem VRel.agg_inv {cs : List PV} {v : Value} (h : VRel S w (.agg cs) v) : ∃ vs, v = .agg (List.toArray vs) ∧ ListRelP S w cs vs := by
  cases h with
  | agg cs vs hl h h1 => exact ⟨vs, rfl, hl, h1, h⟩
theorem onAggA_some {ρ : Type} {r : ρ} {x : AV} {v : Value} {k : List AV → Option ρ} (hx : ARel μ S w x v) (h : onAggA x k = some r) : ∃ cs vs, v = .agg (List.toArray vs) ∧ ListRel μ S w cs vs ∧ k cs = some r := by
  unfold onAggA at h
  split at h
  · cases hx with
    | p _ _ hx =>
    obtain ⟨vs, rfl, hl⟩ := hx.agg_inv
    exact ⟨_, vs, rfl, hl.av, h⟩
  · cases hx with
    | agg cs vs hl h0 h1 => exact ⟨_, vs, rfl, ⟨hl, h1, h0⟩, h⟩
  · cases h
theorem aFieldOp_ok {E : Env} {t : TypeId} {x c : AV} {v : Value} {f : Nat} (hx : ARel μ S w x v) (h : (aField E t f fun fd => onAggA x fun cs => aPart E fd.type cs fd.offset some) = some c) :
    ∃ u, (Instr.field t v f).run E.P w = .ok u w ∧ ARel μ S w c u := by
  unfold aField at h
  split at h
  · rename_i fs hfs
    simp only [onSome_some] at h
    obtain ⟨fd, hfd, h⟩ := h
    obtain ⟨cs, vs, rfl, hl, h⟩ := onAggA_some hx h
    obtain ⟨d, i, u, hd, hi, hr, hu⟩ := aPart_spec h hl
    refine ⟨u, ?_, hr⟩
    simp [Instr.field, run_underlying hfs, hfd, asAgg, run_part hd hi hu]
  · cases h
theorem asIntOf_run (k : IntKind) (n : Int) : (asIntOf (.int k n)).run P w = .ok (k, n) w := rfl
theorem aIndex_ok {E : Env} {t : TypeId} {x ix c : AV} {v vi : Value} (hx : ARel μ S w x v) (hi : ARel μ S w ix vi) (h : aIndex E t x ix some = some c) :
    ∃ u, (Instr.index t v vi).run E.P w = .ok u w ∧ ARel μ S w c u := by
  simp only [aIndex, onP_some, onInt_some] at h
  obtain ⟨_, rfl, n, rfl, y, rfl, h⟩ := h
  obtain rfl := hi.int
  split at h
  · rename_i ht
    simp only [onStr_some, onGet_some, Option.some.injEq] at h
    obtain ⟨l, rfl, b, h0, hb, rfl⟩ := h
    obtain rfl := hx.str
    refine ⟨_, ?_, .p _ _ (.int _ _)⟩
    have hlt : n.toNat < l.length := (List.getElem?_eq_some_iff.1 hb).1
    have hb' : (⟨l.toArray⟩ : ByteArray)[n.toNat]? = some b := by
      have hlt' : n.toNat < (⟨l.toArray⟩ : ByteArray).size := by rw [ba_size]; exact hlt
      rw [getElem?_pos (⟨l.toArray⟩ : ByteArray) n.toNat hlt']
      congr 1
      exact (List.getElem?_eq_some_iff.1 hb).2
    simp [Instr.index, asIntOf, run_underlying ht, h0, hb']
  · rename_i len e ht
    simp only [onAgg_some, aGd_some, decide_eq_true_eq] at h
    obtain ⟨cs, rfl, h0, h1, h⟩ := h
    obtain ⟨y, e', h'⟩ := aPartP_par h
    cases e'
    cases hx with
    | p _ _ hx =>
    obtain ⟨vs, rfl, hl⟩ := hx.agg_inv
    obtain ⟨d, i, u, hd, hi', hr, hu, _⟩ := aPartP_spec (h' some) hl
    refine ⟨u, ?_, .p _ _ hr⟩
    have hsz : E.siz e = i.size := by simp [Env.siz, hi']
    rw [hsz] at hu
    simp [Instr.index, asIntOf, run_underlying ht, h0, h1, run_sizeOf' hi', run_part hd hi' hu]
  · cases h
theorem aIndexAddr_ok {E : Env} {t : TypeId} {x ix c : AV} {v vi : Value} (R : RelM G w0 S0 μ S st a w) (hx : ARel μ S w x v) (hi : ARel μ S w ix vi) (h : aIndexAddr E t st.heap x ix some = some c) :
    ∃ u, (Instr.indexAt t v vi).run E.P w = .ok u w ∧ ARel μ S w c u := by
  simp only [aIndexAddr, onP_some, onInt_some] at h
  obtain ⟨_, rfl, n, rfl, h⟩ := h
  obtain rfl := hi.int
  split at h
  · rename_i e ht
    split at h
    · simp only [onSome_some] at h
      obtain ⟨bl, hb, h⟩ := h
      split at h
      · simp only [aGd_some, decide_eq_true_eq, Option.some.injEq] at h
        obtain ⟨hst, h0, h1, rfl⟩ := h
        rename_i e' st' xs
        have hB := R.heap _ _ hb
        have hB' := hB
        obtain ⟨mv, vs, hmv, ⟨hlen, hown⟩, hpos, _⟩ := hB
        rw [hst] at hpos
        obtain ⟨i, hi, hsi⟩ := siz_info hpos
        have hlt : n.toNat < xs.length := by omega
        obtain ⟨g, n', cap, _, hm, _⟩ := hB'.row_elem (List.getElem?_eq_getElem hlt)
        cases hx with
        | own b a2 n2 c2 hm2 =>
        rw [hm] at hm2
        cases hm2
        have hml : n' = xs.length := by
          rcases hown with ⟨he, hn⟩ | ⟨g, cap, cur, hv, _⟩
          · omega
          · rw [hm, hv] at hmv; cases hmv; rfl
        refine ⟨.pointer (some ⟨g, n.toNat * st' + 0, none⟩), ?_, .el _ _ _ _ _ _ _ hm⟩
        subst hml
        simp [Instr.indexAt, asIntOf, run_underlying ht, h0, h1, run_sizeOf' hi, addr_add, hst, hsi]
      · cases h
    · simp only [onSl_some, onGet_some, aGd_some, decide_eq_true_eq, Option.some.injEq] at h
      obtain ⟨hsz, xs, hxs, y, h0, hy, rfl⟩ := h
      rcases hxs with rfl | ⟨rfl, _⟩
      · cases hx with
        | p _ _ hx =>
        obtain ⟨a', cap, rfl, hc, hm, ha, _, hst', hel⟩ := hx.sl_cells
        obtain ⟨b, o, vs, rfl, hl, hcell⟩ := hel _ _ hy
        have hlt : n.toNat < xs.length := (List.getElem?_eq_some_iff.1 hy).1
        have hyl := hst' y (List.mem_of_getElem? hy)
        obtain ⟨i, hi, hsi⟩ := siz_info hsz
        have hn : n < xs.length := by omega
        refine ⟨.pointer (some ⟨b, o + n.toNat * i.size, none⟩), ?_, .p _ _ (.mk_at (ha (by omega) _ _ _ rfl).1 (by omega) hl (by rw [← hsi]; exact hcell))⟩
        simp [Instr.indexAt, asIntOf, run_underlying ht, h0, hn, run_sizeOf' hi, addr_add]
      · simp at hy
    · cases h
  · rename_i len e ht
    split at h
    · simp only [aGd_some, decide_eq_true_eq, Option.some.injEq] at h
      obtain ⟨h0, h1, hs, rfl⟩ := h
      obtain ⟨i, hi, hsi⟩ := siz_info hs
      cases hx with
      | box b off g hm =>
      rename_i b off
      refine ⟨.pointer (some ⟨g, off + n.toNat * i.size, none⟩), ?_, by rw [hsi]; exact .box _ _ _ hm⟩
      simp [Instr.indexAt, Instr.sureAddr, asIntOf, run_underlying ht, h0, h1, run_sizeOf' hi, addr_add]
    · simp only [aGd_some, decide_eq_true_eq] at h
      obtain ⟨h0, h1, hs, h⟩ := h
      obtain ⟨i, hi, hsi⟩ := siz_info hs
      obtain ⟨y, e', h'⟩ := aPartP_par h
      cases e'
      cases hx with
      | p _ _ hx =>
      obtain ⟨b, o, vs, rfl, hS, hp, hl, hcell⟩ := hx.at_cells
      refine ⟨.pointer (some ⟨b, o + n.toNat * i.size, none⟩), ?_, .p _ _ (by rw [← hsi]; exact part_at hS hl hcell (h' some) hs)⟩
      simp [Instr.indexAt, Instr.sureAddr, asIntOf, run_underlying ht, h0, h1, run_sizeOf' hi, addr_add]
    · cases h
  · cases h

/-! ## Slices, conversions, builtins -/
theorem aLow_some {ρ : Type} {r : ρ} {lo : Option Operand} {m : Nat} {k : Nat → Option ρ} (R : RelM G w0 S0 μ S st a w) (h : aLow (lo.map st.ev) m k = some r) :
    ∃ l, l ≤ m ∧ k l = some r ∧ ((lo = none ∧ l = 0) ∨ ∃ x n, lo = some x ∧ a.eval x = .int .i64 n ∧ 0 ≤ n ∧ n ≤ (m : Int) ∧ l = n.toNat) := by
  cases lo with
  | none => exact ⟨0, by omega, h, .inl ⟨rfl, rfl⟩⟩
  | some x =>
    simp only [aLow, Option.map_some, onP_some, onInt_some, aGd_some, decide_eq_true_eq] at h
    obtain ⟨y, hy, n, rfl, h0, h1, h⟩ := h
    have hr := R.ev x
    rw [hy] at hr
    obtain hr := hr.int
    exact ⟨n.toNat, by omega, h, .inr ⟨x, n, rfl, hr, h0, h1, rfl⟩⟩
theorem aBounds_some {ρ : Type} {r : ρ} {len : Nat} {lo hi : Option Operand} {k : Nat → Nat → Option ρ} (R : RelM G w0 S0 μ S st a w)
    (h : aBounds len (lo.map st.ev) (hi.map st.ev) k = some r) :
    ∃ l m, l ≤ m ∧ m ≤ len ∧ k l m = some r ∧ ∀ (isSlice : Bool) (cap : Nat), len ≤ cap → (Instr.sliceBounds isSlice len cap (lo.map a.eval) (hi.map a.eval) none).run P w = .ok (l, m, cap) w := by
  cases hi with
  | none =>
    simp only [aBounds, Option.map_none] at h
    obtain ⟨l, h1, h2, h3⟩ := aLow_some R h
    refine ⟨l, len, h1, Nat.le_refl _, h2, fun isSlice cap hcap => ?_⟩
    rcases h3 with ⟨rfl, rfl⟩ | ⟨x, n, rfl, hr, h4, h5, rfl⟩
    · simp [Instr.sliceBounds]
    · have hb : (0 ≤ n ∧ n ≤ (len : Int)) := ⟨h4, h5⟩
      simp [Instr.sliceBounds, Instr.sliceBound, asIntOf, hr, hb]
  | some x =>
    simp only [aBounds, Option.map_some, onP_some, onInt_some, aGd_some, decide_eq_true_eq] at h
    obtain ⟨y, hy, n, rfl, h0, h1, h⟩ := h
    have hr := R.ev x
    rw [hy] at hr
    obtain hr := hr.int
    obtain ⟨l, h2, h3, h4⟩ := aLow_some R h
    refine ⟨l, n.toNat, h2, by omega, h3, fun isSlice cap hcap => ?_⟩
    have hb : (0 ≤ n ∧ n ≤ (cap : Int)) := ⟨h0, by omega⟩
    rcases h4 with ⟨rfl, rfl⟩ | ⟨x, n', rfl, hr', h4, h5, rfl⟩
    · simp [Instr.sliceBounds, Instr.sliceBound, asIntOf, hr, hb]
    · have hb' : (0 ≤ n' ∧ n' ≤ (n.toNat : Int)) := ⟨h4, h5⟩
      have hb2 : n' ≤ max n 0 := by omega
      simp [Instr.sliceBounds, Instr.sliceBound, asIntOf, hr, hr', hb, h4, hb2]
theorem extract_list (s : List UInt8) (l m : Nat) : (⟨s.toArray⟩ : ByteArray).extract l m = ⟨((s.take m).drop l).toArray⟩ := by
  apply ByteArray.ext
  simp [List.extract_eq_take_drop, List.drop_take]
theorem VRel.sl_sub {xs : List PV} {sz : Nat} {v : Value} (hx : VRel S w (.sl sz xs) v) {l m : Nat} (hl : l ≤ m) (hm : m ≤ xs.length) :
    ∃ a' cap, v = .slice a' xs.length cap ∧ xs.length ≤ cap ∧ VRel S w (.sl sz ((xs.take m).drop l)) (.slice (if cap = l then a' else a'.map (·.add (l * sz))) (m - l) (cap - l)) := by
  have hx' := hx
  obtain ⟨a', cap, rfl, hc, hcm, ha, hnil, hsz, hel⟩ := hx.sl_cells
  refine ⟨a', cap, rfl, hc, ?_⟩
  have hlen : ((xs.take m).drop l).length = m - l := by simp; omega
  rcases Nat.eq_zero_or_pos xs.length with hx0 | hxp
  · have : l = 0 ∧ m = 0 ∧ xs = [] := ⟨by omega, by omega, List.eq_nil_of_length_eq_zero hx0⟩
    obtain ⟨rfl, rfl, rfl⟩ := this
    have : (if cap = 0 then a' else a'.map (·.add (0 * sz))) = a' := by
      split
      · rfl
      · cases a' <;> simp [Addr.add]
    rw [this]
    exact .sl0 sz a' cap hcm hnil
  cases a' with
  | none =>
    have h0 := hnil rfl
    have : l = 0 ∧ m = 0 ∧ xs = [] := by
      refine ⟨by omega, by omega, List.eq_nil_of_length_eq_zero (by omega)⟩
    obtain ⟨rfl, rfl, rfl⟩ := this
    subst h0
    exact .slnil _
  | some ad =>
    obtain ⟨b, o, sp⟩ := ad
    obtain ⟨hS, rfl⟩ := ha hxp _ _ _ rfl
    have key : ∀ (o' : Nat), (l < m → o' = o + l * sz) → VRel S w (.sl sz ((xs.take m).drop l)) (.slice (some ⟨b, o', none⟩) (m - l) (cap - l)) := fun o' ho' => by
      have := VRel.mk_sl (S := S) (w := w) (xs := (xs.take m).drop l) (b := b) (o := o') (cap := cap - l) (st := sz) hS (by rw [hlen]; omega) (by omega)
        (fun x hx => hsz x (List.mem_of_mem_take (List.mem_of_mem_drop hx))) (fun i x hi => by
          have hi2 : l + i < m := by
            have := (List.getElem?_eq_some_iff.1 hi).1
            rw [hlen] at this; omega
          rw [List.getElem?_drop, List.getElem?_take, if_pos hi2] at hi
          obtain ⟨b', o'', vs, e, hlr, hcell⟩ := hel _ x hi
          cases e
          refine ⟨vs, hlr, fun j u hj => ?_⟩
          have := hcell j u hj
          rw [ho' (by omega), Nat.add_assoc o, ← Nat.add_mul]
          exact this)
      rw [hlen] at this
      exact this
    split
    · rename_i e; subst e
      exact key o (fun h => by omega)
    · simp only [Option.map_some, addr_add]
      exact key _ (fun _ => rfl)
theorem aSlice_ok {E : Env} {t : TypeId} {x c : AV} {v : Value} {lo hi : Option Operand} {μ2 : Nat → Option Value} {S2 : Nat → Prop} (R : RelM G w0 S0 μ S st a w) (hx : ARel μ2 S2 w x v) (h : aSlice E t x (lo.map st.ev) (hi.map st.ev) some = some c) :
    ∃ u, (Instr.sliceAt t v (lo.map a.eval) (hi.map a.eval) none).run E.P w = .ok u w ∧ ARel μ2 S2 w c u := by
  simp only [aSlice, onP_some] at h
  obtain ⟨y, rfl, h⟩ := h
  split at h
  · rename_i ht
    simp only [onStr_some] at h
    obtain ⟨s, rfl, h⟩ := h
    obtain rfl := hx.str
    obtain ⟨l, m, h1, h2, h3, h4⟩ := aBounds_some (P := E.P) R h
    have h4 := h4 false s.length (Nat.le_refl _)
    cases h3
    refine ⟨_, ?_, .p _ _ (.str _)⟩
    simp [Instr.sliceAt, Instr.slice, run_underlying ht, ba_size, h4, extract_list]
  · rename_i e ht
    simp only [onSl_some, aGd_some, decide_eq_true_eq] at h
    obtain ⟨hsz, xs, hxs, h⟩ := h
    obtain ⟨i, hi', hsi⟩ := siz_info hsz
    cases hx with
    | p _ _ hx =>
    have hx := hx.empty hxs
    obtain ⟨l, m, h1, h2, h3, h4⟩ := aBounds_some (P := E.P) R h
    cases h3
    obtain ⟨a', cap, rfl, hc, hr⟩ := hx.sl_sub h1 h2
    refine ⟨_, ?_, .p _ _ hr⟩
    simp [Instr.sliceAt, Instr.slice, run_underlying ht, h4 true cap hc, run_sizeOf' hi', hsi]
  · cases h

theorem u8s_some {ρ : Type} {r : ρ} : ∀ {l : List PV} {k : List UInt8 → Option ρ}, u8s l k = some r → ∃ ns : List Int, l = ns.map (.int .u8) ∧ k (ns.map fun n => UInt8.ofNat n.toNat) = some r
  | [], k, h => ⟨[], rfl, h⟩
  | v :: l, k, h => by
    simp only [u8s, onInt_some] at h
    obtain ⟨n, rfl, h⟩ := h
    obtain ⟨ns, rfl, h2⟩ := u8s_some h
    exact ⟨n :: ns, rfl, h2⟩
theorem strOfNums_list (ns : List Int) : strOfNums ns = ⟨(ns.map fun n => UInt8.ofNat n.toNat).toArray⟩ := rfl
theorem aConv_ok {E : Env} {t u : TypeId} {x c : AV} {v : Value} (hx : ARel μ S w x v) (h : aConv E t u x some = some c) :
    ∃ u', (convert t u v).run E.P w = .ok u' w ∧ ARel μ S w c u' := by
  unfold aConv at h
  split at h
  · rename_i i j h1 h2
    simp only [onP_some, onInt_some, Option.some.injEq] at h
    obtain ⟨_, rfl, n, rfl, rfl⟩ := h
    obtain rfl := hx.int
    exact ⟨_, by simp [convert, run_underlying h1, run_underlying h2, Conv.intToInt], .p _ _ (.int _ _)⟩
  · rename_i h1 h2
    simp only [onP_some, onStr_some, Option.some.injEq] at h
    obtain ⟨_, rfl, n, rfl, rfl⟩ := h
    obtain rfl := hx.str
    exact ⟨_, by simp [convert, run_underlying h1, run_underlying h2], .p _ _ (.str _)⟩
  · rename_i i h1 h2
    simp only [onP_some, onInt_some, Option.some.injEq] at h
    obtain ⟨_, rfl, n, rfl, rfl⟩ := h
    obtain rfl := hx.int
    refine ⟨.string (Utf8.encode n), by simp [convert, run_underlying h1, run_underlying h2, Conv.intToString], .p _ _ ?_⟩
    have e : Utf8.encode n = ⟨(Utf8.encode n).data.toList.toArray⟩ := by simp
    have := VRel.str (S := S) (w := w) (Utf8.encode n).data.toList
    rw [← e] at this
    exact this
  · rename_i e h1 h2
    split at h
    · rename_i h3
      simp only [onP_some, onSl_some] at h
      obtain ⟨_, rfl, xs, hxs, h⟩ := h
      obtain ⟨ns, rfl, h4⟩ := u8s_some h
      cases h4
      have hx := (show VRel S w _ v by cases hx with | p _ _ hx => exact hx).empty hxs
      generalize hys : List.map (PV.int .u8) ns = ys at hx
      cases hx with
      | sl _ b o cap _ val hb hc hm hst g1 g2 g3 =>
        subst hys
        refine ⟨_, run_convert_bytes_arg (P := E.P) w t e h1 h3 b o (List.map (PV.int .u8) ns).length cap ns (by simp) (fun i hi => ?_) u h2, ?_⟩
        · have hi' : i < ns.length := by simpa using hi
          have e1 : (List.map (PV.int .u8) ns)[i]? = some (.int .u8 ns[i]) := by simp [hi']
          have e2 : (PV.int .u8 ns[i]).cells[0]? = some (.int .u8 ns[i]) := rfl
          have := g1 i 0 _ _ e1 e2
          have hv := g2 i 0 _ _ e1 e2
          rw [show o + i * 1 + 0 = o + i by omega] at this
          rw [this]
          generalize val i 0 = z at hv
          cases hv
          simp [hi']
        · rw [strOfNums_list]; exact .p _ _ (.str _)
      | sl0 _ a cap hm hn =>
        obtain rfl := List.map_eq_nil_iff.1 hys
        refine ⟨.string ⟨#[]⟩, ?_, .p _ _ (.str [])⟩
        cases a with
        | none => obtain rfl := hn rfl; exact run_convert_bytes_nil (P := E.P) w t e h1 h3 0 0 u h2
        | some ad => simp [convert, run_underlying h1, run_underlying h2, run_underlying h3, Conv.bytesToString, loadCells, loadCellsFrom]; rfl
    · cases h
  · cases h
theorem aUn_ok {op : UnOp} {x c : PV} {v : Value} (hx : VRel S w x v) (h : aUn op x some = some c) :
    ∃ u, (Op.unary op v).run P w = .ok u w ∧ VRel S w c u := by
  unfold aUn at h
  split at h
  · cases hx; cases h
    exact ⟨_, by simp [Op.unary], .bool _⟩
  · cases hx; cases h
    exact ⟨_, by simp [Op.unary, Op.intArith], .int _ _⟩
  · cases h
theorem VRel.sl_len {x : PV} {xs : List PV} {v : Value} (hx : VRel S w x v) (h : (∃ st, x = .sl st xs) ∨ (xs = [] ∧ (x = .nilsl ∨ x = .emp))) : ∃ a c, v = .slice a xs.length c := by
  rcases h with ⟨st, rfl⟩ | ⟨rfl, rfl | rfl⟩
  · obtain ⟨a, c, rfl, _⟩ := hx.sl_cells; exact ⟨a, c, rfl⟩
  · cases hx; exact ⟨_, _, rfl⟩
  · cases hx; exact ⟨_, _, rfl⟩
theorem own_slice {base e st n : Nat} {vs : List Value} {v : Value} (h : w.ownsRow base e st v n vs) : ∃ a c, v = .slice a n c := by
  rcases h.2 with ⟨rfl, rfl⟩ | ⟨g, cap, cur, rfl, _⟩
  · exact ⟨_, _, rfl⟩
  · exact ⟨_, _, rfl⟩
theorem args1 {α β : Type} {f : α → β} {l : List α} {x : β} (h : l.map f = [x]) : ∃ o, l = [o] ∧ f o = x := by
  match l, h with | [o], h => exact ⟨o, rfl, by simpa using h⟩
theorem args2 {α β : Type} {f : α → β} {l : List α} {x y : β} (h : l.map f = [x, y]) : ∃ o o', l = [o, o'] ∧ f o = x ∧ f o' = y := by
  match l, h with | [o, o'], h => exact ⟨o, o', rfl, by simpa using h⟩
theorem run_min (x y : Int) (ts : Array TypeId) (t : TypeId) : (Builtin.min_ ts t #[.int .i64 x, .int .i64 y]).run P w = .ok (.int .i64 (min x y)) w := by
  have : (if y < x then y else x) = min x y := by split <;> omega
  simp [Builtin.min_, List.foldlM, Builtin.min2, this]
theorem run_max (x y : Int) (ts : Array TypeId) (t : TypeId) : (Builtin.max_ ts t #[.int .i64 x, .int .i64 y]).run P w = .ok (.int .i64 (max x y)) w := by
  have : (if x < y then y else x) = max x y := by split <;> omega
  simp [Builtin.max_, List.foldlM, Builtin.max2, this]
theorem aBuiltin_ok {E : Env} {b : Builtin} {ats : Array TypeId} {ty : TypeId} {cs : Array Bool} {xs : List Operand} {c : AV} (R : RelM G w0 S0 μ S st a w)
    (h : aBuiltin E b ats.toList (xs.map st.ev) st.heap some = some c) :
    ∃ u, (builtin b ats ty cs (xs.map a.eval).toArray).run E.P w = .ok (.value u) w ∧ ARel μ S w c u := by
  unfold aBuiltin at h
  split at h
  · rename_i x hx
    obtain ⟨o, rfl, rfl⟩ := args1 hx
    have hr := R.ev o
    simp only [onSome_some] at h
    obtain ⟨t, ht, d, hd, h⟩ := h
    have ht' : ats[0]? = some t := by simpa using ht
    split at h
    · simp only [onP_some, onStr_some, Option.some.injEq] at h
      obtain ⟨_, e, l, rfl, rfl⟩ := h
      rw [e] at hr
      obtain hr := hr.str
      exact ⟨_, by simp [BigFrame.builtin_len, Builtin.len_, ht', hr, run_underlying hd, ba_size, goInt], .p _ _ (.int _ _)⟩
    · simp only [Option.some.injEq] at h
      subst h
      exact ⟨_, by simp [BigFrame.builtin_len, Builtin.len_, ht', run_underlying hd, goInt], .p _ _ (.int _ _)⟩
    · split at h
      · rename_i b e
        simp only [onSome_some] at h
        obtain ⟨bl, hb, h⟩ := h
        split at h
        · cases h
          rw [e] at hr
          obtain ⟨mv, vs, hmv, hown, _⟩ := R.heap _ _ hb
          obtain ⟨ad, cp, hv⟩ := own_slice hown
          have he : a.eval o = mv := by
            generalize a.eval o = v at hr
            cases hr with | own b a2 n2 c2 hm2 => rw [hm2] at hmv; cases hmv; rfl
          refine ⟨_, ?_, .p _ _ (.int _ _)⟩
          simp [BigFrame.builtin_len, Builtin.len_, ht', run_underlying hd, he, hv, goInt]
        · cases h
      · simp only [onP_some, onSl0_some, Option.some.injEq] at h
        obtain ⟨y, e, ys, hys, rfl⟩ := h
        rw [e] at hr
        have : ∃ ad cp, a.eval o = .slice ad ys.length cp := by
          cases hr with
          | p _ _ hr => exact hr.sl_len hys
        obtain ⟨ad, cp, hv⟩ := this
        exact ⟨_, by simp [BigFrame.builtin_len, Builtin.len_, ht', run_underlying hd, goInt, hv], .p _ _ (.int _ _)⟩
    · cases h
  · rename_i x y hx
    obtain ⟨o, o', rfl, rfl, rfl⟩ := args2 hx
    have hr := R.ev o
    have hr' := R.ev o'
    simp only [onP_some, onInt_some, Option.some.injEq] at h
    obtain ⟨_, e, n, rfl, _, e', m, rfl, rfl⟩ := h
    rw [e] at hr
    rw [e'] at hr'
    exact ⟨_, by simp [BigFrame.builtin_min, hr.int, hr'.int, run_min], .p _ _ (.int _ _)⟩
  · rename_i x y hx
    obtain ⟨o, o', rfl, rfl, rfl⟩ := args2 hx
    have hr := R.ev o
    have hr' := R.ev o'
    simp only [onP_some, onInt_some, Option.some.injEq] at h
    obtain ⟨_, e, n, rfl, _, e', m, rfl, rfl⟩ := h
    rw [e] at hr
    rw [e'] at hr'
    exact ⟨_, by simp [BigFrame.builtin_max, hr.int, hr'.int, run_max], .p _ _ (.int _ _)⟩
  · cases h

theorem AV.one_rel {x : AV} {v : Value} (h : ARel μ S w x v) (hx : x.one = true) : x.cells = [x] ∧ v.cells.toList = [v] ∧ v.oneCell' = true := by
  cases h with
  | p x v h =>
    have h1 : x.one = true := hx
    cases h <;> simp [PV.one] at h1 <;> exact ⟨rfl, rfl, rfl⟩
  | own b a n c h => exact ⟨rfl, rfl, rfl⟩
  | it b a h => exact ⟨rfl, rfl, rfl⟩
  | box b off g h => exact ⟨rfl, rfl, rfl⟩
  | el b st i off g n cap h => exact ⟨rfl, rfl, rfl⟩
  | clo f cs vs hl h => exact ⟨rfl, rfl, rfl⟩
  | _ => simp [AV.one] at hx
theorem AV.cells_rel {x : AV} {v : Value} (h : ARel μ S w x v) (hx : allOne x.cells = true) : ListRel μ S w x.cells v.cells.toList := by
  have single : x.one = true → ListRel μ S w x.cells v.cells.toList := fun h1 => by
    obtain ⟨e1, e2, e3⟩ := AV.one_rel h h1
    rw [e1, e2]
    refine ⟨rfl, by simpa using e3, fun j c v hc hv => ?_⟩
    cases j with
    | zero => simp at hc hv; subst hc hv; exact h
    | succ j => simp at hc
  cases h with
  | p x v h =>
    cases h with
    | agg cs vs hl h h1 => simpa [AV.cells, Value.cells] using (show ListRelP S w cs vs from ⟨hl, h1, h⟩).av
    | tup cs vs hl h => simp [AV.cells, allOne, AV.one, PV.one] at hx
    | _ => exact single rfl
  | agg cs vs hl h h1 => simpa [AV.cells, Value.cells] using (show ListRel μ S w cs vs from ⟨hl, h1, h⟩)
  | tup cs vs hl h => simp [AV.cells, allOne, AV.one] at hx
  | top v => simp [AV.cells, allOne, AV.one] at hx
  | _ => exact single rfl
theorem splice_rel {cs : List AV} {vs : List Value} (h : ListRel μ S w cs vs) {xs : List AV} {us : List Value} (hx : ListRel μ S w xs us) (o : Nat) (ho : o + xs.length ≤ cs.length) :
    ListRel μ S w (splice cs o xs) (splice vs o us) := by
  obtain ⟨h1, h2, h3⟩ := h
  obtain ⟨g1, g2, g3⟩ := hx
  have e1 : (cs.take o).length = o := by simp; omega
  have e2 : (vs.take o).length = o := by simp; omega
  refine ⟨by simp [splice]; omega, fun v hv => ?_, fun j c v hc hv => ?_⟩
  · simp only [splice, List.mem_append] at hv
    rcases hv with (hv | hv) | hv
    · exact h2 v (List.mem_of_mem_take hv)
    · exact g2 v hv
    · exact h2 v (List.mem_of_mem_drop hv)
  · unfold splice at hc hv
    rw [List.append_assoc] at hc hv
    by_cases hj : j < o
    · rw [List.getElem?_append_left (by omega), List.getElem?_take, if_pos hj] at hc
      rw [List.getElem?_append_left (by omega), List.getElem?_take, if_pos hj] at hv
      exact h3 j c v hc hv
    · rw [List.getElem?_append_right (by omega), e1] at hc
      rw [List.getElem?_append_right (by omega), e2] at hv
      by_cases hj2 : j - o < xs.length
      · rw [List.getElem?_append_left hj2] at hc
        rw [List.getElem?_append_left (by omega)] at hv
        exact g3 _ c v hc hv
      · rw [List.getElem?_append_right (by omega), List.getElem?_drop] at hc
        rw [List.getElem?_append_right (by omega), List.getElem?_drop, ← g1] at hv
        exact h3 _ c v hc hv

theorem foldl_set (off : Nat) : ∀ (xs : List Value) (k : Nat) (vs : List Value), off + k + xs.length ≤ vs.length →
    ((xs.zipIdx k).foldl (fun (cs : Array Value) (p : Value × Nat) => cs.setIfInBounds (off + p.2) p.1) vs.toArray) = (splice vs (off + k) xs).toArray
  | [], k, vs, h => by simp [splice]
  | x :: xs, k, vs, h => by
    simp only [List.length_cons] at h
    rw [List.zipIdx_cons, List.foldl_cons]
    have e : (vs.toArray.setIfInBounds (off + k) x) = (vs.set (off + k) x).toArray := by simp
    rw [e, foldl_set off xs (k + 1) _ (by simp; omega)]
    congr 1
    unfold splice
    apply List.ext_getElem?
    intro j
    have l1 : ((vs.set (off + k) x).take (off + (k + 1))).length = off + k + 1 := by simp; omega
    have l2 : (vs.take (off + k)).length = off + k := by simp; omega
    rw [List.append_assoc, List.append_assoc]
    by_cases h1 : j < off + k + 1
    · rw [List.getElem?_append_left (by omega), List.getElem?_take, if_pos (by omega), List.getElem?_set]
      by_cases h2 : j = off + k
      · subst h2
        rw [List.getElem?_append_right (by omega), l2]
        have : off + k < vs.length := by omega
        simp [this]
      · rw [if_neg (by omega), List.getElem?_append_left (by omega), List.getElem?_take, if_pos (by omega)]
    · rw [List.getElem?_append_right (l₁ := List.take (off + (k + 1)) (vs.set (off + k) x)) (by omega), l1, List.getElem?_append_right (l₁ := List.take (off + k) vs) (by omega), l2]
      rw [show j - (off + k) = (j - (off + k + 1)) + 1 by omega, List.cons_append, List.getElem?_cons_succ]
      by_cases h3 : j - (off + k + 1) < xs.length
      · rw [List.getElem?_append_left h3, List.getElem?_append_left h3]
      · rw [List.getElem?_append_right (by omega), List.getElem?_append_right (by omega), List.getElem?_drop, List.getElem?_drop, List.getElem?_set, if_neg (by omega)]
        congr 1
        simp only [List.length_cons]; omega
theorem aFill_some {ρ : Type} {r : ρ} {k : List AV → Option ρ} {place : Nat → Option (Nat × Nat)} : ∀ (parts : List (Option (Nat × Nat) × AV)) (cs : List AV) (vs : List Value) (reals : List (Nat × Value)), ListRel μ S w cs vs →
    (∀ (j : Nat) o x, parts[j]? = some (o, x) → ∃ i v, reals[j]? = some (i, v) ∧ place i = o ∧ ARel μ S w x v) → parts.length = reals.length →
    aFill cs parts k = some r → ∃ cs' vs', ListRel μ S w cs' vs' ∧ k cs' = some r ∧ Instr.fill place vs.toArray reals = some vs'.toArray
  | [], cs, vs, reals, hl, hp, hlen, h => by
    obtain rfl : reals = [] := List.eq_nil_of_length_eq_zero (by simpa using hlen.symm)
    exact ⟨cs, vs, hl, h, rfl⟩
  | (o, x) :: parts, cs, vs, [], hl, hp, hlen, h => by simp at hlen
  | (o, x) :: parts, cs, vs, (i, v) :: reals, hl, hp, hlen, h => by
    simp only [aFill, onSome_some, aGd_some, decide_eq_true_eq] at h
    obtain ⟨⟨o, sz⟩, rfl, hsz, h1, hle, h⟩ := h
    obtain ⟨i', v', hr, hpl, hx⟩ := hp 0 _ x rfl
    simp at hr
    obtain ⟨rfl, rfl⟩ := hr
    dsimp only at hsz hle h
    have hxr := AV.cells_rel hx h1
    have hl' := splice_rel hl hxr o (show o + x.cells.length ≤ cs.length by omega)
    obtain ⟨cs', vs', g1, g2, g3⟩ := aFill_some parts _ _ reals hl' (fun j o x hj => hp (j + 1) o x (by simpa using hj)) (by simpa using hlen) h
    refine ⟨cs', vs', g1, g2, ?_⟩
    simp only [Instr.fill, hpl]
    have hvs : v.cells.size = sz := by rw [← hsz, hxr.1]; simp
    have hvl : o + v.cells.size ≤ vs.length := by rw [hvs, ← hl.1]; exact hle
    rw [if_neg (by simp [hvs]; omega)]
    rw [← g3]
    have := foldl_set o v.cells.toList 0 vs (by simpa using hvl)
    rw [Nat.add_zero] at this
    rw [← this, ← Array.foldl_toList]
    simp

theorem zero_list {v : Value} (h : allOne (ofConst v).cells = true) : ListRel μ S w (ofConst v).cells v.cells.toList := AV.cells_rel (ofConst_rel v) h
theorem mapM_fields {fs : Array Field} (hf : ∀ f ∈ fs.toList, ∃ i, P.info? f.type = some i) : (fs.mapM fun f => (do pure (f.offset, ← sizeOf f.type) : Sem (Nat × Nat))).run P w = .ok (fs.map fun f => (f.offset, ((P.info? f.type).map (·.size)).getD 0)) w := by
  have key : ∀ l : List Field, (∀ f ∈ l, ∃ i, P.info? f.type = some i) → (l.mapM fun f => (do pure (f.offset, ← sizeOf f.type) : Sem (Nat × Nat))).run P w = .ok (l.map fun f => (f.offset, ((P.info? f.type).map (·.size)).getD 0)) w := by
    intro l
    induction l with
    | nil => intro _; rfl
    | cons f l ih =>
      intro h
      obtain ⟨i, hi⟩ := h f (by simp)
      have ih := ih (fun f hf => h f (by simp [hf]))
      simp only [List.mapM_cons, Sem.run_bind, run_sizeOf' hi, Result.andThen_ok, Sem.run_pure] at ih ⊢
      rw [ih]
      simp [hi]
  rw [Array.mapM_eq_mapM_toList]
  have := key fs.toList hf
  simp only [map_eq_pure_bind, Sem.run_bind] at this ⊢
  rw [this]
  show Result.ok _ w = _
  congr 1
  apply Array.ext'
  simp
theorem aBuild_ok {E : Env} {t : TypeId} {parts : List (Nat × Operand)} {c : AV} (R : RelM G w0 S0 μ S st a w) (h : aBuild E t (parts.map fun (i, x) => (i, st.ev x)) some = some c) :
    ∃ u, (Instr.build t (parts.map fun (i, x) => (i, a.eval x)).toArray).run E.P w = .ok u w ∧ ARel μ S w c u := by
  unfold aBuild at h
  simp only [onSome_some, aGd_some] at h
  obtain ⟨i, hi, z, hz, hz1, h⟩ := h
  have hzl := zero_list (μ := μ) (S := S) (w := w) hz1
  have hzr : (zeroValue t).run E.P w = .ok z w := by simp [zeroValue, typeInfo, hi, hz]
  split at h
  · rename_i fs ht
    simp only [aGd_some, List.all_eq_true, decide_eq_true_eq] at h
    obtain ⟨hfs, h⟩ := h
    have hm := mapM_fields (P := E.P) (w := w) (fs := fs) (fun f hf => (siz_info (hfs f hf)).imp fun i h => h.1)
    obtain ⟨cs', vs', g1, g2, g3⟩ := aFill_some (place := fun j => (fs.map fun f => (f.offset, ((E.P.info? f.type).map (·.size)).getD 0))[j]?) _ _ _ (parts.map fun (i, x) => (i, a.eval x)) hzl (fun j o x hj => by
      rw [List.getElem?_map, List.getElem?_map] at hj
      cases hp : parts[j]? with
      | none => simp [hp] at hj
      | some p =>
        obtain ⟨q, y⟩ := p
        simp [hp] at hj
        obtain ⟨rfl, rfl⟩ := hj
        refine ⟨q, a.eval y, by simp [hp], ?_, R.ev y⟩
        rw [Array.getElem?_map]
        cases hq : fs[q]? with
        | none => rfl
        | some f =>
          obtain ⟨i', hi', hsi⟩ := siz_info (hfs f (Array.mem_toList_iff.2 (Array.mem_of_getElem? hq)))
          simp [hi', hsi]) (by simp) h
    refine ⟨_, ?_, mkAgg_some g2 g1⟩
    simp only [Array.toArray_toList] at g3
    simp only [Instr.build, Sem.run_bind, hzr, run_underlying ht, hm, Result.andThen_ok, g3, Sem.run_pure]
  · rename_i n e ht
    simp only [aGd_some, decide_eq_true_eq] at h
    obtain ⟨hs, h⟩ := h
    obtain ⟨ie, hie, hsi⟩ := siz_info hs
    obtain ⟨cs', vs', g1, g2, g3⟩ := aFill_some (place := fun j => some (j * ie.size, ie.size)) _ _ _ (parts.map fun (i, x) => (i, a.eval x)) hzl (fun j o x hj => by
      rw [List.getElem?_map, List.getElem?_map] at hj
      cases hp : parts[j]? with
      | none => simp [hp] at hj
      | some p =>
        obtain ⟨q, y⟩ := p
        simp [hp] at hj
        obtain ⟨rfl, rfl⟩ := hj
        exact ⟨q, a.eval y, by simp [hp], by rw [hsi], R.ev y⟩) (by simp) h
    refine ⟨_, ?_, mkAgg_some g2 g1⟩
    simp only [Array.toArray_toList] at g3
    simp [Instr.build, hzr, run_underlying ht, run_sizeOf' hie, g3]
  · cases h

theorem alloc_below (w : World) (o : Obj) : Below w.heap.size w (w.alloc o) := (Below.refl _ w).alloc (Nat.le_refl _) o
theorem alloc_get (w : World) (o : Obj) : (w.alloc o).heap[w.heap.size]? = some o := heap_alloc_new w o
theorem alloc_old {w : World} (o : Obj) {k : Nat} (h : k < w.heap.size) : (w.alloc o).heap[k]? = w.heap[k]? := (alloc_below w o).block k h
/-! ## Slice literals -/
theorem fill_dense (sz : Nat) : ∀ (vals : List Value) (k : Nat) (pre rest : List Value), pre.length = k * sz → (∀ v ∈ vals, v.cells.size = sz) → vals.length * sz ≤ rest.length →
    Instr.fill (fun i => some (i * sz, sz)) (pre ++ rest).toArray ((vals.zipIdx k).map fun p => (p.2, p.1)) = some (pre ++ vals.flatMap (fun v => v.cells.toList) ++ rest.drop (vals.length * sz)).toArray
  | [], k, pre, rest, h1, h2, h3 => by simp [Instr.fill]
  | v :: vals, k, pre, rest, h1, h2, h3 => by
    have hv := h2 v (by simp)
    have h3' : sz + vals.length * sz ≤ rest.length := by rw [List.length_cons, Nat.succ_mul] at h3; omega
    simp only [List.zipIdx_cons, List.map_cons, Instr.fill]
    rw [if_neg (by simp [hv, h1]; omega)]
    have hf := foldl_set (k * sz) v.cells.toList 0 (pre ++ rest) (by simp [h1, hv]; omega)
    rw [Nat.add_zero] at hf
    have hsp : splice (pre ++ rest) (k * sz) v.cells.toList = (pre ++ v.cells.toList) ++ rest.drop sz := by
      unfold splice
      rw [← h1, List.take_left]
      rw [List.drop_append]
      simp [hv]
    have hcells : v.cells.zipIdx.foldl (fun (cs : Array Value) (x : Value × Nat) => cs.setIfInBounds (k * sz + x.2) x.1) (pre ++ rest).toArray = ((pre ++ v.cells.toList) ++ rest.drop sz).toArray := by
      rw [← hsp, ← hf, ← Array.foldl_toList]
      simp
    have ih := fill_dense sz vals (k + 1) (pre ++ v.cells.toList) (rest.drop sz) (by simp [h1, hv, Nat.succ_mul]) (fun u hu => h2 u (by simp [hu])) (by simp; omega)
    refine Eq.trans ?_ (ih.trans ?_)
    · congr 1
    · congr 2
      simp only [List.flatMap_cons, List.append_assoc, List.drop_drop, List.length_cons, Nat.succ_mul]
      congr 4
      omega
theorem range_parts {α β : Type} (l : List (Nat × α)) (f : α → β) (n : Nat) (h : l.map (·.1) = List.range n) : (l.map fun p => (p.1, f p.2)) = ((l.map fun p => f p.2).zipIdx 0).map fun p => (p.2, p.1) := by
  apply List.ext_getElem?
  intro i
  simp only [List.getElem?_map, List.getElem?_zipIdx]
  cases hi : l[i]? with
  | none => simp
  | some p =>
    have h1 : (l.map (·.1))[i]? = some p.1 := by rw [List.getElem?_map, hi]; rfl
    rw [h] at h1
    have h2 : i = p.1 := by
      obtain ⟨hlt, e⟩ := List.getElem?_eq_some_iff.1 h1
      simpa using e
    simp [← h2]
theorem allLen_get {n : Nat} : ∀ {xs : List PV}, allLen n xs = true → ∀ x ∈ xs, x.cells.length = n ∧ allOne (x.cells.map .p) = true
  | [], _, x, hx => by simp at hx
  | y :: xs, h, x, hx => by
    simp only [allLen, Bool.and_eq_true, decide_eq_true_eq] at h
    rcases List.mem_cons.1 hx with rfl | hx
    · exact ⟨h.1, h.2.1⟩
    · exact allLen_get h.2.2 x hx
theorem p_cells (x : PV) : (AV.p x).cells = x.cells.map .p := by cases x <;> rfl
theorem flat_get (sz : Nat) : ∀ (vals : List Value), (∀ v ∈ vals, v.cells.size = sz) → ∀ (k j : Nat) v, vals[k]? = some v → j < sz → (vals.flatMap fun v => v.cells.toList)[k * sz + j]? = v.cells.toList[j]?
  | [], _, k, j, v, h, _ => by simp at h
  | u :: vals, hs, k, j, v, h, hj => by
    have hu := hs u (by simp)
    have hul : u.cells.toList.length = sz := by simpa using hu
    rw [List.flatMap_cons]
    cases k with
    | zero =>
      simp at h; subst h
      rw [Nat.zero_mul, Nat.zero_add, List.getElem?_append_left (by omega)]
    | succ k =>
      rw [List.getElem?_append_right (by rw [Nat.succ_mul]; omega), hul, show (k + 1) * sz + j - sz = k * sz + j by rw [Nat.succ_mul]; omega]
      exact flat_get sz vals (fun v hv => hs v (by simp [hv])) k j v (by simpa using h) hj
theorem flat_len (sz : Nat) : ∀ (vals : List Value), (∀ v ∈ vals, v.cells.size = sz) → (vals.flatMap fun v => v.cells.toList).length = vals.length * sz
  | [], _ => by simp
  | u :: vals, hs => by
    have h1 := hs u (by simp)
    have h2 := flat_len sz vals (fun v hv => hs v (by simp [hv]))
    rw [List.flatMap_cons, List.length_append, List.length_cons, Nat.succ_mul, h2]
    simp; omega
/-! ## Equality of structs and arrays -/
/-- The value of a type whose cells are vs. -/
def RepV (d : TypeDesc) (vs : List Value) (v : Value) : Prop := (aggD d = true ∧ v = .agg vs.toArray) ∨ (aggD d = false ∧ vs[0]? = some v)
theorem aEq_par {ρ : Type} {r : ρ} {E : Env} {d : Nat} {t : TypeId} {xs ys : List PV} {k : Bool → Option ρ} (h : aEq E d t xs ys k = some r) : ∃ b, aEq E d t xs ys some = some b ∧ k b = some r := by
  have := aEq_bind (E := E) (d := d) (t := t) (xs := xs) (ys := ys) (g := some) (k := k)
  simp only [Option.bind_some] at this
  rw [h] at this
  cases hb : aEq E d t xs ys some with
  | none => rw [hb] at this; cases this
  | some b => rw [hb] at this; exact ⟨b, rfl, this⟩
theorem part_rep {E : Env} {t : TypeId} {cs : List PV} {vs : List Value} {o : Nat} (hs : 0 < E.siz t) (hle : o + E.siz t ≤ vs.length) (hl : ListRelP S w cs vs) (td : TypeDesc) (ht : E.P.underlying t = some td) :
    ∃ v, (part t vs.toArray o).run E.P w = .ok v w ∧ RepV td ((vs.drop o).take (E.siz t)) v := by
  obtain ⟨i, hi, hsi⟩ := siz_info hs
  cases hg : aggD td with
  | true => exact ⟨_, run_part ht hi (.inl ⟨hg, by simp; omega, rfl⟩), .inl ⟨hg, by rw [hsi]⟩⟩
  | false =>
    have hlt : o < vs.length := by omega
    exact ⟨vs[o], run_part ht hi (.inr ⟨hg, List.getElem?_eq_getElem hlt⟩), .inr ⟨hg, by rw [List.getElem?_take, if_pos hs, List.getElem?_drop]; simp [hlt]⟩⟩
theorem aEq_dom {E : Env} {d : Nat} {t : TypeId} {xs ys : List PV} {b : Bool} (h : aEq E d t xs ys some = some b) : ∃ td, E.P.underlying t = some td := by
  cases d with
  | zero => cases h
  | succ d =>
    unfold aEq at h
    split at h <;> first | exact ⟨_, by assumption⟩ | cases h
theorem eqFs_ok {E : Env} {d D : Nat} (ih : ∀ {t : TypeId} {td : TypeDesc} {xs ys : List PV} {vs us : List Value} {v u : Value} {b : Bool}, E.P.underlying t = some td → aEq E d t xs ys some = some b → ListRelP S w xs vs → ListRelP S w ys us → RepV td vs v → RepV td us u → (Op.equalIn D t v u).run E.P w = .ok b w)
    {xs ys : List PV} {vs us : List Value} (hx : ListRelP S w xs vs) (hy : ListRelP S w ys us) : ∀ {l : List Field} {k : Bool → Option Bool} {r : Bool}, eqFs E (aEq E d) xs ys l k = some r → ∃ b, (Op.eqFields D vs.toArray us.toArray l).run E.P w = .ok b w ∧ k b = some r
  | [], k, r, h => ⟨true, by simp [Op.eqFields], h⟩
  | f :: l, k, r, h => by
    simp only [eqFs, aGd_some, decide_eq_true_eq, bne_iff_ne, ne_eq] at h
    obtain ⟨hn, hs, h1, h2, h⟩ := h
    obtain ⟨b, hb, h⟩ := aEq_par h
    obtain ⟨c, hc, h⟩ := eqFs_ok ih hx hy h
    obtain ⟨td, htd⟩ := aEq_dom hb
    obtain ⟨v, hv, rv⟩ := part_rep hs (by rw [← hx.1]; exact h1) hx td htd
    obtain ⟨u, hu, ru⟩ := part_rep hs (by rw [← hy.1]; exact h2) hy td htd
    have he := ih htd hb (hx.sub _ _) (hy.sub _ _) rv ru
    refine ⟨_, ?_, h⟩
    simp only [Op.eqFields, if_pos hn, Sem.run_bind, hv, hu, he, Result.andThen_ok]
    cases b <;> simp [hc]
theorem eqEs_ok {E : Env} {d D : Nat} (ih : ∀ {t : TypeId} {td : TypeDesc} {xs ys : List PV} {vs us : List Value} {v u : Value} {b : Bool}, E.P.underlying t = some td → aEq E d t xs ys some = some b → ListRelP S w xs vs → ListRelP S w ys us → RepV td vs v → RepV td us u → (Op.equalIn D t v u).run E.P w = .ok b w)
    {e : TypeId} (hs : 0 < E.siz e) {xs ys : List PV} {vs us : List Value} (hx : ListRelP S w xs vs) (hy : ListRelP S w ys us) : ∀ {l : List Nat} {k : Bool → Option Bool} {r : Bool}, eqEs E (aEq E d) e xs ys l k = some r → ∃ b, (Op.eqItems D e (E.siz e) vs.toArray us.toArray l).run E.P w = .ok b w ∧ k b = some r
  | [], k, r, h => ⟨true, by simp [Op.eqItems], h⟩
  | i :: l, k, r, h => by
    simp only [eqEs, aGd_some, decide_eq_true_eq] at h
    obtain ⟨h1, h2, h⟩ := h
    obtain ⟨b, hb, h⟩ := aEq_par h
    obtain ⟨c, hc, h⟩ := eqEs_ok ih hs hx hy h
    obtain ⟨td, htd⟩ := aEq_dom hb
    obtain ⟨v, hv, rv⟩ := part_rep hs (by rw [← hx.1]; exact h1) hx td htd
    obtain ⟨u, hu, ru⟩ := part_rep hs (by rw [← hy.1]; exact h2) hy td htd
    have he := ih htd hb (hx.sub _ _) (hy.sub _ _) rv ru
    refine ⟨_, ?_, h⟩
    simp only [Op.eqItems, Sem.run_bind, hv, hu, he, Result.andThen_ok]
    cases b <;> simp [hc]
theorem aEq_ok {E : Env} : ∀ {d D : Nat} {t : TypeId} {td : TypeDesc} {xs ys : List PV} {vs us : List Value} {v u : Value} {b : Bool}, d ≤ D → E.P.underlying t = some td → aEq E d t xs ys some = some b → ListRelP S w xs vs → ListRelP S w ys us → RepV td vs v → RepV td us u →
    (Op.equalIn D t v u).run E.P w = .ok b w
  | 0, _, _, _, _, _, _, _, _, _, _, _, _, h, _, _, _, _ => by cases h
  | d + 1, 0, _, _, _, _, _, _, _, _, _, hD, _, _, _, _, _, _ => by omega
  | d + 1, D + 1, t, td, xs, ys, vs, us, v, u, b, hD, ht, h, hx, hy, rv, ru => by
    have ih := fun {t td xs ys vs us v u b} => @aEq_ok E d D t td xs ys vs us v u b (by omega)
    unfold aEq at h
    have one : ∀ {x : PV} {l : List PV} {vs : List Value} {v : Value}, aggD td = false → ListRelP S w (x :: l) vs → RepV td vs v → VRel S w x v := fun {x l vs v} hg hl hr => by
      rcases hr with ⟨h, _⟩ | ⟨_, h⟩
      · rw [hg] at h; cases h
      · exact hl.2.2 0 x v rfl h
    split at h
    · rename_i i hi
      rw [ht] at hi; cases hi
      match xs, ys, h with
      | x :: xs, y :: ys, h =>
        simp only [onCons, onInt_some, Option.some.injEq] at h
        obtain ⟨a, rfl, c, rfl, rfl⟩ := h
        have h1 := one rfl hx rv
        have h2 := one rfl hy ru
        cases h1; cases h2
        exact run_equalIn_int w D t i i a c ht
    · rename_i hi
      rw [ht] at hi; cases hi
      match xs, ys, h with
      | x :: xs, y :: ys, h =>
        simp only [onCons, onStr_some, Option.some.injEq] at h
        obtain ⟨a, rfl, c, rfl, rfl⟩ := h
        have h1 := one rfl hx rv
        have h2 := one rfl hy ru
        cases h1; cases h2
        rw [run_equalIn_string w D t _ _ ht, ba_toList, ba_toList]
    · rename_i hi
      rw [ht] at hi; cases hi
      match xs, ys, h with
      | x :: xs, y :: ys, h =>
        simp only [onCons, onBool_some, Option.some.injEq] at h
        obtain ⟨a, rfl, c, rfl, rfl⟩ := h
        have h1 := one rfl hx rv
        have h2 := one rfl hy ru
        cases h1; cases h2
        exact run_equalIn_bool' w D t a c ht
    · rename_i fs hi
      rw [ht] at hi; cases hi
      simp only [aGd_some, Bool.not_eq_true'] at h
      obtain ⟨hp, h⟩ := h
      rcases rv with ⟨_, rfl⟩ | ⟨h', _⟩
      · rcases ru with ⟨_, rfl⟩ | ⟨h', _⟩
        · have hf : E.P.fieldsOf t = fs := by simp [Program.fieldsOf, ht]
          rw [run_equalIn_struct w D t _ _ (by rw [hf]; exact ht) hp, hf]
          obtain ⟨b', hb, hk⟩ := eqFs_ok (D := D) ih hx hy h
          cases hk; exact hb
        · cases h'
      · cases h'
    · rename_i n e hi
      rw [ht] at hi; cases hi
      simp only [aGd_some, decide_eq_true_eq] at h
      obtain ⟨hs, h⟩ := h
      obtain ⟨i, hi, hsi⟩ := siz_info hs
      rcases rv with ⟨_, rfl⟩ | ⟨h', _⟩
      · rcases ru with ⟨_, rfl⟩ | ⟨h', _⟩
        · have hc : E.P.cellsOf e = E.siz e := by simp [Program.cellsOf, Env.siz, hi]
          rw [run_equalIn_array w D _ _ ht hi, hc]
          obtain ⟨b', hb, hk⟩ := eqEs_ok (D := D) ih hs hx hy h
          cases hk; exact hb
        · cases h'
      · cases h'
    · cases h
theorem aEqT_ok {ρ : Type} {r : ρ} {E : Env} {t : TypeId} {x y : AV} {vx vy : Value} {k : Bool → Option ρ} (ht : ∃ td, E.P.underlying t = some td ∧ aggD td = true) (h : aEqT E t x y k = some r) (hx : ARel μ S w x vx) (hy : ARel μ S w y vy) :
    ∃ b xs ys, k b = some r ∧ vx = .agg xs ∧ vy = .agg ys ∧ E.P.eqGuardType E.P.depth t = false ∧ (Op.equalIn 10000 t vx vy).run E.P w = .ok b w := by
  obtain ⟨td, ht, hg⟩ := ht
  simp only [aEqT, aGd_some, onP_some, onAgg_some, Bool.not_eq_true'] at h
  obtain ⟨he, _, rfl, xs, rfl, _, rfl, ys, rfl, h⟩ := h
  obtain ⟨b, hb, h⟩ := aEq_par h
  cases hx with | p _ _ hx =>
  cases hy with | p _ _ hy =>
  obtain ⟨vs, rfl, lx⟩ := hx.agg_inv
  obtain ⟨us, rfl, ly⟩ := hy.agg_inv
  exact ⟨b, _, _, h, rfl, rfl, he, aEq_ok (by decide) ht hb lx ly (.inl ⟨hg, rfl⟩) (.inl ⟨hg, rfl⟩)⟩
theorem aBin_ok {E : Env} {op : BinOp} {t yt : TypeId} {x y : AV} {vx vy : Value} {c : PV} (xo yo : Operand) (h : aBin E op t x y yt some = some c) (hx : ARel μ S w x vx) (hy : ARel μ S w y vy) :
    ∃ v, (do eqGuard op t xo yo vx vy; binOp op t vx vy).run E.P w = .ok v w ∧ VRel S w c v := by
  unfold aBin at h
  split at h
  · simp only [onSome_some] at h
    obtain ⟨d, hd, h⟩ := h
    split at h
    · simp only [onP_some, onInt_some] at h
      obtain ⟨_, rfl, a, rfl, _, rfl, b, rfl, h⟩ := h
      obtain rfl := hx.int
      obtain rfl := hy.int
      exact aShift_ok t xo yo h
    · cases h
  · simp only [onSome_some] at h
    obtain ⟨d, hd, h⟩ := h
    split at h
    · simp only [onP_some, onInt_some] at h
      obtain ⟨_, rfl, a, rfl, _, rfl, b, rfl, h⟩ := h
      obtain rfl := hx.int
      obtain rfl := hy.int
      exact aShift_ok t xo yo h
    · cases h
  · rename_i h1 h2
    simp only [onP_some, onInt_some] at h
    obtain ⟨_, rfl, a, rfl, _, rfl, b, rfl, h⟩ := h
    obtain rfl := hx.int
    obtain rfl := hy.int
    refine aInt_ok t xo yo ⟨?_, ?_⟩ h <;> rintro rfl <;> simp_all
  · simp only [onP_some, onStr_some] at h
    obtain ⟨_, rfl, a, rfl, _, rfl, b, rfl, h⟩ := h
    obtain rfl := hx.str
    obtain rfl := hy.str
    exact aStr_ok t xo yo h
  · rename_i ht
    simp only [onP_some, onBool_some] at h
    obtain ⟨_, rfl, a, rfl, _, rfl, b, rfl, h⟩ := h
    obtain rfl := hx.bool
    obtain rfl := hy.bool
    simp only [Option.some.injEq] at h; subst h
    exact ⟨_, by simp [eqGuard, run_eql_bool w t _ _ ht], .bool _⟩
  · rename_i ht
    simp only [onP_some, onBool_some] at h
    obtain ⟨_, rfl, a, rfl, _, rfl, b, rfl, h⟩ := h
    obtain rfl := hx.bool
    obtain rfl := hy.bool
    simp only [Option.some.injEq] at h; subst h
    exact ⟨_, by simp [eqGuard, run_neq_bool w t _ _ ht], .bool _⟩
  · rename_i e ht
    split at h
    · obtain ⟨b, hb, hn⟩ := isNil_par h
      simp only [Option.some.injEq] at hb; subst hb
      obtain ⟨a, n, cp, rfl, rfl⟩ := isNil_spec hx hn
      cases hy with | p _ _ hy =>
      cases hy
      exact ⟨_, by simp [eqGuard, Lib.run_eql_slice_nil w t e a n cp 0 0 ht], .bool _⟩
    · cases h
  · rename_i e ht
    split at h
    · obtain ⟨b, hb, hn⟩ := isNil_par h
      simp only [Option.some.injEq] at hb; subst hb
      obtain ⟨a, n, cp, rfl, rfl⟩ := isNil_spec hx hn
      cases hy with | p _ _ hy =>
      cases hy
      exact ⟨_, by simp [eqGuard, run_neq_slice_nil w t e a n cp ht], .bool _⟩
    · cases h
  · rename_i ht
    obtain ⟨b, xs, ys, hb, rfl, rfl, he, hr⟩ := aEqT_ok ⟨_, ht, rfl⟩ h hx hy
    cases hb
    exact ⟨.bool b, by simp [run_eqGuard_agg w .eql t xo yo xs ys he, run_eql_struct, hr, Result.andThen], .bool _⟩
  · rename_i ht
    obtain ⟨b, xs, ys, hb, rfl, rfl, he, hr⟩ := aEqT_ok ⟨_, ht, rfl⟩ h hx hy
    cases hb
    exact ⟨.bool !b, by simp [run_eqGuard_agg w .neq t xo yo xs ys he, run_neq_struct, hr, Result.andThen], .bool _⟩
  · rename_i ht
    obtain ⟨b, xs, ys, hb, rfl, rfl, he, hr⟩ := aEqT_ok ⟨_, ht, rfl⟩ h hx hy
    cases hb
    exact ⟨.bool b, by simp [run_eqGuard_agg w .eql t xo yo xs ys he, run_eql_struct, hr, Result.andThen], .bool _⟩
  · rename_i ht
    obtain ⟨b, xs, ys, hb, rfl, rfl, he, hr⟩ := aEqT_ok ⟨_, ht, rfl⟩ h hx hy
    cases hb
    exact ⟨.bool !b, by simp [run_eqGuard_agg w .neq t xo yo xs ys he, run_neq_struct, hr, Result.andThen], .bool _⟩
  · cases h

/-! ## Calls -/
theorem ARel.mono' {μ' : Nat → Option Value} {S' : Nat → Prop} {w' : World} {x : AV} {v : Value} (h : ARel μ S w x v) (hμ : ∀ b u, μ b = some u → μ' b = some u) (hS : ∀ b, S b → S' b) (hw : ∀ b, S b → w'.heap[b]? = w.heap[b]?) : ARel μ' S' w' x v := by
  induction h with
  | p x v h => exact .p x v (h.mono hS hw)
  | box b off g h => exact .box b off g (hμ _ _ h)
  | own b a n c h => exact .own b a n c (hμ _ _ h)
  | el b st i off g n cap h => exact .el b st i off g n cap (hμ _ _ h)
  | agg cs vs hl h h1 ih => exact .agg cs vs hl ih h1
  | tup cs vs hl h ih => exact .tup cs vs hl ih
  | clo f cs vs hl h ih => exact .clo f cs vs hl ih
  | it b a h => exact .it b a (hμ _ _ h)
  | top v => exact .top v
theorem ARel.mono {S' : Nat → Prop} {w' : World} {x : AV} {v : Value} (h : ARel μ S w x v) (hS : ∀ b, S b → S' b) (hw : ∀ b, S b → w'.heap[b]? = w.heap[b]?) : ARel μ S' w' x v := h.mono' (fun _ _ h => h) hS hw
theorem ownBlock_foot {v : Value} {g : Nat} (h : v.ownBlock = some g) : foot v = some g := by
  cases v <;> simp [Value.ownBlock] at h
  rename_i a n c
  cases a <;> simp [Value.ownBlock] at h
  simpa [foot] using h
/-- A block stands as it stood where it is not written and the frozen memory is not. -/
theorem BRel.keep {base i : Nat} {b : Blk} {S' : Nat → Prop} {w' : World} (h : BRel base μ S w i b) (hS : ∀ b, S b → S' b) (hS' : ∀ g, footO (μ i) = some g → ¬ S g → ¬ S' g) (hw : ∀ b, S b → w'.heap[b]? = w.heap[b]?)
    (hf : ∀ g, footO (μ i) = some g → w'.heap[g]? = w.heap[g]?) : BRel base μ S' w' i b := by
  cases b with
  | none => trivial
  | box cs =>
    obtain ⟨g, ty, vs, h1, h2, h3, h4, h5, h6, h7⟩ := h
    have hg : footO (μ i) = some g := by rw [h1]; rfl
    exact ⟨g, ty, vs, h1, h2, hS' g hg h3, by rw [hf g hg]; exact h4, h5, h6, fun j c v hc hv => (h7 j c v hc hv).mono hS hw⟩
  | row e st xs =>
    obtain ⟨mv, vs, hmv, h1, h2, h3, h4, h5, h6⟩ := h
    have hfm : footO (μ i) = foot mv := by rw [hmv]; rfl
    refine ⟨mv, vs, hmv, ⟨h1.1, ?_⟩, h2, fun g hg => hS' g (by rw [hfm]; exact hg) (h3 g hg), h4, h5, fun k j x c hx hc => ?_⟩
    · rcases h1.2 with hn | ⟨g, cap, cur, hv, hb, hg, rest⟩
      · exact .inl hn
      · exact .inr ⟨g, cap, cur, hv, hb, by rw [hf g (by rw [hfm, hv]; rfl)]; exact hg, rest⟩
    · obtain ⟨v, hv, hr⟩ := h6 k j x c hx hc
      exact ⟨v, hv, hr.mono hS hw⟩
  | iter l pos =>
    obtain ⟨g, h1, h2, h3, h4⟩ := h
    have hg : footO (μ i) = some g := by rw [h1]; rfl
    exact ⟨g, h1, h2, hS' g hg h3, by rw [hf g hg]; exact h4⟩
theorem BRel.foot_lt {base i : Nat} {b : Blk} (h : BRel base μ S w i b) (hl : b.live = true) : ∀ g, footO (μ i) = some g → g < w.heap.size ∧ base ≤ g ∧ ¬ S g := by
  intro g hg
  cases b with
  | none => simp [Blk.live] at hl
  | box cs =>
    obtain ⟨g', ty, vs, h1, h2, h3, h4, _⟩ := h
    rw [h1] at hg; cases hg
    exact ⟨(Array.getElem?_eq_some_iff.1 h4).1, h2, h3⟩
  | row e st xs =>
    obtain ⟨mv, vs, hmv, h1, _, hn, _⟩ := h
    rw [hmv] at hg
    have hg : foot mv = some g := hg
    have hs := hn g hg
    rcases h1.2 with ⟨hn, _⟩ | ⟨g', cap, cur, hv, hb, hg', rest⟩
    · rw [hn] at hg; cases hg
    · rw [hv] at hg; cases hg
      exact ⟨(Array.getElem?_eq_some_iff.1 hg').1, hb, hs⟩
  | iter l pos =>
    obtain ⟨g', h1, h2, h3, h4⟩ := h
    rw [h1] at hg; cases hg
    exact ⟨(Array.getElem?_eq_some_iff.1 h4).1, h2, h3⟩
/-- After a call that writes to new memory alone. -/
theorem RelM.world {S' : Nat → Prop} {w' : World} (R : RelM G w0 S0 μ S st a w) (hb : Below w.heap.size w w') (hS : ∀ b, S b → S' b) (hS1 : ∀ g, S' g → S g ∨ w.heap.size ≤ g) (hS2 : ∀ g, S' g → g < w'.heap.size) : RelM G w0 S0 μ S' st a w' := by
  have hw : ∀ b, S b → w'.heap[b]? = w.heap[b]? := fun b h => hb.block b (R.s2 b h)
  refine ⟨R.size, fun i c hc => ?_, R.defers, R.below.trans (hb.mono R.below.size), fun i b h => ?_, R.sep, fun g h => hS g (R.s0 g h), fun g h => ?_, hS2, R.gw, R.dom⟩
  · exact (R.tmps i c hc).mono hS hw
  · have hB := R.heap i b h
    cases hl : b.live with
    | false => cases b <;> simp [Blk.live] at hl; trivial
    | true =>
      have hf := hB.foot_lt hl
      refine hB.keep hS (fun g hg hn h' => ?_) hw (fun g hg => hb.block g (hf g hg).1)
      rcases hS1 g h' with h | h
      · exact hn h
      · have := (hf g hg).1; omega
  · rcases hS1 g h with h | h
    · exact R.s1 g h
    · exact .inr (Nat.le_trans R.below.size h)

/-- What a call leaves behind: x, in memory that is not written any more. -/
def Post (w : World) (S : Nat → Prop) (x : PV) (e : Ending) (w' : World) : Prop :=
  ∃ v S', e = .returned v ∧ Below w.heap.size w w' ∧ (∀ g, S g → S' g) ∧ (∀ g, S' g → S g ∨ w.heap.size ≤ g) ∧ (∀ g, S' g → g < w'.heap.size) ∧ VRel S' w' x v
/-- Function f hands back what F says. -/
def Spec (P : Program) (G : World → Prop) (f : FuncId) (F : List PV → Option PV) : Prop :=
  ∀ args r, F args = some r → ∀ (S : Nat → Prop) (w : World) (vs : List Value), (∀ g, S g → g < w.heap.size) → G w → args.length = vs.length →
    (∀ (i : Nat) c v, args[i]? = some c → vs[i]? = some v → VRel S w c v) → Calls P f vs.toArray w (Post w S r)
structure Env.ok (E : Env) (G : World → Prop) : Prop where
  keep : ∀ w w', G w → Below w.heap.size w w' → G w'
  spec : ∀ f c, E.callee f = some c → Spec E.P G f (fun args => c.run args some)
  body : ∀ f c, E.callee f = some c → ∀ args w, (callFunc f args).run E.P w = .ok (.enter f args) w

theorem aArgs_some {ρ : Type} {r : ρ} : ∀ {l : List AV} {k : List PV → Option ρ}, aArgs l k = some r → ∃ xs, l = xs.map .p ∧ k xs = some r
  | [], k, h => ⟨[], rfl, h⟩
  | v :: l, k, h => by
    simp only [aArgs, onP_some] at h
    obtain ⟨x, rfl, h⟩ := h
    obtain ⟨xs, rfl, h2⟩ := aArgs_some h
    exact ⟨x :: xs, rfl, h2⟩
theorem AV.p_list {xs : List PV} {os : List Operand} (R : RelM G w0 S0 μ S st a w) (h : os.map st.ev = xs.map .p) :
    xs.length = (os.map a.eval).length ∧ ∀ (i : Nat) c v, xs[i]? = some c → (os.map a.eval)[i]? = some v → VRel S w c v := by
  have hlen : os.length = xs.length := by simpa using congrArg List.length h
  refine ⟨by simp [hlen], fun i c v hc hv => ?_⟩
  rw [List.getElem?_map] at hv
  cases ho : os[i]? with
  | none => simp [ho] at hv
  | some o =>
    simp [ho] at hv
    subst hv
    have h1 : (os.map st.ev)[i]? = some (.p c) := by rw [h, List.getElem?_map, hc]; rfl
    rw [List.getElem?_map, ho] at h1
    simp at h1
    have := R.ev o
    rw [h1] at this
    cases this; assumption
/-- What a quiet operation does: it hands a value on (new memory at most is written, and not written any more), or enters a callee. -/
def Does (P : Program) (μ : Nat → Option Value) (S : Nat → Prop) (w : World) (s : Sem Next) (c : AV) : Prop :=
  (∃ v w' S', s.run P w = .ok (.value v) w' ∧ Below w.heap.size w w' ∧ (∀ g, S g → S' g) ∧ (∀ g, S' g → S g ∨ w.heap.size ≤ g) ∧ (∀ g, S' g → g < w'.heap.size) ∧ ARel μ S' w' c v) ∨ ∃ f args x, s.run P w = .ok (.enter f args) w ∧ c = .p x ∧ Calls P f args w (Post w S x)
theorem Does.val' {s : Sem Next} {c : AV} {v : Value} (hS : ∀ g, S g → g < w.heap.size) (h1 : s.run P w = .ok (.value v) w) (h2 : ARel μ S w c v) : Does P μ S w s c :=
  .inl ⟨v, w, S, h1, Below.refl _ _, fun _ h => h, fun _ h => .inl h, hS, h2⟩
theorem Does.val {s : Sem Value} {c : AV} (hS : ∀ g, S g → g < w.heap.size) (h : ∃ v, s.run P w = .ok v w ∧ ARel μ S w c v) : Does P μ S w (do pure (.value (← s))) c := by
  obtain ⟨v, h1, h2⟩ := h
  exact Does.val' hS (by simp [h1]) h2
theorem Does.pv {s : Sem Value} {c : PV} (hS : ∀ g, S g → g < w.heap.size) (h : ∃ v, s.run P w = .ok v w ∧ VRel S w c v) : Does P μ S w (do pure (.value (← s))) (.p c) := by
  obtain ⟨v, h1, h2⟩ := h
  exact Does.val' hS (by simp [h1]) (.p _ _ h2)

/-- A literal of elements: a slice that is not written any more. -/
theorem aBuildSliceV_ok {E : Env} {t : TypeId} {n : Nat} {parts : Array (Nat × Operand)} {o : Oper} {c : AV} (R : RelM G w0 S0 μ S st a w) (ho : o.op = .buildSlice t (n + 1) parts) (h : aVal E o st.ev st.heap some = some c) :
    ∃ v w' S', (Instr.buildSlice t (n + 1) (parts.map fun (i, x) => (i, a.eval x))).run E.P w = .ok v w' ∧ Below w.heap.size w w' ∧ (∀ g, S g → S' g) ∧ (∀ g, S' g → S g ∨ w.heap.size ≤ g) ∧ (∀ g, S' g → g < w'.heap.size) ∧ ARel μ S' w' c v := by
  unfold aVal at h
  simp only [ho] at h
  split at h
  · rename_i e ht
    simp only [onSome_some, aGd_some, decide_eq_true_eq] at h
    obtain ⟨i, hi, z, hz, hs, hzs, hr, hsm, h⟩ := h
    generalize hlen1 : n + 1 = len at *
    have hpl : (parts.map fun (x : Nat × Operand) => (x.1, a.eval x.2)).toList = ((parts.toList.map fun p => a.eval p.2).zipIdx 0).map fun p => (p.2, p.1) := by
      rw [Array.toList_map]; exact range_parts parts.toList a.eval len hr
    have hlen : parts.toList.length = len := by simpa using congrArg List.length hr
    obtain ⟨xs, hxs, h⟩ := aArgs_some h
    simp only [aGd_some, Option.some.injEq] at h
    obtain ⟨hal, rfl⟩ := h
    have hxl : xs.length = len := by
      have := congrArg List.length hxs
      rw [List.length_map, List.length_map] at this; omega
    obtain ⟨hl, hv⟩ := AV.p_list (os := parts.toList.map (·.2)) R (by simpa [List.map_map, Function.comp_def] using hxs)
    have hvals : (parts.toList.map (·.2)).map a.eval = parts.toList.map fun p => a.eval p.2 := by simp [List.map_map, Function.comp_def]
    rw [hvals] at hl hv
    generalize hvs : (parts.toList.map fun p => a.eval p.2) = vals at *
    have hel : ∀ (k : Nat) x v, xs[k]? = some x → vals[k]? = some v → ListRelP S w x.cells v.cells.toList := fun k x v hx hv' => by
      obtain ⟨h1, h2⟩ := allLen_get hal x (List.mem_of_getElem? hx)
      have := AV.cells_rel (μ := μ) (.p x v (hv k x v hx hv')) (by rw [p_cells]; exact h2)
      rw [p_cells] at this
      exact this.p
    have hcs : ∀ v ∈ vals, v.cells.size = i.size := fun v hv' => by
      obtain ⟨q, hq⟩ := List.getElem?_of_mem hv'
      have hlt : q < xs.length := by rw [hl]; exact (List.getElem?_eq_some_iff.1 hq).1
      have hx := List.getElem?_eq_getElem hlt
      have h1 := (allLen_get hal _ (List.mem_of_getElem? hx)).1
      have := (hel q _ v hx hq).1
      simp at this; omega
    have hvl : vals.length = len := by omega
    have hfd := fill_dense i.size vals 0 [] ((Array.range (len * i.size)).map (z.cells[· % z.cells.size]!)).toList (by simp) hcs (by simp [hvl])
    have hflen : (vals.flatMap fun v => v.cells.toList).length = len * i.size := by
      rw [← hvl]; exact flat_len i.size vals hcs
    simp only [List.nil_append, Array.toArray_toList] at hfd
    rw [List.drop_eq_nil_of_le (by simp [hvl]), List.append_nil] at hfd
    have hb := alloc_below w (.cells (vals.flatMap fun v => v.cells.toList).toArray e)
    have hlen0 : len * i.size ≠ 0 := Nat.mul_ne_zero (by omega) (by omega)
    have hwS : ∀ g, S g → (w.alloc (.cells (vals.flatMap fun v => v.cells.toList).toArray e)).heap[g]? = w.heap[g]? := fun g hg => hb.block g (R.s2 g hg)
    refine ⟨.slice (some ⟨w.heap.size, 0, none⟩) len len, _, fun g => S g ∨ g = w.heap.size, ?_, hb, fun _ h => .inl h, fun g h => h.imp id (fun e => by omega), fun g h => ?_, .p _ _ ?_⟩
    · simp only [Instr.buildSlice, Sem.run_bind, run_underlying ht, Result.andThen_ok, run_sizeOf' hi]
      rw [if_neg (by omega), if_neg hlen0]
      have hzr : (zeroValue e).run E.P w = .ok z w := by simp [zeroValue, typeInfo, hi, hz]
      simp only [Sem.run_bind, Sem.run_pure, hzr, Result.andThen_ok, hpl, hfd, newRow, newObj]
      rfl
    · rcases h with h | rfl
      · exact Nat.lt_of_lt_of_le (R.s2 g h) hb.size
      · simp
    · have := VRel.mk_sl (S := fun g => S g ∨ g = w.heap.size) (w := w.alloc (.cells (vals.flatMap fun v => v.cells.toList).toArray e)) (xs := xs) (b := w.heap.size) (o := 0) (cap := len) (st := i.size) (.inr rfl) (by omega) (by simp only [maxLen]; have : len ≤ len * i.size := Nat.le_mul_of_pos_right _ hs; omega)
        (fun x hx => (allLen_get hal x hx).1) (fun q x hx => by
          have hlt : q < vals.length := by rw [← hl]; exact (List.getElem?_eq_some_iff.1 hx).1
          have hvq := List.getElem?_eq_getElem hlt
          have hlr := hel q x _ hx hvq
          refine ⟨_, ⟨hlr.1, hlr.2.1, fun j c v hc hv => (hlr.2.2 j c v hc hv).mono (fun _ h => .inl h) hwS⟩, fun j u hj => ?_⟩
          have hjl : j < i.size := by
            have := (List.getElem?_eq_some_iff.1 hj).1
            have h2 := hcs _ (List.mem_of_getElem? hvq)
            simp at this; omega
          refine cell_of_cells (alloc_get w _) _ u ?_
          rw [Nat.zero_add, flat_get i.size vals hcs q j _ hvq hjl]
          exact hj)
      rw [hxl] at this
      exact this
  · cases h

theorem resolve_value {ρ : Operand → Value} {c : Call} {t : TypeId} {f : Operand} {g : FuncId} (hc : c.callee = .value f) (hf : ρ f = .func (.func g) #[] #[]) :
    resolve ρ c t = pure { target := .fn (.func g) #[], args := c.args.map ρ } := by
  simp [resolve, hc, hf, Deferred.ofValue]
theorem aCall_ok {E : Env} (hE : E.ok G) {o : Oper} {cl : Call} {f : Operand} {c : AV} (R : RelM G w0 S0 μ S st a w) (hop : o.op = .call cl) (hcl : cl.callee = .value f)
    (h : aCall E (st.ev f) (cl.args.toList.map st.ev) some = some c) : Does E.P μ S w (execOp a.eval o) c := by
  simp only [aCall, onP_some] at h
  obtain ⟨y, hf, h⟩ := h
  split at h
  · rename_i g
    obtain ⟨xs, hxs, h⟩ := aArgs_some h
    split at h
    · rename_i ce hce
      rw [ce.par] at h
      cases hr : ce.run xs some with
      | none => simp [hr] at h
      | some r =>
        simp [hr] at h
        subst h
        have hfv := R.ev f
        rw [hf] at hfv
        have hfv : a.eval f = .func (.func g) #[] #[] := by
          generalize a.eval f = v at hfv
          cases hfv with | p _ _ h => cases h; rfl
        obtain ⟨hl, hv⟩ := AV.p_list R hxs
        refine .inr ⟨g, cl.args.map a.eval, r, ?_, rfl, ?_⟩
        · unfold execOp
          simp only [hop, resolve_value hcl hfv, Sem.run_bind, Sem.run_pure, Result.andThen_ok, invoke, Array.append_empty]
          exact hE.body g ce hce _ w
        · have := hE.spec g ce hce xs r hr S w _ R.s2 (hE.keep w0 w R.gw R.below) hl hv
          have e : (cl.args.toList.map a.eval).toArray = cl.args.map a.eval := by apply Array.ext'; simp
          rwa [e] at this
    · cases h
  · cases h
theorem aVal_ok {E : Env} (hE : E.ok G) {o : Oper} {c : AV} (R : RelM G w0 S0 μ S st a w) (h : aVal E o st.ev st.heap some = some c) : Does E.P μ S w (execOp a.eval o) c := by
  have hop : ∀ op, o.op = op → execOp a.eval o = execOp a.eval { o with op := op } := fun op h => by subst h; rfl
  unfold aVal at h
  split at h
  · rename_i x ho
    rw [hop _ ho]
    cases h
    exact Does.val' R.s2 (v := a.eval x) rfl (R.ev x)
  · rename_i x ho
    rw [hop _ ho]
    cases h
    exact Does.val' R.s2 (v := a.eval x) rfl (R.ev x)
  · rename_i c' x y ho
    rw [hop _ ho]
    simp only [onP_some, onBool_some, aIf_some] at h
    obtain ⟨_, hc, b, rfl, h⟩ := h
    have hb := R.ev c'
    rw [hc] at hb
    have hb := hb.bool
    rcases h with ⟨rfl, h⟩ | ⟨rfl, h⟩ <;> cases h
    · exact Does.val' R.s2 (v := a.eval x) (by simp [execOp, hb, asBool]) (R.ev x)
    · exact Does.val' R.s2 (v := a.eval y) (by simp [execOp, hb, asBool]) (R.ev y)
  · rename_i x ho
    rw [hop _ ho]
    have hx := R.ev x
    split at h
    · cases h
      rename_i b off e
      rw [e] at hx
      generalize hv : a.eval x = v at hx
      cases hx with
      | box b off g hm => exact Does.val' R.s2 (by simp [execOp, hv]) (.box _ _ _ hm)
    · cases h
      rename_i b s i off e
      rw [e] at hx
      generalize hv : a.eval x = v at hx
      cases hx with
      | el b s i off g n cap hm => exact Does.val' R.s2 (by simp [execOp, hv]) (.el _ _ _ _ _ _ _ hm)
    · cases h
      rename_i y e
      rw [e] at hx
      generalize hv : a.eval x = v at hx
      cases hx with
      | p _ _ hx =>
        obtain ⟨b, o, vs, rfl, _⟩ := hx.at_cells
        exact Does.val' R.s2 (by simp [execOp, hv]) (.p _ _ hx)
    · cases h
  · rename_i op t x y yt ho
    rw [hop _ ho]
    have hb := aBin_bind (E := E) (op := op) (t := t) (yt := yt) (x := st.ev x) (y := st.ev y) (g := some) (k := fun v => some (AV.p v))
    simp only [Option.bind_some] at hb
    rw [h] at hb
    cases hc : aBin E op t (st.ev x) (st.ev y) yt some with
    | none => rw [hc] at hb; cases hb
    | some c' =>
      rw [hc] at hb; cases hb
      exact Does.pv R.s2 (aBin_ok x y hc (R.ev x) (R.ev y))
  · rename_i op t x ho
    rw [hop _ ho]
    simp only [onP_some] at h
    obtain ⟨y, hy, h⟩ := h
    have hx := R.ev x
    rw [hy] at hx
    have hb := aUn_bind (op := op) (x := y) (g := some) (k := fun v => some (AV.p v))
    simp only [Option.bind_some] at hb
    rw [h] at hb
    cases hc : aUn op y some with
    | none => rw [hc] at hb; cases hb
    | some c' =>
      rw [hc] at hb; cases hb
      cases hx with
      | p _ _ hx => exact Does.pv R.s2 (aUn_ok hx hc)
  · rename_i s d x ho
    rw [hop _ ho]
    exact Does.val R.s2 (aConv_ok (R.ev x) h)
  · rename_i t x f ho
    rw [hop _ ho]
    exact Does.val R.s2 (aFieldOp_ok (R.ev x) h)
  · rename_i t x f ho
    rw [hop _ ho]
    exact Does.val R.s2 (aFieldAddr_ok (R.ev x) h)
  · rename_i t x ix ho
    rw [hop _ ho]
    exact Does.val R.s2 (aIndex_ok (R.ev x) (R.ev ix) h)
  · rename_i t x ix ho
    rw [hop _ ho]
    exact Does.val R.s2 (aIndexAddr_ok R (R.ev x) (R.ev ix) h)
  · rename_i t x lo hi ho
    rw [hop _ ho]
    exact Does.val R.s2 (aSlice_ok R (R.ev x) h)
  · rename_i t x ho
    rw [hop _ ho]
    exact Does.val R.s2 (aLoad_ok R (R.ev x) h)
  · rename_i x i ho
    rw [hop _ ho]
    have hx := R.ev x
    refine Does.val R.s2 (s := Instr.extract (a.eval x) i) ?_
    split at h
    · rename_i cs e
      simp only [onSome_some, Option.some.injEq] at h
      obtain ⟨c', hc, rfl⟩ := h
      rw [e] at hx
      generalize hv : a.eval x = v at hx
      cases hx with
      | p _ _ hx =>
        cases hx with
        | tup cs vs hl hh =>
          have hlt : i < vs.length := by rw [← hl]; exact (List.getElem?_eq_some_iff.1 hc).1
          refine ⟨vs[i], ?_, .p _ _ (hh i _ _ hc (List.getElem?_eq_getElem hlt))⟩
          simp [Instr.extract, hlt]
    · rename_i cs e
      simp only [onSome_some, Option.some.injEq] at h
      obtain ⟨c', hc, rfl⟩ := h
      rw [e] at hx
      generalize hv : a.eval x = v at hx
      cases hx with
      | tup cs vs hl hh =>
          have hlt : i < vs.length := by rw [← hl]; exact (List.getElem?_eq_some_iff.1 hc).1
          refine ⟨vs[i], ?_, hh i _ _ hc (List.getElem?_eq_getElem hlt)⟩
          simp [Instr.extract, hlt]
    · cases h
  · rename_i f first caps ho
    rw [hop _ ho]
    simp only [aGd_some] at h
    obtain ⟨hf, h⟩ := h
    have hf' : first = #[] := by simpa using hf
    subst hf'
    refine Does.val R.s2 (s := Instr.makeFunc (.func f) (#[].map a.eval) (caps.map a.eval)) ?_
    split at h
    · rename_i hl
      have hc : caps = #[] := Array.toList_eq_nil_iff.1 hl
      subst hc; cases h
      exact ⟨_, by simp [Instr.makeFunc], .p _ _ (.fn f)⟩
    · cases h
      have e : (caps.toList.map a.eval).toArray = caps.map a.eval := by apply Array.ext'; simp
      refine ⟨.func (.func f) #[] (caps.toList.map a.eval).toArray, by rw [e]; simp [Instr.makeFunc], .clo f _ _ (by simp) fun i c v hc hv => ?_⟩
      rw [List.getElem?_map] at hc hv
      cases ho : caps.toList[i]? with
      | none => rw [ho] at hc; cases hc
      | some x => rw [ho] at hc hv; cases hc; cases hv; exact R.ev x
  · rename_i t n parts ho
    have h' : aVal E o st.ev st.heap some = some c := by unfold aVal; simp only [ho]; exact h
    obtain ⟨v, w', S', hr, rest⟩ := aBuildSliceV_ok R ho h'
    rw [hop _ ho]
    exact .inl ⟨v, w', S', by simp only [execOp, Sem.run_bind, hr, Result.andThen_ok, Sem.run_pure], rest⟩
  · rename_i t parts ho
    rw [hop _ ho]
    have := aBuild_ok R (parts := parts.toList) h
    refine Does.val R.s2 (s := Instr.build t (parts.map fun (i, x) => (i, a.eval x))) ?_
    have e : (parts.toList.map fun (i, x) => (i, a.eval x)).toArray = parts.map fun (i, x) => (i, a.eval x) := by apply Array.ext'; simp
    rwa [e] at this
  · rename_i cl ho
    split at h
    · rename_i b hb
      rw [hop _ ho]
      obtain ⟨u, hu, hr⟩ := aBuiltin_ok (ats := cl.argTypes) (ty := o.type) (cs := cl.args.map fun | .const _ => true | _ => false) R h
      refine Does.val' R.s2 (v := u) ?_ hr
      have e : (cl.args.toList.map a.eval).toArray = cl.args.map a.eval := by apply Array.ext'; simp
      rw [e] at hu
      simp only [execOp, resolve, hb, Sem.run_bind, Sem.run_pure, Result.andThen_ok, invoke]
      exact hu
    · rename_i f hf
      exact aCall_ok hE R ho hf h
    · cases h
  · cases h
end
end Go.Proofs.Ytmnedpfilckilaa
