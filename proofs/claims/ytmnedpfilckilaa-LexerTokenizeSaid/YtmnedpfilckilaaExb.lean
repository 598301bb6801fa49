/- The pure reading hands on what it finds: a run with another rest. No program is named here. -/
import Derived.Test.YtmnedpfilckilaaExc
set_option linter.unusedSimpArgs false
set_option linter.unusedVariables false
namespace Go.Proofs.Ytmnedpfilckilaa
open Go.RowKit

section
variable {ρ ρ' : Type} {k : ρ → Option ρ'} {E : Env}
theorem aArgsO_bind {heap : List Blk} : ∀ {l : List AV} {g : List PV → List (Nat × Nat × List PV) → Option ρ}, (aArgsO heap l g).bind k = aArgsO heap l fun x y => (g x y).bind k
  | [], g => rfl
  | v :: l, g => by
    cases v <;> simp only [aArgsO, onP_bind, aArgsO_bind (l := l), onSome_bind]
    congr 1; funext bl
    cases bl <;> simp [aArgsO_bind (l := l), aGd_bind]
theorem aElems_bind {heap : List Blk} {s : Nat} {v : AV} {g : List PV → Option ρ} : (aElems heap s v g).bind k = aElems heap s v fun x => (g x).bind k := by
  unfold aElems
  split
  · simp only [onSome_bind]; congr 1; funext bl; cases bl <;> simp [aGd_bind]
  · simp [onSl_bind]
  · rfl
theorem aAppend_bind {t : TypeId} {st : St} {s x : AV} {g : St → AV → Option ρ} : (aAppend E t st s x g).bind k = aAppend E t st s x fun x y => (g x y).bind k := by
  unfold aAppend
  split
  · simp only [onSome_bind, aGd_bind, aElems_bind]
    congr 1; funext i; congr 1; funext z; congr 1; congr 1; congr 1; funext ys
    split
    · simp only [onSome_bind]; congr 1; funext bl; cases bl <;> simp [aGd_bind]
    · simp [aGd_bind]
    · rfl
  · rfl
theorem aStore_bind {t : TypeId} {st : St} {a x : AV} {g : St → Option ρ} : (aStore E t st a x g).bind k = aStore E t st a x fun x => (g x).bind k := by
  unfold aStore
  split
  · simp only [onSome_bind]; congr 1; funext bl; cases bl <;> simp [aGd_bind]
  · simp only [onSome_bind]; congr 1; funext bl; cases bl <;> simp [aGd_bind, allP_bind, onGet_bind]
  · rfl
theorem onZero_bind {z : Value} {n : Nat} {g : PV → Option ρ} : (onZero z n g).bind k = onZero z n fun x => (g x).bind k := by
  unfold onZero
  split <;> simp [aGd_bind]
theorem onFn_bind {v : AV} {g : FuncId → List AV → Option ρ} : (onFn v g).bind k = onFn v fun x y => (g x y).bind k := by
  unfold onFn
  split <;> rfl
theorem aOp_bind {o : Oper} {st : St} {g : St → Option ρ} : (aOp E o st g).bind k = aOp E o st fun x => (g x).bind k := by
  unfold aOp
  split
  · simp [aGd_bind]
  · simp [onSome_bind, aGd_bind]
  · simp [aStore_bind]
  · split
    · simp [onSome_bind, aGd_bind]
    · rfl
  · split <;> simp [onSome_bind, aGd_bind, onZero_bind, onP_bind, onInt_bind]
  · split <;> simp [onP_bind, onStr_bind]
  · split
    · simp only [onSome_bind]; congr 1; funext bl; cases bl <;> simp [aIf_bind]
    · rfl
  · split
    · simp only [onSome_bind]; congr 1; funext bl; cases bl <;> simp [aSlice_bind]
    · simp [aVal_bind]
  · split
    · simp [onSome_bind, aGd_bind, aAppend_bind]
    · simp only [onFn_bind]
      congr 1; funext f caps
      simp only [aArgsO_bind]
      congr 1; funext xs bs
      split <;> simp [run_bind', aIf_bind]
    · simp [aVal_bind]
  · simp [aVal_bind]
theorem aMask_bind {m : Mask} {st : St} {g : St → Option ρ} : (aMask m st g).bind k = aMask m st fun x => (g x).bind k := by simp [aMask, aGd_bind]
theorem aMask?_bind {m : Option Mask} {st : St} {g : St → Option ρ} : (aMask? m st g).bind k = aMask? m st fun x => (g x).bind k := by cases m <;> simp [aMask?, aMask_bind]
theorem aWanted_bind {ops : Array Oper} {st : St} {o : Oper} {x y : St → Option ρ} : (aWanted ops st o x y).bind k = aWanted ops st o (fun st => (x st).bind k) (fun st => (y st).bind k) := by
  unfold aWanted
  split
  · rfl
  · split
    · split
      · rw [aIf_bind]; congr 1 <;> (split <;> rfl)
      · rfl
      · rfl
    · rfl
theorem aOps_bind {ops : Array Oper} : ∀ {l : List Oper} {st : St} {g : St → Option ρ}, (aOps E ops l st g).bind k = aOps E ops l st fun x => (g x).bind k
  | [], st, g => rfl
  | o :: l, st, g => by simp [aOps, aWanted_bind, aOp_bind, aOps_bind (l := l)]
theorem aEff_bind {B : Option (List Nat)} {o : Oper} {st : St} {g : St → Option ρ} : (aEff B E o st g).bind k = aEff B E o st fun x => (g x).bind k := by
  unfold aEff
  split
  · simp [onSome_bind, aGd_bind]
  · split
    · simp only [onSome_bind]; congr 1; funext bl; cases bl <;> simp [aGd_bind]
    · rfl
  · rfl
theorem aOpsQ_bind {B : Option (List Nat)} {ops : Array Oper} : ∀ {l : List Oper} {st : St} {g : St → Option ρ}, (aOpsQ B E ops l st g).bind k = aOpsQ B E ops l st fun x => (g x).bind k
  | [], st, g => rfl
  | o :: l, st, g => by
    simp only [aOpsQ]
    split <;> simp [aGd_bind, aEff_bind, aWanted_bind, aVal_bind, aOpsQ_bind (l := l)]
theorem aLoop_bind {O : Opts} {c : Code} {m : Option Mask} (ih : ∀ (st : St) (g : AExit → St → Option ρ), (aCode E O c st g).bind k = aCode E O c st fun x y => (g x y).bind k) :
    ∀ (n : Nat) (st : St) (g : AExit → St → Option ρ), (aLoop m (aCode E O c) n st g).bind k = aLoop m (aCode E O c) n st fun x y => (g x y).bind k
  | 0, _, _ => rfl
  | n + 1, st, g => by
    simp only [aLoop]
    rw [ih]
    congr 1; funext e st'
    cases e <;> simp [aMask?_bind, aLoop_bind ih n]
end
section
variable {ρ ρ' : Type} {k : ρ → Option ρ'} {E : Env}
theorem aCode_bind {O : Opts} : ∀ (c : Code) (st : St) (g : AExit → St → Option ρ), (aCode E O c st g).bind k = aCode E O c st fun x y => (g x y).bind k := by
  intro c
  induction c with
  | region id ops d => intro st g; cases d <;> simp [aCode, aOps_bind, aOpsQ_bind, aGd_bind, aIf_bind]
  | seq x y ihx ihy =>
    intro st g
    simp only [aCode]
    rw [ihx]
    congr 1; funext e st'
    cases e <;> simp [seqK]
    cases O.cut (firstReg y) with
    | none => exact ihy st' g
    | some m => simp only [aMask_bind, aCut]; congr 1; funext st''; exact ihy st'' g
  | cond c x y ihx ihy => intro st g; simp [aCode, onP_bind, onBool_bind, aIf_bind, ihx, ihy]
  | block id c ih =>
    intro st g
    simp only [aCode]
    rw [ih]
    congr 1; funext e st'
    cases e <;> simp [blockK]
    split <;> rfl
  | loop c ih =>
    intro st g
    simp only [aCode, aMask?_bind]
    congr 1; funext st'
    exact aLoop_bind ih O.fuel st' g
  | scope c ih => intro st g; simp only [aCode]; exact ih st g
  | _ => intros; rfl
theorem aPure1_bind {heap : List Blk} {v : AV} {g : PV → Option ρ} : (aPure1 heap v g).bind k = aPure1 heap v fun x => (g x).bind k := by
  unfold aPure1
  split
  · simp only [onSome_bind]; congr 1; funext bl; cases bl <;> rfl
  · rfl
  · rfl
theorem aPureL_bind {heap : List Blk} : ∀ {l : List AV} {g : List PV → Option ρ}, (aPureL heap l g).bind k = aPureL heap l fun x => (g x).bind k
  | [], g => rfl
  | v :: l, g => by simp [aPureL, aPure1_bind, aPureL_bind (l := l)]
theorem aPure_bind {heap : List Blk} {v : AV} {g : PV → Option ρ} : (aPure heap v g).bind k = aPure heap v fun x => (g x).bind k := by
  unfold aPure
  split <;> simp [aPureL_bind, aPure1_bind]
theorem aResults_bind {st : St} : ∀ {l : List ResultVar} {g : List PV → Option ρ}, (aResults E st l g).bind k = aResults E st l fun x => (g x).bind k
  | [], g => rfl
  | r :: l, g => by
    cases r <;> simp only [aResults, aRes, aLoad_bind, aPure_bind, aResults_bind (l := l)]
theorem aFn_bind {O : Opts} {fn : Func} {args : List PV} {g : PV → Option ρ} : (aFn E O fn args g).bind k = aFn E O fn args fun x => (g x).bind k := by
  simp only [aFn, onSome_bind, aCode_bind]
  congr 1; funext c; congr 1; funext e st
  cases e <;> simp [retK] <;> (split <;> simp only [aResults_bind] <;> try rfl) <;> (congr 1; funext xs; split <;> rfl)

/-! ## Typed callees -/
/-- y says no more than x. -/
def PV.le (x y : PV) : Prop := ∀ (S : Nat → Prop) (w : World) v, VRel S w x v → VRel S w y v
theorem PV.le_refl (x : PV) : PV.le x x := fun _ _ _ h => h
/-- A way to read a pure value as an α, and to lay it again. -/
structure Cod (α : Type) where
  dec : {ρ : Type} → PV → (α → Option ρ) → Option ρ
  enc : α → PV
  ok : ∀ {ρ : Type} {r : ρ} {x : PV} {k : α → Option ρ}, dec x k = some r → ∃ y, k y = some r ∧ PV.le x (enc y)
  bnd : ∀ {ρ ρ' : Type} (x : PV) (k : α → Option ρ) (g : ρ → Option ρ'), (dec x k).bind g = dec x fun y => (k y).bind g
structure Cods (α : Type) where
  dec : {ρ : Type} → List PV → (α → Option ρ) → Option ρ
  enc : α → List PV
  ok : ∀ {ρ : Type} {r : ρ} {x : List PV} {k : α → Option ρ}, dec x k = some r → ∃ y, k y = some r ∧ x.length = (enc y).length ∧ ∀ (i : Nat) c d, x[i]? = some c → (enc y)[i]? = some d → PV.le c d
  bnd : ∀ {ρ ρ' : Type} (x : List PV) (k : α → Option ρ) (g : ρ → Option ρ'), (dec x k).bind g = dec x fun y => (k y).bind g
def codInt (i : IntKind) : Cod Int where
  dec x k := onInt i x k
  enc n := .int i n
  ok h := by obtain ⟨n, rfl, h2⟩ := onInt_some.1 h; exact ⟨n, h2, PV.le_refl _⟩
  bnd x k g := onInt_bind
def codBool : Cod Bool where
  dec x k := onBool x k
  enc n := .bool n
  ok h := by obtain ⟨n, rfl, h2⟩ := onBool_some.1 h; exact ⟨n, h2, PV.le_refl _⟩
  bnd x k g := onBool_bind
def codStr : Cod (List UInt8) where
  dec x k := onStr x k
  enc n := .str n
  ok h := by obtain ⟨n, rfl, h2⟩ := onStr_some.1 h; exact ⟨n, h2, PV.le_refl _⟩
  bnd x k g := onStr_bind
def codSl (st : Nat) : Cod (List PV) where
  dec x k := onSl st x k
  enc n := .sl st n
  ok h := by obtain ⟨n, hx, h⟩ := onSl_some.1 h; exact ⟨n, h, fun _ _ _ hv => hv.empty hx⟩
  bnd x k g := onSl_bind
def codPV : Cod PV where
  dec x k := k x
  enc x := x
  ok h := ⟨_, h, PV.le_refl _⟩
  bnd x k g := rfl
/-- A function's value, one that is known. -/
def onFnV {ρ : Type} (f : FuncId) (x : PV) (k : Unit → Option ρ) : Option ρ := match x with | .fn g => aGd (Nat.beq g f) (k ()) | _ => none
theorem onFnV_some {ρ : Type} {r : ρ} {f : FuncId} {x : PV} {k : Unit → Option ρ} (h : onFnV f x k = some r) : x = .fn f ∧ k () = some r := by
  unfold onFnV at h
  split at h
  · rw [aGd_some] at h
    exact ⟨by rw [Nat.eq_of_beq_eq_true h.1], h.2⟩
  · cases h
def codFn (f : FuncId) : Cod Unit where
  dec x k := onFnV f x k
  enc _ := .fn f
  ok h := by obtain ⟨rfl, h2⟩ := onFnV_some h; exact ⟨(), h2, PV.le_refl _⟩
  bnd x k g := by unfold onFnV; split <;> simp [aGd_bind]
def codsNil : Cods Unit where
  dec l k := onNil l (k ())
  enc _ := []
  ok {ρ r x k} h := by cases x with
    | nil => exact ⟨(), h, rfl, by simp⟩
    | cons a l => cases h
  bnd x k g := by cases x <;> rfl
def codsOne {α : Type} (c : Cod α) : Cods α where
  dec l k := onCons l fun x l => onNil l (c.dec x k)
  enc a := [c.enc a]
  ok {ρ r x k} h := by
    match x, h with
    | [x], h =>
      obtain ⟨y, h, hle⟩ := c.ok h
      refine ⟨y, h, rfl, fun i a b ha hb => ?_⟩
      cases i with
      | zero => simp at ha hb; subst ha hb; exact hle
      | succ i => simp at ha
  bnd x k g := by
    match x with
    | [] => rfl
    | [x] => exact c.bnd x k g
    | _ :: _ :: _ => rfl
def codsCons {α β : Type} (c : Cod α) (cs : Cods β) : Cods (α × β) where
  dec l k := onCons l fun x l => c.dec x fun a => cs.dec l fun b => k (a, b)
  enc a := c.enc a.1 :: cs.enc a.2
  ok {ρ r x k} h := by
    match x, h with
    | x :: l, h =>
      obtain ⟨a, h, hle⟩ := c.ok h
      obtain ⟨b, h, hl, hles⟩ := cs.ok h
      refine ⟨(a, b), h, by simp [hl], fun i p q hp hq => ?_⟩
      cases i with
      | zero => simp at hp hq; subst hp hq; exact hle
      | succ i => exact hles i p q (by simpa using hp) (by simpa using hq)
  bnd x k g := by
    match x with
    | [] => rfl
    | x :: l => simp only [onCons]; rw [c.bnd]; congr 1; funext a; exact cs.bnd l _ g
def onTup {ρ : Type} (v : PV) (k : List PV → Option ρ) : Option ρ := match v with | .tup cs => k cs | _ => none
theorem onTup_bind {ρ ρ' : Type} {k : ρ → Option ρ'} {v : PV} {g : List PV → Option ρ} : (onTup v g).bind k = onTup v fun x => (g x).bind k := by cases v <;> rfl
theorem le_tup {xs ys : List PV} (hl : xs.length = ys.length) (h : ∀ (i : Nat) c d, xs[i]? = some c → ys[i]? = some d → PV.le c d) : PV.le (.tup xs) (.tup ys) := by
  intro S w v hv
  cases hv with
  | tup cs vs hl' hh =>
    refine .tup ys vs (by omega) (fun i c v hc hv => ?_)
    have hlt : i < xs.length := by rw [hl]; exact (List.getElem?_eq_some_iff.1 hc).1
    have hx := List.getElem?_eq_getElem hlt
    exact h i _ c hx hc S w v (hh i _ v hx hv)
theorem le_agg {xs ys : List PV} (hl : xs.length = ys.length) (h : ∀ (i : Nat) c d, xs[i]? = some c → ys[i]? = some d → PV.le c d) : PV.le (.agg xs) (.agg ys) := by
  intro S w v hv
  cases hv with
  | agg cs vs hl' hh h1 =>
    refine .agg ys vs (by omega) (fun i c v hc hv => ?_) h1
    have hlt : i < xs.length := by rw [hl]; exact (List.getElem?_eq_some_iff.1 hc).1
    have hx := List.getElem?_eq_getElem hlt
    exact h i _ c hx hc S w v (hh i _ v hx hv)
def codTup {α : Type} (cs : Cods α) : Cod α where
  dec x k := onTup x fun l => cs.dec l k
  enc a := .tup (cs.enc a)
  ok {ρ r x k} h := by
    cases x <;> first | cases h | skip
    obtain ⟨y, h, hl, hle⟩ := cs.ok h
    exact ⟨y, h, le_tup hl hle⟩
  bnd x k g := by rw [onTup_bind]; congr 1; funext l; exact cs.bnd l k g
def codAgg {α : Type} (cs : Cods α) : Cod α where
  dec x k := onAgg x fun l => cs.dec l k
  enc a := .agg (cs.enc a)
  ok {ρ r x k} h := by
    cases x <;> first | cases h | skip
    obtain ⟨y, h, hl, hle⟩ := cs.ok h
    exact ⟨y, h, le_agg hl hle⟩
  bnd x k g := by rw [onAgg_bind]; congr 1; funext l; exact cs.bnd l k g
def mkCallee {α β : Type} (A : Cods α) (R : Cod β) (F : α → Option β) : Callee where
  run args k := A.dec args fun a => onSome (F a) fun y => k (R.enc y)
  par args k := by rw [A.bnd]; congr 1; funext a; rw [onSome_bind]; rfl
/-- The function's reading at typed arguments and results. -/
def aTyped {α β : Type} (E : Env) (O : Opts) (fn : Func) (A : Cods α) (R : Cod β) (a : α) : Option β := aFn E O fn (A.enc a) fun x => R.dec x some
theorem callee_spec {P : Program} {G : World → Prop} {f : FuncId} {α β : Type} {A : Cods α} {R : Cod β} {F : α → Option β}
    (h : ∀ a y, F a = some y → ∃ E O fn, Spec P G f (fun args => aFn E O fn args some) ∧ aTyped E O fn A R a = some y) : Spec P G f fun args => (mkCallee A R F).run args some := by
  intro args r hr S w vs hS hG hl hv
  obtain ⟨a, hr, hal, hle⟩ := A.ok hr
  obtain ⟨y, hy, hr⟩ := onSome_some.1 hr
  cases hr
  obtain ⟨E, O, fn, hsp, ht⟩ := h a y hy
  unfold aTyped at ht
  have hb := aFn_bind (E := E) (O := O) (fn := fn) (args := A.enc a) (g := some) (k := fun x => R.dec x some)
  simp only [Option.bind_some] at hb
  rw [ht] at hb
  cases hx : aFn E O fn (A.enc a) some with
  | none => rw [hx] at hb; cases hb
  | some x =>
    rw [hx] at hb
    have hb : R.dec x some = some y := hb
    obtain ⟨y', e, hxy⟩ := R.ok hb
    cases e
    refine (hsp (A.enc a) x hx S w vs hS hG (by omega) (fun i c v hc hv' => ?_)).mono fun e w' hp => ?_
    · have hlt : i < args.length := by rw [hal]; exact (List.getElem?_eq_some_iff.1 hc).1
      have hx := List.getElem?_eq_getElem hlt
      exact hle i _ c hx hc S w v (hv i _ v hx hv')
    · obtain ⟨v, S', he, h1, h2, h3, h4, h5⟩ := hp
      exact ⟨v, S', he, h1, h2, h3, h4, hxy _ _ _ h5⟩
theorem typed_spec {E : Env} {G : World → Prop} (hE : E.ok G) (hP : E.P.follows .mixedOrders = true) {O : Opts} (hO : O.ok = true) {f : FuncId} {fn : Func} (hf : E.P.funcs[f]? = some fn) {α β : Type} (A : Cods α) (R : Cod β) :
    Spec E.P G f fun args => (mkCallee A R (aTyped E O fn A R)).run args some :=
  callee_spec fun a y h => ⟨E, O, fn, aFn_ok hE hP hO hf, h⟩
/-- A callee that may be called. -/
def CalleeOk (P : Program) (G : World → Prop) (f : FuncId) (c : Callee) : Prop :=
  Spec P G f (fun args => c.run args some) ∧ ∀ args w, (callFunc f args).run P w = .ok (.enter f args) w
/-- One of two readings of a function, as its arguments are. -/
def selC (p : List PV → Bool) (a b : Callee) : Callee where
  run args k := match p args with | true => a.run args k | false => b.run args k
  par args k := by
    cases p args
    · exact b.par args k
    · exact a.par args k
def argFn (i : Nat) (f : FuncId) (l : List PV) : Bool := match l[i]? with | some (.fn g) => Nat.beq g f | _ => false
theorem selC_ok {P : Program} {G : World → Prop} {f : FuncId} {p : List PV → Bool} {a b : Callee} (ha : CalleeOk P G f a) (hb : CalleeOk P G f b) : CalleeOk P G f (selC p a b) := by
  refine ⟨fun args r h => ?_, ha.2⟩
  unfold selC at h
  dsimp only at h
  split at h
  · exact ha.1 args r h
  · exact hb.1 args r h
/-- One of two typed readings of a function, as its arguments are. -/
theorem mkCallee_sel {P : Program} {G : World → Prop} {f : FuncId} {α β : Type} {A : Cods α} {R : Cod β} {Fa Fb : α → Option β} (p : α → Bool) (ha : CalleeOk P G f (mkCallee A R Fa)) (hb : CalleeOk P G f (mkCallee A R Fb)) :
    CalleeOk P G f (mkCallee A R fun a => match p a with | true => Fa a | false => Fb a) := by
  refine ⟨fun args r h => ?_, ha.2⟩
  have key : ∀ F : α → Option β, (mkCallee A R F).run args some = (A.dec args some).bind fun a => onSome (F a) fun y => some (R.enc y) := fun F => by
    rw [A.bnd]; rfl
  dsimp only at h
  rw [key] at h
  obtain ⟨a, hd, h⟩ := Option.bind_eq_some_iff.1 h
  cases hp : p a with
  | true =>
    rw [hp] at h
    refine ha.1 args r ?_
    dsimp only
    rw [key, hd]
    exact h
  | false =>
    rw [hp] at h
    refine hb.1 args r ?_
    dsimp only
    rw [key, hd]
    exact h
theorem Env.ok_of {P : Program} {G : World → Prop} (hG : ∀ w w', G w → Below w.heap.size w w' → G w') {l : List (FuncId × Callee)} (h : ∀ x ∈ l, CalleeOk P G x.1 x.2) : Env.ok ⟨P, l⟩ G := by
  have key : ∀ f c, (Env.mk P l).callee f = some c → CalleeOk P G f c := fun f c hc => by
    unfold Env.callee at hc
    cases hf : l.find? (fun x => x.1 == f) with
    | none => simp only [hf] at hc; cases hc
    | some x =>
      simp only [hf] at hc
      cases hc
      have h1 := h x (List.mem_of_find?_eq_some hf)
      have h2 := List.find?_some hf
      have : x.1 = f := by simpa using h2
      rw [this] at h1
      exact h1
  exact ⟨hG, fun f c hc => (key f c hc).1, fun f c hc => (key f c hc).2⟩
theorem callee_body {P : Program} {f : FuncId} {fn : Func} (hf : P.funcs[f]? = some fn) (hn : (fn.name == "runtime.NumGoroutine") = false) (hb : fn.body.isNone = false) (args : Array Value) (w : World) : (callFunc f args).run P w = .ok (.enter f args) w := by
  have hn' : fn.name ≠ "runtime.NumGoroutine" := by simpa using hn
  have hb' : fn.body ≠ none := fun e => by rw [e] at hb; cases hb
  simp [callFunc, hf, hn', hb']
end
end Go.Proofs.Ytmnedpfilckilaa
