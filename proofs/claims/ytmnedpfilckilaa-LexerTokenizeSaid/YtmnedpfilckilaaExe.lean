/- A pure reading of code: values without addresses, a run of a function's code on them, and what it is of the machine. No program is named here. -/
import Derived.WalkKit
import Derived.Deep.QuietTactic
import Derived.WalkSpells
import Derived.WalkLawsBesides
import Derived.Laws.Cover3
set_option linter.unusedSimpArgs false
set_option linter.unusedVariables false
namespace Go.Proofs.Ytmnedpfilckilaa
open Go.RowKit

/-! ## Values -/
/-- A value that reads as data and that nothing writes to any more. -/
inductive PV where
  | int (k : IntKind) (n : Int)
  | bool (b : Bool)
  | str (l : List UInt8)
  | agg (cs : List PV)
  | tup (cs : List PV)
  | sl (st : Nat) (xs : List PV)
  | at_ (x : PV)
  | fn (f : FuncId)
  | nilsl
  | emp
  deriving Inhabited
/-- The cells of a value. -/
def PV.cells : PV → List PV
  | .agg cs => cs
  | v => [v]
/-- Holds no address. -/
def PV.flat : PV → Bool
  | .int .. | .bool _ | .str _ | .fn _ => true
  | _ => false
def PV.flatAll : List PV → Bool
  | [] => true
  | x :: xs => x.flat && PV.flatAll xs
def PV.scalar : PV → Bool
  | .agg cs => PV.flatAll cs
  | .tup cs => PV.flatAll cs
  | v => v.flat
/-- A value of a frame: a pure one, or one that leads to memory of the call's own. -/
inductive AV where
  | p (v : PV)
  | box (b off : Nat)
  | own (b : Nat)
  | el (b st i off : Nat)
  | agg (cs : List AV)
  | tup (cs : List AV)
  | clo (f : FuncId) (caps : List AV)
  | it (b : Nat)
  | top
  deriving Inhabited
inductive Blk where
  | none
  | box (cs : List AV)
  | row (e : TypeId) (st : Nat) (xs : List PV)
  | iter (l : List UInt8) (pos : Nat)
  deriving Inhabited
/-- A frame's temporaries: a tree, in which a place is found by its bits. -/
inductive Tr where
  | tip
  | node (v : AV) (l r : Tr)
  deriving Inhabited
def Tr.full : Nat → Tr
  | 0 => .tip
  | d + 1 => .node .top (Tr.full d) (Tr.full d)
def Tr.get : Tr → Nat → AV
  | .tip, _ => .top
  | .node v l r, j => bif Nat.beq j 0 then v else bif Nat.beq (Nat.mod j 2) 1 then l.get (Nat.div (Nat.sub j 1) 2) else r.get (Nat.div (Nat.sub j 1) 2)
def Tr.set : Tr → Nat → AV → Tr
  | .tip, _, _ => .tip
  | .node v l r, j, x => bif Nat.beq j 0 then .node x l r else bif Nat.beq (Nat.mod j 2) 1 then .node v (l.set (Nat.div (Nat.sub j 1) 2) x) r else .node v l (r.set (Nat.div (Nat.sub j 1) 2) x)
def Tr.ofL : List (Nat × AV) → Tr
  | [] => Tr.full 12
  | (i, v) :: l => (Tr.ofL l).set i v
structure Tm where
  n : Nat
  tr : Tr
  deriving Inhabited
def Tm.get (t : Tm) (j : Nat) : AV := bif Nat.ble t.n j then .top else t.tr.get j
def Tm.set (t : Tm) (d : Nat) (v : AV) : Tm := ⟨t.n, t.tr.set d v⟩
def Tm.of (n : Nat) (l : List (Nat × AV)) : Tm := ⟨n, Tr.ofL l⟩
structure St where
  tmps : Tm
  heap : List Blk
  deriving Inhabited

theorem Tr.get_set_ne : ∀ (t : Tr) {i d : Nat} (x : AV), i ≠ d → (t.set d x).get i = t.get i
  | .tip, _, _, _, _ => rfl
  | .node v l r, i, d, x, h => by
    simp only [Tr.set, Nat.beq_eq]
    have key : ∀ j : Nat, Nat.beq j 0 = decide (j = 0) := fun j => by cases j <;> simp [Nat.beq]
    have key2 : ∀ j : Nat, Nat.beq (Nat.mod j 2) 1 = decide (j % 2 = 1) := fun j => by
      have h2 : j % 2 = 0 ∨ j % 2 = 1 := by omega
      show Nat.beq (j % 2) 1 = _
      rcases h2 with h2 | h2 <;> rw [h2] <;> rfl
    have hne : i ≠ 0 → d ≠ 0 → i % 2 = d % 2 → (i - 1) / 2 ≠ (d - 1) / 2 := by omega
    have e : ∀ j : Nat, Nat.div (Nat.sub j 1) 2 = (j - 1) / 2 := fun _ => rfl
    simp only [key, key2, e]
    by_cases hd : d = 0
    · subst hd
      simp only [decide_true, cond_true, Tr.get, key, key2, e]
      rw [decide_eq_false (by omega : ¬ i = 0)]
      rfl
    · rw [decide_eq_false hd]
      simp only [cond_false]
      by_cases hp : d % 2 = 1
      · rw [decide_eq_true hp]
        simp only [cond_true, Tr.get, key, key2, e]
        by_cases hi : i = 0
        · subst hi; rfl
        · rw [decide_eq_false hi]
          by_cases hq : i % 2 = 1
          · rw [decide_eq_true hq]
            simp only [cond_true, cond_false]
            exact Tr.get_set_ne l x (hne hi hd (by omega))
          · rw [decide_eq_false hq]; rfl
      · rw [decide_eq_false hp]
        simp only [cond_false, Tr.get, key, key2, e]
        by_cases hi : i = 0
        · subst hi; rfl
        · rw [decide_eq_false hi]
          by_cases hq : i % 2 = 1
          · rw [decide_eq_true hq]; rfl
          · rw [decide_eq_false hq]
            simp only [cond_true, cond_false]
            exact Tr.get_set_ne r x (hne hi hd (by omega))
theorem Tr.get_set_eq : ∀ (t : Tr) (d : Nat) (x : AV), (t.set d x).get d = x ∨ (t.set d x).get d = .top
  | .tip, _, _ => .inr rfl
  | .node v l r, d, x => by
    simp only [Tr.set]
    cases h0 : Nat.beq d 0 with
    | true => exact .inl (by simp only [cond_true, Tr.get, h0])
    | false =>
      cases h1 : Nat.beq (Nat.mod d 2) 1 with
      | true => simp only [cond_true, cond_false, Tr.get, h0, h1]; exact Tr.get_set_eq l _ x
      | false => simp only [cond_true, cond_false, Tr.get, h0, h1]; exact Tr.get_set_eq r _ x
theorem Tr.set_same : ∀ (t : Tr) (d : Nat) {x : AV}, t.get d = x → x ≠ .top → t.set d x = t
  | .tip, _, x, h, hx => rfl
  | .node v l r, d, x, h, hx => by
    simp only [Tr.set]
    simp only [Tr.get] at h
    cases h0 : Nat.beq d 0 with
    | true => rw [h0] at h; simp only [cond_true] at h ⊢; rw [h]
    | false =>
      rw [h0] at h
      cases h1 : Nat.beq (Nat.mod d 2) 1 with
      | true => rw [h1] at h; simp only [cond_true, cond_false] at h ⊢; rw [Tr.set_same l _ h hx]
      | false => rw [h1] at h; simp only [cond_true, cond_false] at h ⊢; rw [Tr.set_same r _ h hx]
theorem Tr.set_comm : ∀ (t : Tr) {i d : Nat} (x y : AV), i ≠ d → (t.set d x).set i y = (t.set i y).set d x
  | .tip, _, _, _, _, _ => rfl
  | .node v l r, i, d, x, y, h => by
    have key : ∀ j : Nat, Nat.beq j 0 = decide (j = 0) := fun j => by cases j <;> simp [Nat.beq]
    have key2 : ∀ j : Nat, Nat.beq (Nat.mod j 2) 1 = decide (j % 2 = 1) := fun j => by
      have h2 : j % 2 = 0 ∨ j % 2 = 1 := by omega
      show Nat.beq (j % 2) 1 = _
      rcases h2 with h2 | h2 <;> rw [h2] <;> rfl
    have hne : i ≠ 0 → d ≠ 0 → i % 2 = d % 2 → (i - 1) / 2 ≠ (d - 1) / 2 := by omega
    have e : ∀ j : Nat, Nat.div (Nat.sub j 1) 2 = (j - 1) / 2 := fun _ => rfl
    by_cases hd : d = 0
    · have hi : i ≠ 0 := by omega
      by_cases hq : i % 2 = 1 <;> simp [Tr.set, key, key2, e, hd, hi, hq]
    · by_cases hi : i = 0
      · by_cases hp : d % 2 = 1 <;> simp [Tr.set, key, key2, e, hd, hi, hp]
      · by_cases hp : d % 2 = 1 <;> by_cases hq : i % 2 = 1 <;> simp [Tr.set, key, key2, e, hd, hi, hp, hq] <;> exact Tr.set_comm _ x y (hne hi hd (by omega))
theorem Tr.get_full : ∀ (d i : Nat), (Tr.full d).get i = .top
  | 0, _ => rfl
  | d + 1, i => by
    simp only [Tr.full, Tr.get, Tr.get_full d]
    cases Nat.beq i 0 <;> cases Nat.beq (Nat.mod i 2) 1 <;> rfl
theorem Tr.get_ofL : ∀ (l : List (Nat × AV)) (i : Nat), (Tr.ofL l).get i = .top ∨ (i, (Tr.ofL l).get i) ∈ l
  | [], i => .inl (Tr.get_full _ _)
  | (j, v) :: l, i => by
    simp only [Tr.ofL]
    by_cases h : i = j
    · subst h
      rcases Tr.get_set_eq (Tr.ofL l) i v with h | h
      · exact .inr (by rw [h]; simp)
      · exact .inl h
    · rw [Tr.get_set_ne _ _ h]
      rcases Tr.get_ofL l i with h | h
      · exact .inl h
      · exact .inr (List.mem_cons_of_mem _ h)
theorem Tm.get_set_ne (t : Tm) {i d : Nat} (x : AV) (h : i ≠ d) : (t.set d x).get i = t.get i := by
  unfold Tm.get Tm.set
  dsimp only
  rw [Tr.get_set_ne _ _ h]
theorem Tm.get_set_eq (t : Tm) (d : Nat) (x : AV) : (t.set d x).get d = x ∨ (t.set d x).get d = .top := by
  unfold Tm.get Tm.set
  dsimp only
  cases Nat.ble t.n d with
  | true => exact .inr rfl
  | false => exact Tr.get_set_eq _ _ _
theorem Tm.set_same (t : Tm) (d : Nat) {x : AV} (h : t.get d = x) (hx : x ≠ .top) : t.set d x = t := by
  unfold Tm.get at h
  unfold Tm.set
  cases hn : Nat.ble t.n d with
  | true => rw [hn] at h; exact absurd h.symm hx
  | false => rw [hn] at h; rw [Tr.set_same _ _ h hx]
theorem Tm.set_comm (t : Tm) {i d : Nat} (x y : AV) (h : i ≠ d) : (t.set d x).set i y = (t.set i y).set d x := by
  unfold Tm.set
  dsimp only
  rw [Tr.set_comm _ _ _ h]
theorem Tm.get_of (n : Nat) (l : List (Nat × AV)) (i : Nat) : (Tm.of n l).get i = .top ∨ (i, (Tm.of n l).get i) ∈ l := by
  unfold Tm.of Tm.get
  dsimp only
  cases Nat.ble n i with
  | true => exact .inl rfl
  | false => exact Tr.get_ofL l i
theorem Tm.get_out (t : Tm) {i : Nat} (h : t.n ≤ i) : t.get i = .top := by
  unfold Tm.get
  rw [Nat.ble_eq_true_of_le h]
  rfl

/-- The pure value x, at a world w, of whose memory the blocks in S are not written any more. -/
inductive VRel (S : Nat → Prop) (w : World) : PV → Value → Prop
  | int (k : IntKind) (n : Int) : VRel S w (.int k n) (.int k n)
  | bool (b : Bool) : VRel S w (.bool b) (.bool b)
  | str (l : List UInt8) : VRel S w (.str l) (.string ⟨l.toArray⟩)
  | agg (cs : List PV) (vs : List Value) (hl : cs.length = vs.length) (h : ∀ (i : Nat) c v, cs[i]? = some c → vs[i]? = some v → VRel S w c v) (h1 : ∀ v ∈ vs, v.oneCell' = true) : VRel S w (.agg cs) (.agg vs.toArray)
  | tup (cs : List PV) (vs : List Value) (hl : cs.length = vs.length) (h : ∀ (i : Nat) c v, cs[i]? = some c → vs[i]? = some v → VRel S w c v) : VRel S w (.tup cs) (.tuple vs.toArray)
  | sl (xs : List PV) (b o cap st : Nat) (val : Nat → Nat → Value) (hb : S b) (hc : xs.length ≤ cap) (hm : cap ≤ maxLen)
      (hst : ∀ x ∈ xs, x.cells.length = st)
      (h1 : ∀ (i j : Nat) x c, xs[i]? = some x → x.cells[j]? = some c → w.cell? ⟨b, o + i * st + j, none⟩ = some (val i j))
      (h2 : ∀ (i j : Nat) x c, xs[i]? = some x → x.cells[j]? = some c → VRel S w c (val i j)) (h3 : ∀ (i j : Nat) x c, xs[i]? = some x → x.cells[j]? = some c → (val i j).oneCell' = true) : VRel S w (.sl st xs) (.slice (some ⟨b, o, none⟩) xs.length cap)
  | sl0 (st : Nat) (a : Option Addr) (cap : Nat) (hm : cap ≤ maxLen) (hn : a = none → cap = 0) : VRel S w (.sl st []) (.slice a 0 cap)
  | at_ (x : PV) (b o : Nat) (val : Nat → Value) (hb : S b) (hp : 0 < x.cells.length)
      (h1 : ∀ (j : Nat) c, x.cells[j]? = some c → w.cell? ⟨b, o + j, none⟩ = some (val j))
      (h2 : ∀ (j : Nat) c, x.cells[j]? = some c → VRel S w c (val j)) (h3 : ∀ (j : Nat) c, x.cells[j]? = some c → (val j).oneCell' = true) : VRel S w (.at_ x) (.pointer (some ⟨b, o, none⟩))
  | fn (f : FuncId) : VRel S w (.fn f) (.func (.func f) #[] #[])
  | nilsl : VRel S w .nilsl (.slice none 0 0)
  | emp (b o : Nat) (hb : S b) : VRel S w .emp (.slice (some ⟨b, o, none⟩) 0 0)

theorem VRel.mono {S S' : Nat → Prop} {w w' : World} {x : PV} {v : Value} (h : VRel S w x v) (hS : ∀ b, S b → S' b) (hw : ∀ b, S b → w'.heap[b]? = w.heap[b]?) : VRel S' w' x v := by
  have hc : ∀ b o, S b → w'.cell? ⟨b, o, none⟩ = w.cell? ⟨b, o, none⟩ := fun b o hb => World.cell?_of_block (w := w) (hw b hb)
  induction h with
  | int k n => exact .int k n
  | bool b => exact .bool b
  | str l => exact .str l
  | agg cs vs hl h h1 ih => exact .agg cs vs hl ih h1
  | tup cs vs hl h ih => exact .tup cs vs hl ih
  | sl xs b o cap st val hb hcap hm hst h1 h2 h3 ih => exact .sl xs b o cap st val (hS b hb) hcap hm hst (fun i j x c hx hj => by rw [hc _ _ hb]; exact h1 i j x c hx hj) ih h3
  | sl0 st a cap hm hn => exact .sl0 st a cap hm hn
  | at_ x b o val hb hp h1 h2 h3 ih => exact .at_ x b o val (hS b hb) hp (fun j c hj => by rw [hc _ _ hb]; exact h1 j c hj) ih h3
  | fn f => exact .fn f
  | nilsl => exact .nilsl
  | emp b o hb => exact .emp b o (hS b hb)

theorem VRel.slnil {S : Nat → Prop} {w : World} (st : Nat) : VRel S w (.sl st []) (.slice none 0 0) := .sl0 st none 0 (by decide) (fun _ => rfl)
theorem VRel.of_flat {S S' : Nat → Prop} {w w' : World} {x : PV} {v : Value} (h : VRel S w x v) (hx : x.flat = true) : VRel S' w' x v := by
  cases h <;> simp [PV.flat] at hx <;> constructor
theorem flatAll_get {cs : List PV} (h : PV.flatAll cs = true) : ∀ {i : Nat} {c}, cs[i]? = some c → c.flat = true := by
  induction cs with
  | nil => simp
  | cons x xs ih =>
    simp only [PV.flatAll, Bool.and_eq_true] at h
    intro i c hc
    cases i with
    | zero => simp at hc; subst hc; exact h.1
    | succ i => exact ih h.2 (by simpa using hc)
theorem VRel.of_scalar {S S' : Nat → Prop} {w w' : World} {x : PV} {v : Value} (h : VRel S w x v) (hx : x.scalar = true) : VRel S' w' x v := by
  cases h with
  | agg cs vs hl h h1 => exact .agg cs vs hl (fun i c v hc hv => (h i c v hc hv).of_flat (flatAll_get hx hc)) h1
  | tup cs vs hl h => exact .tup cs vs hl (fun i c v hc hv => (h i c v hc hv).of_flat (flatAll_get hx hc))
  | int k n => exact .int k n
  | bool b => exact .bool b
  | str l => exact .str l
  | fn f => exact .fn f
  | _ => simp [PV.scalar, PV.flat] at hx

/-- One cell's value. -/
def PV.one : PV → Bool
  | .agg _ | .tup _ => false
  | _ => true
theorem VRel.oneCell {S : Nat → Prop} {w : World} {x : PV} {v : Value} (h : VRel S w x v) (hx : x.one = true) : v.oneCell' = true := by
  cases h <;> simp [PV.one] at hx <;> rfl

/-- The value x of a frame, where μ says what the call's own blocks are. -/
inductive ARel (μ : Nat → Option Value) (S : Nat → Prop) (w : World) : AV → Value → Prop
  | p (x : PV) (v : Value) (h : VRel S w x v) : ARel μ S w (.p x) v
  | box (b off g : Nat) (h : μ b = some (.pointer (some ⟨g, 0, none⟩))) : ARel μ S w (.box b off) (.pointer (some ⟨g, off, none⟩))
  | own (b : Nat) (a : Option Addr) (n c : Nat) (h : μ b = some (.slice a n c)) : ARel μ S w (.own b) (.slice a n c)
  | el (b st i off g n cap : Nat) (h : μ b = some (.slice (some ⟨g, 0, none⟩) n cap)) : ARel μ S w (.el b st i off) (.pointer (some ⟨g, i * st + off, none⟩))
  | agg (cs : List AV) (vs : List Value) (hl : cs.length = vs.length) (h : ∀ (i : Nat) c v, cs[i]? = some c → vs[i]? = some v → ARel μ S w c v) (h1 : ∀ v ∈ vs, v.oneCell' = true) : ARel μ S w (.agg cs) (.agg vs.toArray)
  | tup (cs : List AV) (vs : List Value) (hl : cs.length = vs.length) (h : ∀ (i : Nat) c v, cs[i]? = some c → vs[i]? = some v → ARel μ S w c v) : ARel μ S w (.tup cs) (.tuple vs.toArray)
  | clo (f : FuncId) (cs : List AV) (vs : List Value) (hl : cs.length = vs.length) (h : ∀ (i : Nat) c v, cs[i]? = some c → vs[i]? = some v → ARel μ S w c v) : ARel μ S w (.clo f cs) (.func (.func f) #[] vs.toArray)
  | it (b : Nat) (a : Option Addr) (h : μ b = some (.pointer a)) : ARel μ S w (.it b) (.pointer a)
  | top (v : Value) : ARel μ S w .top v

/-! ## The ways on: each hands the rest of the run what it found, or there is none -/
section
variable {ρ : Type}
def aIf (b : Bool) (x y : Option ρ) : Option ρ := match b with | true => x | false => y
/-- Goes on where b holds. -/
def aGd (b : Bool) (x : Option ρ) : Option ρ := match b with | true => x | false => none
def onSome {α : Type} (o : Option α) (k : α → Option ρ) : Option ρ := match o with | some x => k x | none => none
def onInt (i : IntKind) (v : PV) (k : Int → Option ρ) : Option ρ := match v with | .int j n => aGd (decide (j = i)) (k n) | _ => none
def onBool (v : PV) (k : Bool → Option ρ) : Option ρ := match v with | .bool b => k b | _ => none
def onStr (v : PV) (k : List UInt8 → Option ρ) : Option ρ := match v with | .str l => k l | _ => none
/-- A slice's elements: nil has none. -/
def onSl (st : Nat) (v : PV) (k : List PV → Option ρ) : Option ρ := match v with | .sl s xs => aGd (decide (s = st)) (k xs) | .nilsl => k [] | .emp => k [] | _ => none
/-- A slice's elements, of whatever size. -/
def onSl0 (v : PV) (k : List PV → Option ρ) : Option ρ := match v with | .sl _ xs => k xs | .nilsl => k [] | .emp => k [] | _ => none
def onAgg (v : PV) (k : List PV → Option ρ) : Option ρ := match v with | .agg cs => k cs | _ => none
def onP (v : AV) (k : PV → Option ρ) : Option ρ := match v with | .p x => k x | _ => none
def onAggA (v : AV) (k : List AV → Option ρ) : Option ρ := match v with | .p (.agg cs) => k (cs.map .p) | .agg cs => k cs | _ => none
/-- Element i of a list. -/
def onGet {α : Type} (l : List α) (i : Int) (k : α → Option ρ) : Option ρ := match decide (0 ≤ i) with | true => onSome l[i.toNat]? k | false => none
/-- All pure: the list of them. -/
def allP : List AV → (List PV → Option ρ) → (Unit → Option ρ) → Option ρ
  | [], k, _ => k []
  | .p x :: l, k, n => allP l (fun xs => k (x :: xs)) n
  | _ :: _, _, n => n ()
end

def AV.cells : AV → List AV
  | .p (.agg cs) => cs.map .p
  | .agg cs => cs
  | v => [v]
def AV.one : AV → Bool
  | .p x => x.one
  | .agg _ | .tup _ => false
  | .top => false
  | _ => true
def allOne : List AV → Bool
  | [] => true
  | x :: xs => x.one && allOne xs
def oneP : List PV → Bool
  | [] => true
  | x :: xs => x.one && oneP xs
/-- A struct or array of these cells. -/
def mkAgg {ρ : Type} (l : List AV) (k : AV → Option ρ) : Option ρ := allP l (fun xs => k (.p (.agg xs))) (fun _ => k (.agg l))
def splice {α : Type} (l : List α) (o : Nat) (xs : List α) : List α := l.take o ++ xs ++ l.drop (o + xs.length)

/-- What one cell of a type may hold. -/
inductive CK where
  | int (k : IntKind)
  | str
  | bool
  | sl (st : Nat)
  | fn
  | bad
section
variable {ρ : Type}
/-- The cell x, as its type has it. -/
def onCK (c : CK) (x : PV) (k : PV → Option ρ) : Option ρ :=
  match c with
  | .int i => onInt i x fun n => k (.int i n)
  | .str => onStr x fun l => k (.str l)
  | .bool => onBool x fun b => k (.bool b)
  | .sl st => onSl st x fun xs => k (.sl st xs)
  | .fn => match x with | .fn f => k (.fn f) | _ => none
  | .bad => none
def onCons {α : Type} (l : List α) (k : α → List α → Option ρ) : Option ρ := match l with | x :: xs => k x xs | [] => none
def onNil {α : Type} (l : List α) (k : Option ρ) : Option ρ := match l with | [] => k | _ :: _ => none
def onShape : List CK → List PV → (List PV → Option ρ) → Option ρ
  | [], l, k => onNil l (k [])
  | c :: cs, l, k => onCons l fun x xs => onCK c x fun y => onShape cs xs fun ys => k (y :: ys)
end

/-- A callee: what it hands back of pure arguments. -/
structure Callee where
  run : {ρ : Type} → List PV → (PV → Option ρ) → Option ρ
  par : ∀ {ρ : Type} (args : List PV) (k : PV → Option ρ), run args k = (run args some).bind k
structure Env where
  P : Program
  calls : List (FuncId × Callee)
def Env.callee (E : Env) (f : FuncId) : Option Callee := (E.calls.find? (fun x => x.1 == f)).map (·.2)
def aggD : TypeDesc → Bool
  | .struct _ => true
  | .array _ _ => true
  | _ => false
/-- Is it a struct or array; how many cells has it? -/
def Env.tinfo (E : Env) (t : TypeId) : Option (Bool × Nat) := match E.P.underlying t with | some d => (match E.P.info? t with | some i => some (aggD d, i.size) | none => none) | none => none
def Env.siz (E : Env) (t : TypeId) : Nat := match E.P.info? t with | some i => i.size | none => 0
def Env.ck (E : Env) (t : TypeId) : CK := match E.P.underlying t with
  | some (.int k) => .int k
  | some .string => .str
  | some .bool => .bool
  | some (.slice e) => .sl (E.siz e)
  | some (.func _ _ _) => .fn
  | _ => .bad
def shapes (f : TypeId → List CK) : List Field → List CK
  | [] => []
  | x :: l => f x.type ++ shapes f l
def copies (l : List CK) : Nat → List CK
  | 0 => []
  | n + 1 => l ++ copies l n
def Env.shape (E : Env) : Nat → TypeId → List CK
  | 0, _ => [.bad]
  | d + 1, t => match E.P.underlying t with
    | some (.struct fs) => shapes (E.shape d) fs.toList
    | some (.array n e) => copies (E.shape d e) n
    | _ => [E.ck t]

/-- A constant. -/
def cellOf : Value → PV
  | .int k n => .int k n
  | .bool b => .bool b
  | .string s => .str s.data.toList
  | .func (.func f) _ _ => .fn f
  | _ => .nilsl
def constOk : Value → Bool
  | .int .. | .bool _ | .string _ => true
  | .func (.func _) first caps => first.isEmpty && caps.isEmpty
  | .slice none 0 0 => true
  | _ => false
def ofConst : Value → AV
  | .agg cs => bif cs.toList.all constOk then .p (.agg (cs.toList.map cellOf)) else .top
  | v => bif constOk v then .p (cellOf v) else .top
def St.ev (st : St) : Operand → AV
  | .tmp t => st.tmps.get t
  | .const v => ofConst v
  | .func f => .p (.fn f)
  | .global _ => .top
def St.put (st : St) (dst : Option Tmp) (v : AV) : St := match dst with | some d => ⟨st.tmps.set d v, st.heap⟩ | none => st

def allLen (n : Nat) : List PV → Bool
  | [] => true
  | x :: xs => decide (x.cells.length = n) && (allOne (x.cells.map .p) && allLen n xs)
section
variable {ρ : Type}
/-- Operators on numbers. -/
def aInt (op : BinOp) (i : IntKind) (x y : Int) (k : PV → Option ρ) : Option ρ :=
  match op with
  | .add => k (.int i (i.wrap (x + y)))
  | .sub => k (.int i (i.wrap (x - y)))
  | .mul => k (.int i (i.wrap (x * y)))
  | .quo => aGd (y != 0) (k (.int i (i.wrap (x.tdiv y))))
  | .rem => aGd (y != 0) (k (.int i (x.tmod y)))
  | .and => k (.int i (i.wrap (BitVec.ofInt i.bits x &&& BitVec.ofInt i.bits y).toNat))
  | .or => k (.int i (i.wrap (BitVec.ofInt i.bits x ||| BitVec.ofInt i.bits y).toNat))
  | .eql => k (.bool (x == y))
  | .neq => k (.bool (x != y))
  | .lss => k (.bool (decide (x < y)))
  | .leq => k (.bool (decide (x ≤ y)))
  | .gtr => k (.bool (decide (y < x)))
  | .geq => k (.bool (decide (y ≤ x)))
  | _ => none
def aShift (op : BinOp) (i : IntKind) (x y : Int) (k : PV → Option ρ) : Option ρ :=
  match op with
  | .shl => aGd (decide (0 ≤ y)) (k (.int i (i.wrap (x * 2 ^ (min y.toNat i.bits)))))
  | .shr => aGd (decide (0 ≤ y)) (k (.int i (x.fdiv (2 ^ (min y.toNat i.bits)))))
  | _ => none
def aStr (op : BinOp) (x y : List UInt8) (k : PV → Option ρ) : Option ρ :=
  match op with
  | .add => aGd (decide (x.length + y.length ≤ 9223372036854775807)) (k (.str (x ++ y)))
  | .eql => k (.bool (x == y))
  | .neq => k (.bool (!(x == y)))
  | .lss => k (.bool (Op.bytesLess x y))
  | .geq => k (.bool (!(Op.bytesLess x y)))
  | .leq => k (.bool (Op.bytesLess x y || x == y))
  | .gtr => k (.bool (!(Op.bytesLess x y || x == y)))
  | _ => none
/-- Equality of the fields of two structs: b and the rest. -/
def eqFs (E : Env) (rec : TypeId → List PV → List PV → (Bool → Option ρ) → Option ρ) (xs ys : List PV) : List Field → (Bool → Option ρ) → Option ρ
  | [], k => k true
  | f :: fs, k => aGd (f.name != "_") (aGd (decide (0 < E.siz f.type)) (aGd (decide (f.offset + E.siz f.type ≤ xs.length)) (aGd (decide (f.offset + E.siz f.type ≤ ys.length))
      (rec f.type ((xs.drop f.offset).take (E.siz f.type)) ((ys.drop f.offset).take (E.siz f.type)) fun b => eqFs E rec xs ys fs fun c => k (b && c)))))
def eqEs (E : Env) (rec : TypeId → List PV → List PV → (Bool → Option ρ) → Option ρ) (e : TypeId) (xs ys : List PV) : List Nat → (Bool → Option ρ) → Option ρ
  | [], k => k true
  | i :: is, k => aGd (decide (i * E.siz e + E.siz e ≤ xs.length)) (aGd (decide (i * E.siz e + E.siz e ≤ ys.length))
      (rec e ((xs.drop (i * E.siz e)).take (E.siz e)) ((ys.drop (i * E.siz e)).take (E.siz e)) fun b => eqEs E rec e xs ys is fun c => k (b && c)))
/-- Equality of two values of a type, cell by cell. -/
def aEq (E : Env) : Nat → TypeId → List PV → List PV → (Bool → Option ρ) → Option ρ
  | 0, _, _, _, _ => none
  | d + 1, t, xs, ys, k => match E.P.underlying t with
    | some (.int i) => onCons xs fun x _ => onCons ys fun y _ => onInt i x fun a => onInt i y fun b => k (a == b)
    | some .string => onCons xs fun x _ => onCons ys fun y _ => onStr x fun a => onStr y fun b => k (a == b)
    | some .bool => onCons xs fun x _ => onCons ys fun y _ => onBool x fun a => onBool y fun b => k (a == b)
    | some (.struct fs) => aGd (!(E.P.stoodInHeld t)) (eqFs E (aEq E d) xs ys fs.toList k)
    | some (.array n e) => aGd (decide (0 < E.siz e)) (eqEs E (aEq E d) e xs ys (List.range n) k)
    | _ => none
def aEqT (E : Env) (t : TypeId) (x y : AV) (k : Bool → Option ρ) : Option ρ :=
  aGd (!(E.P.eqGuardType E.P.depth t)) (onP x fun x => onAgg x fun xs => onP y fun y => onAgg y fun ys => aEq E 12 t xs ys k)
/-- A slice against nil: decided where it is known. -/
def isNil (v : AV) (k : Bool → Option ρ) : Option ρ :=
  match v with
  | .p .nilsl => k true
  | .p .emp => k false
  | .p (.sl _ (_ :: _)) => k false
  | _ => none
def aBin (E : Env) (op : BinOp) (t : TypeId) (x y : AV) (yt : TypeId) (k : PV → Option ρ) : Option ρ :=
  match op, E.P.underlying t with
  | .shl, some (.int i) => onSome (E.P.underlying yt) fun d => match d with | .int j => onP x fun x => onInt i x fun a => onP y fun y => onInt j y fun b => aShift op i a b k | _ => none
  | .shr, some (.int i) => onSome (E.P.underlying yt) fun d => match d with | .int j => onP x fun x => onInt i x fun a => onP y fun y => onInt j y fun b => aShift op i a b k | _ => none
  | _, some (.int i) => onP x fun x => onInt i x fun a => onP y fun y => onInt i y fun b => aInt op i a b k
  | _, some .string => onP x fun x => onStr x fun a => onP y fun y => onStr y fun b => aStr op a b k
  | .eql, some .bool => onP x fun x => onBool x fun a => onP y fun y => onBool y fun b => k (.bool (a == b))
  | .neq, some .bool => onP x fun x => onBool x fun a => onP y fun y => onBool y fun b => k (.bool (!(a == b)))
  | .eql, some (.slice _) => match y with | .p .nilsl => isNil x fun b => k (.bool b) | _ => none
  | .neq, some (.slice _) => match y with | .p .nilsl => isNil x fun b => k (.bool !b) | _ => none
  | .eql, some (.struct _) => aEqT E t x y fun b => k (.bool b)
  | .neq, some (.struct _) => aEqT E t x y fun b => k (.bool !b)
  | .eql, some (.array _ _) => aEqT E t x y fun b => k (.bool b)
  | .neq, some (.array _ _) => aEqT E t x y fun b => k (.bool !b)
  | _, _ => none
def aUn (op : UnOp) (x : PV) (k : PV → Option ρ) : Option ρ :=
  match op, x with
  | .not, .bool b => k (.bool !b)
  | .neg, .int i n => k (.int i (i.wrap (0 - n)))
  | _, _ => none
/-- A part of a struct or array: n cells at place o. -/
def aPart (E : Env) (t : TypeId) (cs : List AV) (o : Nat) (k : AV → Option ρ) : Option ρ :=
  onSome (E.tinfo t) fun g => aIf g.1 (aGd (decide (o + g.2 ≤ cs.length)) (mkAgg ((cs.drop o).take g.2) k)) (onSome cs[o]? k)
def aPartP (E : Env) (t : TypeId) (cs : List PV) (o : Nat) (k : PV → Option ρ) : Option ρ :=
  onSome (E.tinfo t) fun g => aIf g.1 (onShape (E.shape 8 t) ((cs.drop o).take g.2) fun ys => aGd (decide (ys.length = g.2)) (k (.agg ys))) (onSome cs[o]? fun x => onCK (E.ck t) x k)
def CK.scal : CK → Bool
  | .int _ => true
  | .str => true
  | .bool => true
  | _ => false
/-- A cell or part of a box: by way of pure values where they are. -/
def aPartB (E : Env) (t : TypeId) (cs : List AV) (o : Nat) (k : AV → Option ρ) : Option ρ :=
  match CK.scal (E.ck t) with
  | true => allP cs (fun xs => aPartP E t xs o fun y => k (.p y)) (fun _ => aPart E t cs o k)
  | false => aPart E t cs o k
def aLoad (E : Env) (t : TypeId) (heap : List Blk) (v : AV) (k : AV → Option ρ) : Option ρ :=
  match v with
  | .box b off => onSome heap[b]? fun bl => match bl with | .box cs => aPartB E t cs off k | _ => none
  | .el b st i off => onSome heap[b]? fun bl => match bl with | .row _ st' xs => aGd (decide (st = st')) (onGet xs i fun x => aPartP E t x.cells off fun y => k (.p y)) | _ => none
  | .p (.at_ x) => onSome (E.tinfo t) fun g => aIf g.1 (aPartP E t x.cells 0 fun y => k (.p y)) (onCK (E.ck t) x fun y => k (.p y))
  | _ => none
def aField (E : Env) (s : TypeId) (f : Nat) (k : Field → Option ρ) : Option ρ :=
  match E.P.underlying s with | some (.struct fs) => onSome fs[f]? k | _ => none
def aFieldAddr (E : Env) (s : TypeId) (v : AV) (f : Nat) (k : AV → Option ρ) : Option ρ :=
  aField E s f fun fd => aGd (decide (0 < E.siz fd.type)) (match v with
    | .box b off => k (.box b (off + fd.offset))
    | .el b st i off => k (.el b st i (off + fd.offset))
    | .p (.at_ x) => aPartP E fd.type x.cells fd.offset fun y => k (.p (.at_ y))
    | _ => none)
def aIndexAddr (E : Env) (t : TypeId) (heap : List Blk) (x ix : AV) (k : AV → Option ρ) : Option ρ :=
  onP ix fun ix => onInt .i64 ix fun i =>
  match E.P.underlying t with
  | some (.slice e) =>
    match x with
    | .own b => onSome heap[b]? fun bl => match bl with | .row _ st xs => aGd (decide (st = E.siz e)) (aGd (decide (0 ≤ i)) (aGd (decide (i < xs.length)) (k (.el b st i.toNat 0)))) | _ => none
    | .p x => aGd (decide (0 < E.siz e)) (onSl (E.siz e) x fun xs => onGet xs i fun y => k (.p (.at_ y)))
    | _ => none
  | some (.array n e) =>
    match x with
    | .box b off => aGd (decide (0 ≤ i)) (aGd (decide (i < n)) (aGd (decide (0 < E.siz e)) (k (.box b (off + i.toNat * E.siz e)))))
    | .p (.at_ x) => aGd (decide (0 ≤ i)) (aGd (decide (i < n)) (aGd (decide (0 < E.siz e)) (aPartP E e x.cells (i.toNat * E.siz e) fun y => k (.p (.at_ y)))))
    | _ => none
  | _ => none
def aIndex (E : Env) (t : TypeId) (x ix : AV) (k : AV → Option ρ) : Option ρ :=
  onP ix fun ix => onInt .i64 ix fun i => onP x fun x =>
  match E.P.underlying t with
  | some .string => onStr x fun l => onGet l i fun b => k (.p (.int .u8 b.toNat))
  | some (.array n e) => onAgg x fun cs => aGd (decide (0 ≤ i)) (aGd (decide (i < n)) (aPartP E e cs (i.toNat * E.siz e) fun y => k (.p y)))
  | _ => none
def aLow (lo : Option AV) (h : Nat) (k : Nat → Option ρ) : Option ρ :=
  match lo with
  | none => k 0
  | some v => onP v fun v => onInt .i64 v fun l => aGd (decide (0 ≤ l)) (aGd (decide (l ≤ h)) (k l.toNat))
/-- The bounds of a slice expression, low and high, over a length. -/
def aBounds (len : Nat) (lo hi : Option AV) (k : Nat → Nat → Option ρ) : Option ρ :=
  match hi with
  | none => aLow lo len fun l => k l len
  | some v => onP v fun v => onInt .i64 v fun h => aGd (decide (0 ≤ h)) (aGd (decide (h ≤ len)) (aLow lo h.toNat fun l => k l h.toNat))
def aSlice (E : Env) (t : TypeId) (x : AV) (lo hi : Option AV) (k : AV → Option ρ) : Option ρ :=
  onP x fun x =>
  match E.P.underlying t with
  | some .string => onStr x fun s => aBounds s.length lo hi fun l h => k (.p (.str ((s.take h).drop l)))
  | some (.slice e) => aGd (decide (0 < E.siz e)) (onSl (E.siz e) x fun xs => aBounds xs.length lo hi fun l h => k (.p (.sl (E.siz e) ((xs.take h).drop l))))
  | _ => none
/-- The bytes of a row of bytes. -/
def u8s : List PV → (List UInt8 → Option ρ) → Option ρ
  | [], k => k []
  | x :: xs, k => onInt .u8 x fun n => u8s xs fun l => k (UInt8.ofNat n.toNat :: l)
def aConv (E : Env) (src dst : TypeId) (x : AV) (k : AV → Option ρ) : Option ρ :=
  match E.P.underlying src, E.P.underlying dst with
  | some (.int i), some (.int j) => onP x fun x => onInt i x fun n => k (.p (.int j (j.wrap n)))
  | some .string, some .string => onP x fun x => onStr x fun l => k (.p (.str l))
  | some (.int i), some .string => onP x fun x => onInt i x fun n => k (.p (.str (Utf8.encode n).data.toList))
  | some (.slice e), some .string => match E.P.underlying e with
    | some (.int .u8) => onP x fun x => onSl 1 x fun xs => u8s xs fun l => k (.p (.str l))
    | _ => none
  | _, _ => none
/-- Arguments, as pure values. -/
def aArgs : List AV → (List PV → Option ρ) → Option ρ
  | [], k => k []
  | v :: l, k => onP v fun x => aArgs l fun xs => k (x :: xs)
def aCall (E : Env) (f : AV) (args : List AV) (k : AV → Option ρ) : Option ρ :=
  onP f fun f => match f with
    | .fn f => aArgs args fun xs => match E.callee f with | some c => c.run xs fun r => k (.p r) | none => none
    | _ => none
def aBuiltin (E : Env) (b : Builtin) (ts : List TypeId) (args : List AV) (heap : List Blk) (k : AV → Option ρ) : Option ρ :=
  match b, args with
  | .len, [x] => onSome ts[0]? fun t => onSome (E.P.underlying t) fun d => match d with
    | .string => onP x fun x => onStr x fun l => k (.p (.int .i64 l.length))
    | .array n _ => k (.p (.int .i64 n))
    | .slice _ => match x with
      | .own b => onSome heap[b]? fun bl => match bl with | .row _ _ xs => k (.p (.int .i64 xs.length)) | _ => none
      | x => onP x fun x => onSl0 x fun xs => k (.p (.int .i64 xs.length))
    | _ => none
  | .min, [x, y] => onP x fun x => onInt .i64 x fun a => onP y fun y => onInt .i64 y fun b => k (.p (.int .i64 (min a b)))
  | .max, [x, y] => onP x fun x => onInt .i64 x fun a => onP y fun y => onInt .i64 y fun b => k (.p (.int .i64 (max a b)))
  | _, _ => none
/-- A struct's or array's cells, written part by part: at place o, of size n. -/
def aFill (cs : List AV) : List (Option (Nat × Nat) × AV) → (List AV → Option ρ) → Option ρ
  | [], k => k cs
  | (p, v) :: l, k => onSome p fun p => aGd (decide (v.cells.length = p.2)) (aGd (allOne v.cells) (aGd (decide (p.1 + p.2 ≤ cs.length)) (aFill (splice cs p.1 v.cells) l k)))
def aBuild (E : Env) (t : TypeId) (parts : List (Nat × AV)) (k : AV → Option ρ) : Option ρ :=
  onSome (E.P.info? t) fun i => onSome i.zero fun z => aGd (allOne (ofConst z).cells) (match E.P.underlying t with
  | some (.struct fs) => aGd (fs.toList.all fun f => decide (0 < E.siz f.type)) (aFill (ofConst z).cells (parts.map fun (i, v) => ((fs[i]?).map (fun f => (f.offset, E.siz f.type)), v)) fun cs => mkAgg cs k)
  | some (.array _ e) => aGd (decide (0 < E.siz e)) (aFill (ofConst z).cells (parts.map fun (i, v) => (some (i * E.siz e, E.siz e), v)) fun cs => mkAgg cs k)
  | _ => none)
/-- The operations that write nothing and make no memory that is written to later. -/
def aVal (E : Env) (o : Oper) (ev : Operand → AV) (heap : List Blk) (k : AV → Option ρ) : Option ρ :=
  match o.op with
  | .move x => k (ev x)
  | .assign x => k (ev x)
  | .pick c a b => onP (ev c) fun c => onBool c fun c => aIf c (k (ev a)) (k (ev b))
  | .nilCheck x => match ev x with | .box b o => k (.box b o) | .el b s i o => k (.el b s i o) | .p (.at_ x) => k (.p (.at_ x)) | _ => none
  | .binOp op t x y yt => aBin E op t (ev x) (ev y) yt fun v => k (.p v)
  | .unOp op _ x => onP (ev x) fun x => aUn op x fun v => k (.p v)
  | .convert s d x => aConv E s d (ev x) k
  | .field t x f => aField E t f fun fd => onAggA (ev x) fun cs => aPart E fd.type cs fd.offset k
  | .fieldAddr t x f => aFieldAddr E t (ev x) f k
  | .index t x ix => aIndex E t (ev x) (ev ix) k
  | .indexAddr t x ix => aIndexAddr E t heap (ev x) (ev ix) k
  | .slice t x lo hi none => aSlice E t (ev x) (lo.map ev) (hi.map ev) k
  | .load t x => aLoad E t heap (ev x) k
  | .extract x i => match ev x with
    | .p (.tup cs) => onSome cs[i]? fun c => k (.p c)
    | .tup cs => onSome cs[i]? k
    | _ => none
  | .makeFunc (.func f) first caps => aGd first.isEmpty (match caps.toList with | [] => k (.p (.fn f)) | _ => k (.clo f (caps.toList.map ev)))
  | .buildSlice t (len + 1) parts => match E.P.underlying t with
    | some (.slice e) => onSome (E.P.info? e) fun i => onSome i.zero fun z => aGd (decide (0 < i.size)) (aGd (decide (z.cells.size = i.size)) (aGd (decide (parts.toList.map (·.1) = List.range (len + 1))) (aGd (decide ((len + 1) * i.size ≤ 16777216))
        (aArgs (parts.toList.map fun (_, x) => ev x) fun xs => aGd (allLen i.size xs) (k (.p (.sl i.size xs)))))))
    | _ => none
  | .build t parts => aBuild E t (parts.toList.map fun (i, x) => (i, ev x)) k
  | .call c => match c.callee with
    | .builtin b => aBuiltin E b c.argTypes.toList (c.args.toList.map ev) heap k
    | .value f => aCall E (ev f) (c.args.toList.map ev) k
    | _ => none
  | _ => none
end

/-! ## Memory of the call's own -/
mutual
/-- Every way to block b is x instead. -/
def AV.sub (b : Nat) (x : AV) : AV → AV
  | .own c => bif c == b then x else .own c
  | .box c o => bif c == b then .top else .box c o
  | .el c s i o => bif c == b then .top else .el c s i o
  | .it c => bif c == b then .top else .it c
  | .agg cs => .agg (AV.subL b x cs)
  | .tup cs => .tup (AV.subL b x cs)
  | .clo f cs => .clo f (AV.subL b x cs)
  | .p v => .p v
  | .top => .top
def AV.subL (b : Nat) (x : AV) : List AV → List AV
  | [] => []
  | v :: l => AV.sub b x v :: AV.subL b x l
end
def Blk.sub (b : Nat) (x : AV) : Blk → Blk
  | .box cs => .box (AV.subL b x cs)
  | o => o
def Tr.sub (b : Nat) (x : AV) : Tr → Tr
  | .tip => .tip
  | .node v l r => .node (AV.sub b x v) (Tr.sub b x l) (Tr.sub b x r)
def St.sub (st : St) (b : Nat) (x : AV) : St := ⟨⟨st.tmps.n, Tr.sub b x st.tmps.tr⟩, st.heap.map (Blk.sub b x)⟩
def St.setB (st : St) (b : Nat) (o : Blk) : St := { st with heap := st.heap.set b o }
def St.newB (st : St) (o : Blk) : St := { st with heap := st.heap ++ [o] }
/-- Block b, a row of xs, is not written any more. -/
def St.freeze (st : St) (b s : Nat) (xs : List PV) : St := (st.sub b (.p (.sl s xs))).setB b .none
def setCells (x : PV) (o : Nat) (cs : List PV) : PV := match x with | .agg l => .agg (splice l o cs) | _ => (cs.head?).getD x

section
variable {ρ : Type}
/-- Arguments, as pure values; the rows among them. -/
def aArgsO (heap : List Blk) : List AV → (List PV → List (Nat × Nat × List PV) → Option ρ) → Option ρ
  | [], k => k [] []
  | .own b :: l, k => onSome heap[b]? fun bl => match bl with | .row _ s xs => aArgsO heap l fun ys bs => aGd (bs.all fun p => p.1 != b) (k (.sl s xs :: ys) ((b, s, xs) :: bs)) | _ => none
  | v :: l, k => onP v fun x => aArgsO heap l fun ys bs => k (x :: ys) bs
def St.freezeAll (st : St) : List (Nat × Nat × List PV) → St
  | [] => st
  | (b, s, xs) :: l => (st.freeze b s xs).freezeAll l
/-- The elements to be appended. -/
def aElems (heap : List Blk) (s : Nat) (v : AV) (k : List PV → Option ρ) : Option ρ :=
  match v with
  | .own c => onSome heap[c]? fun bl => match bl with | .row _ s' ys => aGd (decide (s' = s)) (k ys) | _ => none
  | .p v => onSl s v k
  | _ => none
def aAppend (E : Env) (t : TypeId) (st : St) (s x : AV) (k : St → AV → Option ρ) : Option ρ :=
  match E.P.underlying t with
  | some (.slice e) => onSome (E.P.info? e) fun i => onSome i.zero fun z => aGd (decide (z.cells.size = i.size)) (aGd (decide (0 < i.size)) (aElems st.heap i.size x fun ys => (match s with
    | .own b => onSome st.heap[b]? fun bl => match bl with
      | .row e' st' xs => aGd (decide (e' = e)) (aGd (decide (st' = i.size)) (aGd (decide ((xs.length + ys.length) * (i.bytes + 1) ≤ 140737488355328)) (k ((st.sub b .top).setB b (.row e st' (xs ++ ys))) (.own b))))
      | _ => none
    | .p .nilsl => aGd (decide (ys.length * (i.bytes + 1) ≤ 140737488355328)) (k (st.newB (.row e i.size ys)) (.own st.heap.length))
    | _ => none)))
  | _ => none
def aStore (E : Env) (t : TypeId) (st : St) (a x : AV) (k : St → Option ρ) : Option ρ :=
  match a with
  | .box b off => onSome st.heap[b]? fun bl => match bl with
    | .box cs => aGd (decide (0 < E.siz t)) (aGd (decide (x.cells.length = E.siz t)) (aGd (allOne x.cells) (aGd (decide (off + x.cells.length ≤ cs.length)) (k (st.setB b (.box (splice cs off x.cells)))))))
    | _ => none
  | .el b s i off => onSome st.heap[b]? fun bl => match bl with
    | .row e s' xs => aGd (decide (s' = s)) (aGd (decide (0 < E.siz t)) (aGd (decide (x.cells.length = E.siz t)) (aGd (allOne x.cells) (aGd (decide (off + x.cells.length ≤ s)) (allP x.cells (fun cs => onGet xs i fun y => k (st.setB b (.row e s (xs.set i (setCells y off cs))))) (fun _ => none))))))
    | _ => none
  | _ => none
/-- One and the same operand. -/
def sameOp : Operand → Operand → Bool
  | .tmp a, .tmp b => a == b
  | _, _ => false
theorem sameOp_eq {x y : Operand} (h : sameOp x y = true) : x = y := by
  cases x <;> cases y <;> simp [sameOp] at h
  rw [h]
/-- The zero value of a type, of n cells. -/
def onZero (z : Value) (n : Nat) (k : PV → Option ρ) : Option ρ :=
  match ofConst z with
  | .p x => aGd (decide (x.cells.length = n)) (aGd (allOne (x.cells.map .p)) (k x))
  | _ => none
/-- A function's value: the function, and what it has captured. -/
def onFn (v : AV) (k : FuncId → List AV → Option ρ) : Option ρ :=
  match v with
  | .p (.fn f) => k f []
  | .clo f cs => k f cs
  | _ => none
/-- All but the quiet ones. -/
def aOp (E : Env) (o : Oper) (st : St) (k : St → Option ρ) : Option ρ :=
  match o.op with
  | .box e v => aGd (allOne (st.ev v).cells) (k ((st.newB (.box (st.ev v).cells)).put o.dst (.box st.heap.length 0)))
  | .alloc e => onSome (E.P.info? e) fun i => onSome i.zero fun z => aGd (allOne (ofConst z).cells) (k ((st.newB (.box (ofConst z).cells)).put o.dst (.box st.heap.length 0)))
  | .store t a x => aStore E t st (st.ev a) (st.ev x) fun st' => k (st'.put o.dst .top)
  | .buildSlice t 0 parts => match E.P.underlying t with
    | some (.slice e) => onSome (E.P.info? e) fun i => onSome i.zero fun z => aGd (decide (0 < i.size)) (aGd (decide (z.cells.size = i.size)) (aGd (decide (parts.toList.map (·.1) = []))
        (k ((st.newB (.row e i.size [])).put o.dst (.own st.heap.length)))))
    | _ => none
  | .makeSlice t len cap => match E.P.underlying t with
    | some (.slice e) => onSome (E.P.info? e) fun i => onSome i.zero fun z => aGd (decide (0 < i.size)) (aGd (decide (z.cells.size = i.size)) (onZero z i.size fun zp => onP (st.ev len) fun l => onInt .i64 l fun l => onP (st.ev cap) fun c => onInt .i64 c fun c =>
        aGd (decide (0 ≤ l)) (aGd (sameOp len cap || decide (l ≤ c)) (aGd (sameOp len cap || (decide (l = c) || decide (l = 0))) (aGd (decide (c * (i.bytes + 1) ≤ 140737488355328)) (k ((st.newB (.row e i.size (List.replicate l.toNat zp))).put o.dst (.own st.heap.length))))))))
    | _ => none
  | .range t x => match E.P.underlying t with
    | some .string => onP (st.ev x) fun v => onStr v fun l => k ((st.newB (.iter l 0)).put o.dst (.it st.heap.length))
    | _ => none
  | .next it true => match st.ev it with
    | .it b => onSome st.heap[b]? fun bl => match bl with
      | .iter l pos => aIf (decide (pos < l.length))
          (k ((st.setB b (.iter l (pos + (Utf8.decode ⟨l.toArray⟩ pos).2))).put o.dst (.p (.tup [.bool true, .int .i64 pos, .int .i32 (Utf8.decode ⟨l.toArray⟩ pos).1]))))
          (k (st.put o.dst (.p (.tup [.bool false]))))
      | _ => none
    | _ => none
  | .slice t x lo hi none => match st.ev x with
    | .own b => onSome st.heap[b]? fun bl => match bl with
      | .row e s xs => aSlice E t (.p (.sl s xs)) (lo.map st.ev) (hi.map st.ev) fun v => k ((st.freeze b s xs).put o.dst v)
      | _ => none
    | _ => aVal E o st.ev st.heap fun v => k (st.put o.dst v)
  | .call c => match c.callee, c.args.toList.map st.ev with
    | .builtin .append, [s, x] => onSome c.argTypes[0]? fun t => aGd (decide (c.argTypes.toList = [t, t])) (aAppend E t st s x fun st' v => k (st'.put o.dst v))
    | .value f, args => onFn (st.ev f) fun f caps => aArgsO st.heap (args ++ caps) fun xs bs => match E.callee f with
        | some c => c.run xs fun r => aIf r.scalar (k (st.put o.dst (.p r))) (k ((st.freezeAll bs).put o.dst (.p r)))
        | none => none
    | _, _ => aVal E o st.ev st.heap fun v => k (st.put o.dst v)
  | _ => aVal E o st.ev st.heap fun v => k (st.put o.dst v)
end

/-! ## Code -/
structure Mask where
  keep : List Nat
  rows : List (Nat × TypeId × Nat)
  cells : List (Nat × Nat × TypeId × Nat)
  heap : Nat
mutual
/-- Leads to blocks below n alone. -/
def AV.under (n : Nat) : AV → Bool
  | .own c => decide (c < n)
  | .box c _ => decide (c < n)
  | .el c _ _ _ => decide (c < n)
  | .it c => decide (c < n)
  | .agg cs => AV.underL n cs
  | .tup cs => AV.underL n cs
  | .clo _ cs => AV.underL n cs
  | .p _ => true
  | .top => true
def AV.underL (n : Nat) : List AV → Bool
  | [] => true
  | v :: l => AV.under n v && AV.underL n l
end
def Blk.under (n : Nat) : Blk → Bool
  | .box cs => AV.underL n cs
  | _ => true
def underH (n : Nat) : List Blk → Bool
  | [] => true
  | b :: l => b.under n && underH n l
def Tm.kept (t : Tm) : List Nat → List (Nat × AV)
  | [] => []
  | i :: l => (i, t.get i) :: t.kept l
def keptUnder (n : Nat) : List (Nat × AV) → Bool
  | [] => true
  | x :: l => AV.under n x.2 && keptUnder n l
def mkRows : List (Nat × TypeId × Nat) → St → St
  | [], st => st
  | (t, e, s) :: l, st => mkRows l (match st.tmps.get t with
    | .p .nilsl => (st.newB (.row e s [])).put (some t) (.own st.heap.length)
    | _ => st)
/-- The same, where nil lies in a cell of a box. -/
def mkCells : List (Nat × Nat × TypeId × Nat) → St → St
  | [], st => st
  | (b, i, e, s) :: l, st => mkCells l (match st.heap[b]? with
    | some (.box cs) => (match cs[i]? with
      | some (.p .nilsl) => (st.newB (.row e s [])).setB b (.box (cs.set i (.own st.heap.length)))
      | _ => st)
    | _ => st)
def Mask.pre (m : Mask) (st : St) : St := mkCells m.cells (mkRows m.rows st)
section
variable {ρ : Type}
def aMask (m : Mask) (st : St) (k : St → Option ρ) : Option ρ :=
  aGd (keptUnder m.heap ((m.pre st).tmps.kept m.keep) && underH m.heap ((m.pre st).heap.take m.heap))
    (k ⟨Tm.of (m.pre st).tmps.n ((m.pre st).tmps.kept m.keep), (m.pre st).heap.take m.heap⟩)
def aMask? (m : Option Mask) (st : St) (k : St → Option ρ) : Option ρ := match m with | some m => aMask m st k | none => k st
/-- Does an operation's guard hold? Each way goes on with what it has learned. -/
def aWanted (ops : Array Oper) (st : St) (o : Oper) (x y : St → Option ρ) : Option ρ :=
  match o.guard with
  | none => x st
  | some (j, want) => match (ops[j]?).bind (·.dst) with
    | some t => match st.tmps.get t with
      | .p (.bool b) => aIf b
        (match want with | true => x (st.put (some t) (.p (.bool true))) | false => y (st.put (some t) (.p (.bool true))))
        (match want with | true => y (st.put (some t) (.p (.bool false))) | false => x (st.put (some t) (.p (.bool false))))
      | .p (.tup []) => y st
      | _ => none
    | none => none
def aOps (E : Env) (ops : Array Oper) : List Oper → St → (St → Option ρ) → Option ρ
  | [], st, k => k st
  | o :: l, st, k => aWanted ops st o (fun st => aOp E o st fun st' => aOps E ops l st' k) (fun st => aOps E ops l (st.put o.dst (.p (.tup []))) k)
/-- Operations of a region that draws its order which make a box or write into one. -/
def opEff : Op → Bool
  | .alloc _ => true
  | .store _ _ _ => true
  | _ => false
/-- Boxes that are not seen. -/
def hide : List Nat → List Blk → List Blk
  | [], h => h
  | b :: bs, h => hide bs (h.set b .none)
def hideO (B : Option (List Nat)) (h : List Blk) : List Blk := match B with | none => h | some bs => hide bs h
def hidB (B : Option (List Nat)) (b : Nat) : Bool := match B with | none => true | some bs => bs.contains b
def storeB (st : St) : List Oper → List Nat
  | [] => []
  | o :: l => match o.op with
    | .store _ a _ => (match st.ev a with | .box b _ => b :: storeB st l | _ => storeB st l)
    | _ => storeB st l
def aEff (B : Option (List Nat)) (E : Env) (o : Oper) (st : St) (k : St → Option ρ) : Option ρ :=
  match o.op with
  | .alloc e => onSome (E.P.info? e) fun i => onSome i.zero fun z => aGd (allOne (ofConst z).cells) (k ((st.newB (.box (ofConst z).cells)).put o.dst (.box st.heap.length 0)))
  | .store t a x => match st.ev a with
    | .box b off => onSome st.heap[b]? fun bl => match bl with
      | .box cs => aGd (hidB B b) (aGd (decide (0 < E.siz t)) (aGd (decide ((st.ev x).cells.length = E.siz t)) (aGd (allOne (st.ev x).cells) (aGd (decide (off + (st.ev x).cells.length ≤ cs.length)) (k ((st.setB b (.box (splice cs off (st.ev x).cells))).put o.dst .top))))))
      | _ => none
    | _ => none
  | _ => none
/-- A region that draws its order: quiet operations, which do not see the boxes B, and those above, which write into these alone. -/
def aOpsQ (B : Option (List Nat)) (E : Env) (ops : Array Oper) : List Oper → St → (St → Option ρ) → Option ρ
  | [], st, k => k st
  | o :: l, st, k => match opEff o.op with
    | true => aGd o.guard.isNone (aEff B E o st fun st' => aOpsQ B E ops l st' k)
    | false => aWanted ops st o (fun st => aVal E o st.ev (hideO B st.heap) fun v => aOpsQ B E ops l (st.put o.dst v) k) (fun st => aOpsQ B E ops l (st.put o.dst (.p (.tup []))) k)
/-- It looks at no memory. -/
def opStill : Op → Bool
  | .move _ => true
  | .assign _ => true
  | .extract _ _ => true
  | _ => false
/-- Two operations, in this order in the text, that may change places. -/
def pairB (m : Bool) (oi oj : Oper) : Bool :=
  match opEff oi.op, opEff oj.op with
  | false, false => true
  | false, true => match oj.op with | .alloc _ => true | _ => m || opStill oi.op
  | true, false => match oi.op with | .store _ _ _ => m || opStill oj.op | _ => false
  | true, true => false
def boundB (oj : Oper) (i : Nat) : Bool := oj.after.any fun e => Region.binds .any e && e.on == i
/-! That any order that a region may draw does the same as its text's: by numbers as sets of temporaries. -/
def maskL : List Nat → Nat
  | [] => 0
  | t :: l => Nat.lor (Nat.shiftLeft 1 t) (maskL l)
def dstM (o : Oper) : Nat := match o.dst with | some d => Nat.shiftLeft 1 d | none => 0
def apartQ (ops : Array Oper) (oi oj : Oper) : Bool := Nat.beq (Nat.land (dstM oi) (Nat.lor (maskL (oj.looksAt ops)) (dstM oj))) 0 && Nat.beq (Nat.land (dstM oj) (maskL (oi.looksAt ops))) 0
def readyQ (k : Nat) (o : Oper) : Bool := o.after.toList.all fun e => !Region.binds .any e || Nat.blt e.on k
def lexQ (m : Bool) (ops : Array Oper) : List Oper → Nat → Bool
  | [], _ => true
  | o :: l, n => readyQ n o && ((l.all fun oj => boundB oj n || (apartQ ops o oj && pairB m o oj)) && lexQ m ops l (n + 1))
inductive AExit where
  | normal
  | exit (id : Nat)
  | ret
def firstReg : Code → Nat
  | .region id _ _ => id
  | .seq a _ => firstReg a
  | .cond _ a _ => firstReg a
  | .block _ a => firstReg a
  | .loop a => firstReg a
  | .scope a => firstReg a
  | _ => 1000000
structure Opts where
  fuel : Nat
  masks : List (Nat × Mask)
  cuts : List (Nat × Mask)
def Opts.mask (O : Opts) (r : Nat) : Option Mask := (O.masks.find? (fun x => x.1 == r)).map (·.2)
def Opts.cut (O : Opts) (r : Nat) : Option Mask := (O.cuts.find? (fun x => x.1 == r)).map (·.2)
def aLoop (m : Option Mask) (body : St → (AExit → St → Option ρ) → Option ρ) : Nat → St → (AExit → St → Option ρ) → Option ρ
  | 0, _, _ => none
  | n + 1, st, k => body st fun e st' => match e with
    | .normal => aMask? m st' fun st'' => aLoop m body n st'' k
    | .exit i => k (.exit i) st'
    | .ret => k .ret st'
def aCut (c : St → (AExit → St → Option ρ) → Option ρ) (st : St) (k : AExit → St → Option ρ) : Option ρ := c st k
/-- The rest of a piece of code, behind its first half, in a block, in a round. -/
def seqK (m : Option Mask) (c : St → (AExit → St → Option ρ) → Option ρ) (k : AExit → St → Option ρ) (e : AExit) (st : St) : Option ρ :=
  match e with
  | .normal => match m with
    | some m => aMask m st fun st' => aCut c st' k
    | none => c st k
  | .exit i => k (.exit i) st
  | .ret => k .ret st
def blockK (id : Nat) (k : AExit → St → Option ρ) (e : AExit) (st : St) : Option ρ :=
  match e with
  | .normal => k .normal st
  | .exit j => match decide (j = id) with | true => k .normal st | false => k (.exit j) st
  | .ret => k .ret st
def loopK (m : Option Mask) (body : St → (AExit → St → Option ρ) → Option ρ) (n : Nat) (k : AExit → St → Option ρ) (e : AExit) (st : St) : Option ρ :=
  match e with
  | .normal => aMask? m st fun st' => aLoop m body n st' k
  | .exit i => k (.exit i) st
  | .ret => k .ret st
def aCode (E : Env) (O : Opts) : Code → St → (AExit → St → Option ρ) → Option ρ
  | .skip, st, k => k .normal st
  | .label _, st, k => k .normal st
  | .exit id, st, k => k (.exit id) st
  | .ret, st, k => k .ret st
  | .region _ ops d, st, k => match d with
    | false => aOps E ops ops.toList st (k .normal)
    | true => aIf (lexQ false ops ops.toList 0) (aOpsQ none E ops ops.toList st (k .normal)) (aGd (lexQ true ops ops.toList 0) (aOpsQ (some (storeB st ops.toList)) E ops ops.toList st (k .normal)))
  | .seq a b, st, k => aCode E O a st (seqK (O.cut (firstReg b)) (aCode E O b) k)
  | .cond c a b, st, k => onP (st.ev c) fun c => onBool c fun c => aIf c (aCode E O a st k) (aCode E O b st k)
  | .block id c, st, k => aCode E O c st (blockK id k)
  | .loop c, st, k => aMask? (O.mask (firstReg c)) st fun st' => aLoop (O.mask (firstReg c)) (aCode E O c) O.fuel st' k
  | .scope c, st, k => aCode E O c st k
  | _, _, _ => none
/-- The piece of code at a path, with its rest: fuels for the rounds of the loops on the way. -/
def aAt (E : Env) (O : Opts) : Code → List Nat → (AExit → St → Option ρ) → List Nat → (Code → (AExit → St → Option ρ) → Option ρ) → Option ρ
  | .seq a b, 0 :: p, k, fs, F => aAt E O a p (seqK (O.cut (firstReg b)) (aCode E O b) k) fs F
  | .seq a b, _ :: p, k, fs, F => aAt E O b p k fs F
  | .cond _ a _, 0 :: p, k, fs, F => aAt E O a p k fs F
  | .cond _ _ b, _ :: p, k, fs, F => aAt E O b p k fs F
  | .block id c, _ :: p, k, fs, F => aAt E O c p (blockK id k) fs F
  | .loop c, _ :: p, k, f :: fs, F => aAt E O c p (loopK (O.mask (firstReg c)) (aCode E O c) f k) fs F
  | .scope c, _ :: p, k, fs, F => aAt E O c p k fs F
  | c, [], k, _, F => F c k
  | _, _, _, _, _ => none
/-- What a function hands back. -/
def aRes (E : Env) (st : St) : ResultVar → (AV → Option ρ) → Option ρ
  | .tmp t, k => k (st.tmps.get t)
  | .cell t ty, k => aLoad E ty st.heap (st.tmps.get t) k
def aPure1 (heap : List Blk) (v : AV) (k : PV → Option ρ) : Option ρ :=
  match v with
  | .own b => onSome heap[b]? fun bl => match bl with | .row _ s xs => k (.sl s xs) | _ => none
  | .p x => k x
  | _ => none
def aPureL (heap : List Blk) : List AV → (List PV → Option ρ) → Option ρ
  | [], k => k []
  | v :: l, k => aPure1 heap v fun x => aPureL heap l fun xs => k (x :: xs)
def aPure (heap : List Blk) (v : AV) (k : PV → Option ρ) : Option ρ :=
  match v with
  | .agg cs => aPureL heap cs fun xs => k (.agg xs)
  | v => aPure1 heap v k
def aResults (E : Env) (st : St) : List ResultVar → (List PV → Option ρ) → Option ρ
  | [], k => k []
  | r :: l, k => aRes E st r fun v => aPure st.heap v fun x => aResults E st l fun xs => k (x :: xs)
def retK (E : Env) (fn : Func) (k : PV → Option ρ) (e : AExit) (st : St) : Option ρ :=
  match e with
  | .exit _ => none
  | _ => match fn.results.toList with
    | [r] => aResults E st [r] fun xs => match xs with | [x] => k x | _ => none
    | rs => aResults E st rs fun xs => k (.tup xs)
def argT : Nat → List PV → List (Nat × AV)
  | _, [] => []
  | i, x :: l => (i, .p x) :: argT (i + 1) l
def aFn (E : Env) (O : Opts) (fn : Func) (args : List PV) (k : PV → Option ρ) : Option ρ :=
  onSome fn.body fun c => aCode E O c ⟨Tm.of (args.length + (fn.ntmps - args.length)) (argT 0 args), []⟩ (retK E fn k)
/-- A round of the loop at a path, and the code at a path, from the state st. -/
def atLoop (E : Env) (O : Opts) (fn : Func) (path fuels : List Nat) (n : Nat) (st : St) (k : PV → Option ρ) : Option ρ :=
  onSome fn.body fun c => aAt E O c path (retK E fn k) fuels fun c k => match c with
    | .loop b => aLoop (O.mask (firstReg b)) (aCode E O b) n st k
    | _ => none
def atCut (E : Env) (O : Opts) (fn : Func) (path fuels : List Nat) (st : St) (k : PV → Option ρ) : Option ρ :=
  onSome fn.body fun c => aAt E O c path (retK E fn k) fuels fun c k => aCut (aCode E O c) st k
end

end Go.Proofs.Ytmnedpfilckilaa
