/- General lemmas about worlds that extend one another, about regions that draw their order, and about slices in memory. No program is named here. -/
import Derived.WalkKit
import Derived.WalkSpells
import Derived.WalkLawsBesides
import Derived.Deep.QuietTactic
import Derived.BigQuiet
set_option linter.unusedSimpArgs false
set_option linter.unusedVariables false
namespace Go.Proofs.Ytmnedpfilckilaa
open Go.RowKit

theorem hid {p : Prop} (h : p) : Hid p := h

/-- x, as a world that extends w: all blocks of w as they are in w; it is x if x extends w. -/
def ext (w : World) (x : World) : World :=
  { x with
    os := w.os, tape := w.tape, output := w.output
    heap := Array.ofFn (n := max w.heap.size x.heap.size) fun i => if i.val < w.heap.size then (w.heap[i.val]?).getD default else (x.heap[i.val]?).getD default }
theorem ext_get (w : World) (x : World) (k : Nat) (hk : k < w.heap.size) : (ext w x).heap[k]? = w.heap[k]? := by
  have h1 : k < max w.heap.size x.heap.size := by omega
  simp [ext, h1, hk]
theorem ext_below (w : World) (x : World) : Below w.heap.size w (ext w x) :=
  ⟨rfl, rfl, rfl, by simp [ext]; omega, fun k hk => ext_get w x k hk⟩
theorem ext_eq {w : World} {x : World} (h : Below w.heap.size w x) : ext w x = x := by
  have hs := h.size
  have hh : (ext w x).heap = x.heap := by
    apply Array.ext_getElem?
    intro i
    have hmax : max w.heap.size x.heap.size = x.heap.size := by omega
    by_cases hi : i < x.heap.size
    · by_cases hin : i < w.heap.size
      · rw [ext_get w x i hin, h.block i hin]
      · simp [ext, hmax, hi, hin]
    · simp [ext, hmax, hi]
  have e : ext w x = { x with os := w.os, tape := w.tape, output := w.output, heap := (ext w x).heap } := rfl
  rw [e, hh, ← h.os, ← h.tape, ← h.output]
@[go_sem] theorem ext_cell (w : World) (x : World) (b o : Nat) (h : b < w.heap.size) : (ext w x).cell? ⟨b, o, none⟩ = w.cell? ⟨b, o, none⟩ :=
  (ext_below w x).cell (p := ⟨b, o, none⟩) h
@[go_sem] theorem ext_frozen (w : World) (x : World) (b o : Nat) (h : b < w.heap.size) : (ext w x).frozen? ⟨b, o, none⟩ = w.frozen? ⟨b, o, none⟩ :=
  (ext_below w x).frozen (p := ⟨b, o, none⟩) h
@[go_sem] theorem cell_set_same (w : World) (b o : Nat) (v : Value) : (w.setCell ⟨b, o, none⟩ v).cell? ⟨b, o, none⟩ = (w.cell? ⟨b, o, none⟩).map fun _ => v := by
  cases hc : w.cell? ⟨b, o, none⟩ with
  | some u => rw [World.cell?_setCell_same w _ v hc]; rfl
  | none =>
    simp only [World.cell?, World.setCell, Array.getElem?_modify, if_true] at hc ⊢
    cases hb : w.heap[b]? with
    | none => simp
    | some obj =>
      rw [hb] at hc
      cases obj <;> simp at hc ⊢
      omega
theorem ext_size (w : World) (x : World) : w.heap.size ≤ (ext w x).heap.size := (ext_below w x).size
attribute [irreducible] ext
theorem ext_self (w : World) : w = ext w w := (ext_eq (Below.refl _ w)).symm
/-- Block number b is one of w's. Found by instances, so that a read of an old block goes through any number of new blocks and calls. -/
class BlkLt (b : Nat) (w : World) : Prop where
  lt : b < w.heap.size
instance blkNew (w : World) (o : Obj) : BlkLt w.heap.size (w.alloc o) := ⟨by simp⟩
instance blkNew1 (w : World) (o o' : Obj) : BlkLt (w.heap.size + 1) ((w.alloc o).alloc o') := ⟨by simp⟩
instance blkNew2 (w : World) (o o' o'' : Obj) : BlkLt (w.heap.size + 1 + 1) (((w.alloc o).alloc o').alloc o'') := ⟨by simp⟩
instance blkNew2' (w : World) (o o' o'' : Obj) : BlkLt (w.heap.size + 2) (((w.alloc o).alloc o').alloc o'') := ⟨by simp⟩
instance blkNew3 (w : World) (o o' o'' o3 : Obj) : BlkLt (w.heap.size + 1 + 1 + 1) ((((w.alloc o).alloc o').alloc o'').alloc o3) := ⟨by simp⟩
instance blkNew3' (w : World) (o o' o'' o3 : Obj) : BlkLt (w.heap.size + 3) ((((w.alloc o).alloc o').alloc o'').alloc o3) := ⟨by simp⟩
instance blkAlloc (b : Nat) (w : World) (o : Obj) [h : BlkLt b w] : BlkLt b (w.alloc o) := ⟨by have := h.lt; simp; omega⟩
instance blkSet (b : Nat) (w : World) (a : Addr) (v : Value) [h : BlkLt b w] : BlkLt b (w.setCell a v) := ⟨by have := h.lt; simp [World.setCell]; exact this⟩
instance blkDrew (b : Nat) (w : World) [h : BlkLt b w] : BlkLt b w.drew := ⟨h.lt⟩
instance blkExt (b : Nat) (w x : World) [h : BlkLt b w] : BlkLt b (ext w x) := ⟨Nat.lt_of_lt_of_le h.lt (ext_size w x)⟩
@[go_sem] theorem blk_ext_cell (w x : World) (b o : Nat) [h : BlkLt b w] : (ext w x).cell? ⟨b, o, none⟩ = w.cell? ⟨b, o, none⟩ := ext_cell w x b o h.lt
@[go_sem] theorem blk_ext_frozen (w x : World) (b o : Nat) [h : BlkLt b w] : (ext w x).frozen? ⟨b, o, none⟩ = w.frozen? ⟨b, o, none⟩ := ext_frozen w x b o h.lt
@[go_sem] theorem blk_alloc_cell (w : World) (b o : Nat) (ob : Obj) [h : BlkLt b w] : (w.alloc ob).cell? ⟨b, o, none⟩ = w.cell? ⟨b, o, none⟩ := World.cell?_alloc_past ob b o h.lt
@[go_sem] theorem blk_alloc_frozen (w : World) (b o : Nat) (ob : Obj) [h : BlkLt b w] : (w.alloc ob).frozen? ⟨b, o, none⟩ = w.frozen? ⟨b, o, none⟩ := World.frozen?_alloc_past ob b o h.lt
@[go_sem] theorem blk_set_ext (u w x : World) (b o o' : Nat) (v : Value) [h : BlkLt b (ext w x)] : (u.setCell ⟨(ext w x).heap.size, o', none⟩ v).cell? ⟨b, o, none⟩ = u.cell? ⟨b, o, none⟩ :=
  World.cell?_setCell_other _ _ _ _ (by have := h.lt; intro e; injection e with e1; omega)
@[go_sem] theorem blk_set_ext' (u w x : World) (b o o' : Nat) (v : Value) [h : BlkLt b (ext w x)] : (u.setCell ⟨b, o', none⟩ v).cell? ⟨(ext w x).heap.size, o, none⟩ = u.cell? ⟨(ext w x).heap.size, o, none⟩ :=
  World.cell?_setCell_other _ _ _ _ (by have := h.lt; intro e; injection e with e1; omega)
@[go_sem] theorem set_frozen (w : World) (a : Addr) (v : Value) (p : Addr) : (w.setCell a v).frozen? p = w.frozen? p := World.frozen?_setCell w a p v

theorem ext_of {w x : World} (h : Below w.heap.size w x) : ∃ y, x = ext w y := ⟨x, (ext_eq h).symm⟩

theorem ex_ext {w W : World} {p : Prop} (h : Below w.heap.size w W) (hp : p) : ∃ x, W = ext w x ∧ p := ⟨W, (ext_eq h).symm, hp⟩
theorem B_ext {w w' : World} (h : Below w.heap.size w w') (x : World) : Below w.heap.size w (ext w' x) := h.trans ((ext_below w' x).mono h.size)
theorem B_alloc {w w' : World} (h : Below w.heap.size w w') (o : Obj) : Below w.heap.size w (w'.alloc o) := h.alloc h.size o
theorem B_setCell {w w' : World} (h : Below w.heap.size w w') {p : Addr} (hp : w.heap.size ≤ p.block) (u : Value) : Below w.heap.size w (w'.setCell p u) := h.setCell hp u

/-- n ≤ m, found by instances. -/
class SzLe (n m : Nat) : Prop where
  le : n ≤ m
instance szRefl (n : Nat) : SzLe n n := ⟨Nat.le_refl _⟩
instance szAdd (n m k : Nat) [h : SzLe n m] : SzLe n (m + k) := ⟨Nat.le_trans h.le (Nat.le_add_right _ _)⟩
instance szExt (n : Nat) (w x : World) [h : SzLe n w.heap.size] : SzLe n (ext w x).heap.size := ⟨Nat.le_trans h.le (ext_size w x)⟩
instance szAlloc (n : Nat) (w : World) (o : Obj) [h : SzLe n w.heap.size] : SzLe n (w.alloc o).heap.size := ⟨Nat.le_trans h.le (by simp)⟩
instance szSet (n : Nat) (w : World) (a : Addr) (v : Value) [h : SzLe n w.heap.size] : SzLe n (w.setCell a v).heap.size := ⟨Nat.le_trans h.le (by simp [World.setCell])⟩
theorem B_set {w w' : World} (h : Below w.heap.size w w') (b o : Nat) (u : Value) [hp : SzLe w.heap.size b] : Below w.heap.size w (w'.setCell ⟨b, o, none⟩ u) := h.setCell hp.le u

/-- The post of a function that hands back v and changes nothing that was there. -/
def Ret (v : Value) (w : World) (e : Ending) (w' : World) : Prop := e = .returned v ∧ Below w.heap.size w w'

theorem Ret.ext {v : Value} {w : World} {e : Ending} {w' : World} (h : Ret v w e w') : e = .returned v ∧ ∃ x, w' = ext w x :=
  ⟨h.1, w', (ext_eq h.2).symm⟩
theorem Ret.ext2 {v : Value} {w x : World} {e : Ending} {w' : World} (h : Ret v (Go.Proofs.Ytmnedpfilckilaa.ext w x) e w') : e = .returned v ∧ ∃ y, w' = Go.Proofs.Ytmnedpfilckilaa.ext w y :=
  ⟨h.1, w', (ext_eq ((ext_below w x).trans (h.2.mono (ext_size w x)))).symm⟩
theorem Ret.of {v v' : Value} {w : World} {w' : World} (h : v = v') (hb : Below w.heap.size w w') : Ret v' w (.returned v) w' := ⟨by rw [h], hb⟩

theorem quiet_of_ret {P : Program} {f : FuncId} {args : Array Value} {w x : World} {v : Value}
    (h : Calls P f args (ext w x) (Ret v (ext w x))) : Calls P f args (ext w x) fun e w'' => e = .returned v ∧ ∃ y, w'' = ext w y :=
  h.mono fun e w'' ⟨he, hb⟩ => ⟨he, w'', by
    rw [ext_eq]
    exact (ext_below w x).trans (hb.mono (ext_size w x))⟩

theorem wp_region_ext {P : Program} {id : Nat} {Q : Exit → Act → World → Prop} {a : Act} {w : World} {l : List Oper}
    (hm : P.follows .mixedOrders = true) (hB : Region.lexB .any l.toArray = true)
    (h : wpQuiet P l.toArray (fun w' => ∃ x, w' = ext w x) (fun a' => ∀ x, Q .normal a' (ext w x)) l a) : (Code.region id l.toArray true).wp P Q a w :=
  wp_region_quiet (C := fun w' => ∃ x, w' = ext w x) hm hB ⟨_, (ext_eq ((Below.refl _ w).drew)).symm⟩
    (by
      have e : (fun a' => ∀ w', (∃ x, w' = ext w x) → Q .normal a' w') = (fun a' => ∀ x, Q .normal a' (ext w x)) := by
        funext a'
        exact propext ⟨fun h x => h _ ⟨x, rfl⟩, fun h w' ⟨x, hx⟩ => hx ▸ h x⟩
      rw [e]
      simpa using h)

/-- The same where the world at hand is one that extends w. -/
theorem wp_region_ext2 {P : Program} {id : Nat} {Q : Exit → Act → World → Prop} {a : Act} {w z : World} {l : List Oper}
    (hm : P.follows .mixedOrders = true) (hB : Region.lexB .any l.toArray = true)
    (h : wpQuiet P l.toArray (fun w' => ∃ x, w' = ext w x) (fun a' => ∀ x, Q .normal a' (ext w x)) l a) : (Code.region id l.toArray true).wp P Q a (ext w z) :=
  wp_region_quiet (C := fun w' => ∃ x, w' = ext w x) hm hB ⟨_, (ext_eq ((ext_below w z).drew)).symm⟩
    (by
      have e : (fun a' => ∀ w', (∃ x, w' = ext w x) → Q .normal a' w') = (fun a' => ∀ x, Q .normal a' (ext w x)) := by
        funext a'
        exact propext ⟨fun h x => h _ ⟨x, rfl⟩, fun h w' ⟨x, hx⟩ => hx ▸ h x⟩
      rw [e]
      simpa using h)

/-- A slice value that reads as the values xs, one cell each. -/
def Sl (w : World) (v : Value) (xs : List Value) : Prop :=
  ∃ a c, v = .slice a xs.length c ∧ xs.length ≤ c ∧ c ≤ maxLen ∧
    (0 < xs.length → ∃ b off, a = some ⟨b, off, none⟩ ∧ b < w.heap.size ∧ ∀ i (h : i < xs.length), w.cell? ⟨b, off + i, none⟩ = some xs[i])
theorem Sl.below {w w' : World} {v : Value} {xs : List Value} (h : Sl w v xs) (hb : Below w.heap.size w w') : Sl w' v xs := by
  obtain ⟨a, c, h0, h1, h2, h3⟩ := h
  refine ⟨a, c, h0, h1, h2, fun hl => ?_⟩
  obtain ⟨b, off, hv, hlt, hc⟩ := h3 hl
  exact ⟨b, off, hv, Nat.lt_of_lt_of_le hlt hb.size, fun i hi => by rw [hb.cell (p := ⟨b, off + i, none⟩) hlt]; exact hc i hi⟩
theorem Sl.ext {w : World} {v : Value} {xs : List Value} (h : Sl w v xs) (x : World) : Sl (ext w x) v xs := h.below (ext_below w x)
theorem Sl.alloc {w : World} {v : Value} {xs : List Value} (h : Sl w v xs) (o : Obj) : Sl (w.alloc o) v xs := h.below ((Below.refl _ w).alloc (Nat.le_refl _) o)
/-- A slice of numbers. -/
def Ints (w : World) (v : Value) (hs : List Int) : Prop := Sl w v (hs.map (Value.int .i64))
theorem Ints.below {w w' : World} {v : Value} {xs : List Int} (h : Ints w v xs) (hb : Below w.heap.size w w') : Ints w' v xs := Sl.below h hb
theorem Ints.ext {w : World} {v : Value} {xs : List Int} (h : Ints w v xs) (x : World) : Ints (ext w x) v xs := Sl.ext h x
theorem Ints.alloc {w : World} {v : Value} {xs : List Int} (h : Ints w v xs) (o : Obj) : Ints (w.alloc o) v xs := Sl.alloc h o
theorem Sl.opn {w : World} {v : Value} {xs : List Value} (h : Sl w v xs) :
    ∃ a c, v = .slice a xs.length c ∧ xs.length ≤ c ∧ c ≤ 9223372036854775807 ∧
     (0 < xs.length → ∃ b off, a = some ⟨b, off, none⟩ ∧ b < w.heap.size ∧ ∀ i (h : i < xs.length), w.cell? ⟨b, off + i, none⟩ = some xs[i]) := by
  obtain ⟨a, c, h0, h1, h2, h3⟩ := h
  unfold maxLen at h2
  exact ⟨a, c, h0, h1, by omega, h3⟩
theorem Ints.opn {w : World} {v : Value} {hs : List Int} (h : Ints w v hs) :
    ∃ a c, v = .slice a hs.length c ∧ hs.length ≤ c ∧ c ≤ 9223372036854775807 ∧
     (0 < hs.length → ∃ b off, a = some ⟨b, off, none⟩ ∧ b < w.heap.size ∧ ∀ i (h : i < hs.length), w.cell? ⟨b, off + i, none⟩ = some (.int .i64 hs[i])) := by
  have h := Sl.opn h
  simp only [List.length_map, List.getElem_map] at h
  exact h

theorem Sl_new (w : World) (xs : List Value) (t : TypeId) (h : xs.length ≤ maxLen) : Sl (w.alloc (.cells xs.toArray t)) (.slice (some ⟨w.heap.size, 0, none⟩) xs.length xs.length) xs :=
  ⟨_, xs.length, rfl, Nat.le_refl _, h, fun _ => ⟨w.heap.size, 0, rfl, by simp, fun i hi => by
    rw [World.cell?_alloc_at _ _ _ _ rfl]
    simp [hi]⟩⟩

end Go.Proofs.Ytmnedpfilckilaa
