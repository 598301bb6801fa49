/- Numbers as text, as plain mathematics: bytes in lists. No program is named here. -/
import Derived.Test.YtflpiekacionaaaDoorLib
import Derived.Lib.ItoaNum
import Derived.Lib.Repeat
import Derived.Lib.LaidTab
import Derived.Sort.Grow
set_option linter.unusedSimpArgs false
set_option linter.unusedVariables false
namespace Go.Proofs.YtflpiekacionaaaDoor
open Go.RowKit

/-- a string value, by its bytes -/
abbrev bs (l : List UInt8) : Value := .string ⟨l.toArray⟩
theorem bs_eq (s : ByteArray) : Value.string s = bs s.data.toList := rfl
/-- the length of a string value -/
def strLen : Value → Nat
  | .string s => s.size
  | _ => 0
/-- l with zeros ahead, to length n at least -/
def padL (n : Nat) (l : List UInt8) : List UInt8 := List.replicate (n - l.length) 48 ++ l

theorem Below_grow (w : World) (k : Nat) (os : Array Obj) : Below w.heap.size w (Sort.grow (w.drewN k) os) :=
  ⟨rfl, rfl, rfl, by simp [Sort.grow], fun i hi => by
    show (w.heap ++ os)[i]? = _
    rw [Array.getElem?_append_left hi]⟩

theorem decDigits_len : ∀ (k u : Nat), u < 10 ^ (k + 1) → 1 ≤ (Lib.decDigits u).length ∧ (Lib.decDigits u).length ≤ k + 1
  | 0, u, h => by rw [Lib.decDigits, dif_pos (by simpa using h)]; simp
  | k + 1, u, h => by
    rw [Lib.decDigits]
    split
    · simp
    · have := decDigits_len k (u / 10) (by rw [Nat.pow_succ] at h; omega)
      simp only [List.length_append, List.length_singleton]; omega
theorem itoa_len {n : Int} (h0 : -9223372036854775808 ≤ n) (h1 : n ≤ 9223372036854775807) : 1 ≤ (Lib.itoa n).length ∧ (Lib.itoa n).length ≤ 20 := by
  unfold Lib.itoa
  split
  · have := decDigits_len 18 n.natAbs (by omega)
    simp only [List.length_cons]; omega
  · have := decDigits_len 18 n.toNat (by omega)
    omega
theorem repeat_zero (c : Nat) : Lib.repeatL [48] c = List.replicate c 48 := by
  induction c with
  | zero => rfl
  | succ c ih => simp [Lib.repeatL, ih, List.replicate_succ]

theorem ba_append (a b : List UInt8) : (⟨a.toArray⟩ : ByteArray) ++ ⟨b.toArray⟩ = ⟨(a ++ b).toArray⟩ := by
  apply ByteArray.ext
  simp [ByteArray.data_append]
theorem padL_len (n : Nat) (l : List UInt8) : (padL n l).length = max n l.length := by
  simp [padL]; omega

def dgB (b : UInt8) : Bool := decide (48 ≤ b.toNat ∧ b.toNat ≤ 57)
/-- all are digits; their number -/
def numB (l : List UInt8) : Bool := l.all dgB
def numV (l : List UInt8) : Int := l.foldl (fun n b => 10 * n + ((b.toNat : Int) - 48)) 0
theorem numV_snoc (l : List UInt8) (b : UInt8) : numV (l ++ [b]) = 10 * numV l + ((b.toNat : Int) - 48) := by simp [numV]
theorem numV_bd : ∀ (k : Nat) (l : List UInt8), l.length = k → numB l = true → 0 ≤ numV l ∧ numV l < 10 ^ k
  | 0, l, h, _ => by
    obtain rfl : l = [] := List.length_eq_zero_iff.1 h
    simp [numV]
  | k + 1, l, h, hb => by
    obtain ⟨m, b, rfl⟩ : ∃ m b, l = m ++ [b] := ⟨l.dropLast, l.getLast (by intro e; simp [e] at h), (List.dropLast_concat_getLast _).symm⟩
    simp only [List.length_append, List.length_singleton, Nat.add_right_cancel_iff] at h
    simp only [numB, List.all_append, List.all_cons, List.all_nil, Bool.and_true, Bool.and_eq_true, dgB, decide_eq_true_eq] at hb
    have := numV_bd k m h (by simpa [numB] using hb.1)
    rw [numV_snoc, Int.pow_succ]
    omega

theorem take_next {s : ByteArray} {k : Nat} (h : k < s.size) : s.data.toList.take (k + 1) = s.data.toList.take k ++ [s[k]] := by
  have h' : k < s.data.toList.length := by simpa using h
  rw [List.take_succ_eq_append_getElem h']
  rfl
theorem numB_next {s : ByteArray} {k : Nat} (h : k < s.size) : numB (s.data.toList.take (k + 1)) = (numB (s.data.toList.take k) && dgB s[k]) := by
  rw [take_next h]; simp [numB]
theorem numV_next {s : ByteArray} {k : Nat} (h : k < s.size) : numV (s.data.toList.take (k + 1)) = 10 * numV (s.data.toList.take k) + ((s[k].toNat : Int) - 48) := by
  rw [take_next h, numV_snoc]
theorem numB_bad {s : ByteArray} {k : Nat} (h : k < s.size) (hb : dgB s[k] = false) : numB s.data.toList = false := by
  have h' : k < s.data.toList.length := by simpa using h
  unfold numB
  rw [List.all_eq_false]
  exact ⟨s[k], by have := List.getElem_mem h'; exact this, by simp [hb]⟩
theorem take_all (s : ByteArray) : s.data.toList.take s.size = s.data.toList := List.take_of_length_le (by simp)
theorem numV_take {s : ByteArray} {k : Nat} (hs : s.size ≤ 18) (h : k < s.size) (hb : numB (s.data.toList.take k) = true) : 0 ≤ numV (s.data.toList.take k) ∧ numV (s.data.toList.take k) < 100000000000000000 := by
  have hl : (s.data.toList.take k).length = k := by simp; omega
  have := numV_bd k _ hl hb
  have h2 : (10 : Int) ^ k ≤ 10 ^ 17 := by exact_mod_cast Nat.pow_le_pow_right (by decide) (by omega)
  omega

/-- the same of a string -/
def nB (s : ByteArray) : Bool := numB s.data.toList
def nV (s : ByteArray) : Int := numV s.data.toList
def nI (s : ByteArray) : Int := if nB s then nV s else 0
def dI (s : ByteArray) : Int := if nB s then nV s else -1
/-- byte i of a string -/
def bt (s : ByteArray) (i : Nat) : Int := ((s.data.toList.getD i 0).toNat : Int)
theorem bt_eq {s : ByteArray} {i : Nat} (h : i < s.size) : bt s i = (s[i].toNat : Int) := by
  have h' : i < s.data.toList.length := by simpa using h
  unfold bt
  rw [List.getD_eq_getElem?_getD, List.getElem?_eq_getElem h']
  rfl
theorem nV_bd {s : ByteArray} (k : Nat) (h : s.size = k) (hb : nB s = true) : 0 ≤ nV s ∧ nV s < 10 ^ k := numV_bd k _ (by rw [← h]; rfl) hb

theorem numV_app : ∀ (b a : List UInt8), numV (a ++ b) = numV a * 10 ^ b.length + numV b
  | [], a => by simp [numV]
  | c :: b, a => by
    have h1 := numV_app b (a ++ [c])
    have h2 := numV_app b [c]
    rw [List.append_assoc, List.singleton_append] at h1
    rw [List.singleton_append] at h2
    have h3 : numV [c] = (c.toNat : Int) - 48 := by simp [numV]
    rw [h1, h2, h3, numV_snoc, List.length_cons, Int.pow_succ]
    generalize (10 : Int) ^ b.length = p
    generalize (c.toNat : Int) - 48 = q
    generalize numV a = x
    rw [Int.add_mul, Int.mul_comm p 10, ← Int.mul_assoc, Int.mul_comm x 10, Int.add_assoc]
/-- the first k bytes but the fifth -/
def dl (s : ByteArray) (k : Nat) : List UInt8 := s.data.toList.take (min k 4) ++ (s.data.toList.take k).drop 5
theorem dl_4 (s : ByteArray) : dl s 5 = dl s 4 := by
  unfold dl
  rw [List.drop_eq_nil_of_le (by simp; omega), List.drop_eq_nil_of_le (by simp; omega)]
  rfl
theorem dl_next {s : ByteArray} {k : Nat} (h : k < s.size) (h4 : k ≠ 4) : dl s (k + 1) = dl s k ++ [s[k]] := by
  unfold dl
  by_cases h5 : k < 4
  · rw [show min (k + 1) 4 = k + 1 by omega, show min k 4 = k by omega, take_next h]
    rw [List.drop_eq_nil_of_le (by simp; omega), List.drop_eq_nil_of_le (by simp; omega)]
    simp
  · rw [show min (k + 1) 4 = 4 by omega, show min k 4 = 4 by omega, take_next h, List.append_assoc]
    rw [List.drop_append_of_le_length (by simp; omega)]
theorem dl_7 {s : ByteArray} (h : s.size = 7) : numB (dl s 7) = (nB (s.extract 0 4) && nB (s.extract 5 7)) ∧ numV (dl s 7) = nV (s.extract 0 4) * 100 + nV (s.extract 5 7) := by
  have e : dl s 7 = (s.extract 0 4).data.toList ++ (s.extract 5 7).data.toList := by
    unfold dl; simp
    rw [List.drop_take]
  rw [e]
  refine ⟨by simp only [numB, nB, List.all_append], ?_⟩
  rw [numV_app]
  have hl : (s.extract 5 7).data.toList.length = 2 := by
    have : (s.extract 5 7).size = 2 := by simp; omega
    exact this
  rw [hl]
  rfl
theorem dl_len {s : ByteArray} {k : Nat} (h : s.size = 7) (hk : k ≤ 7) : (dl s k).length ≤ 6 := by
  unfold dl
  have : s.data.toList.length = 7 := by simpa using h
  simp only [List.length_append, List.length_take, List.length_drop]
  omega
theorem dl_bd {s : ByteArray} {k : Nat} (h : s.size = 7) (hk : k ≤ 7) (hb : numB (dl s k) = true) : 0 ≤ numV (dl s k) ∧ numV (dl s k) < 1000000 := by
  have h1 := numV_bd _ (dl s k) rfl hb
  have h2 : (10 : Int) ^ (dl s k).length ≤ 10 ^ 6 := by exact_mod_cast Nat.pow_le_pow_right (by decide) (dl_len h hk)
  omega
theorem dl_bad {s : ByteArray} {k : Nat} (h : s.size = 7) (hk : k < 7) (h4 : k ≠ 4) (hb : dgB (s[k]'(by omega)) = false) : (nB (s.extract 0 4) && nB (s.extract 5 7)) = false := by
  rw [← (dl_7 h).1]
  have key : ∀ j, k < j → j ≤ 7 → numB (dl s j) = false := by
    intro j
    induction j with
    | zero => omega
    | succ j ih =>
      intro h1 h2
      by_cases e : j = 4
      · subst e; rw [dl_4]; exact ih (by omega) (by omega)
      · rw [dl_next (by omega) e]
        by_cases e2 : j = k
        · subst e2; simp [numB, hb]
        · have := ih (by omega) (by omega)
          simp only [numB, List.all_append] at this ⊢
          rw [this]; rfl
  exact key 7 (by omega) (by omega)

end Go.Proofs.YtflpiekacionaaaDoor
