/- Notices for payments, and the laws of package notice, plainly. -/
import Derived.Test.YtaapljpfhgahbaaDoorNotD
set_option linter.unusedSimpArgs false
set_option linter.unusedVariables false
namespace Go.Proofs.YtaapljpfhgahbaaDoor
open Go.RowKit

abbrev Po := Int × Int × Int × Int
def poPV (p : Po) : PV := .agg [.int .i64 p.1, .int .i64 p.2.1, .int .i64 p.2.2.1, .int .i64 p.2.2.2]
section
variable {ρ : Type}
theorem onInt_ok {i : IntKind} {n : Int} {k : Int → Option ρ} : onInt i (.int i n) k = k n := by simp [onInt, aGd]
theorem onCons_ok {α : Type} {x : α} {l : List α} {k : α → List α → Option ρ} : onCons (x :: l) k = k x l := rfl
theorem onNil_ok {α : Type} {k : Option ρ} : onNil ([] : List α) k = k := rfl
end
def cashF (a : Int) (p : Po) : Int := if p.2.2.1 = 1 then IntKind.i64.wrap (a + p.2.2.2) else if p.2.2.1 = 2 then IntKind.i64.wrap (a - p.2.2.2) else a
theorem L49_v {N : Nat} {L : List Po} (hL : L.length ≤ 1000000) : ∀ (q n p : Nat) (a : Int), L.length - p = q → p ≤ L.length → q < n → L49_3 N n a (L.map poPV) (L.length : Int) (p : Int) = some ((L.drop p).foldl cashF a) := by
  intro q
  induction q with
  | zero =>
    intro n p a hq hp hn
    obtain ⟨n, rfl⟩ : ∃ m, n = m + 1 := ⟨n - 1, by omega⟩
    rw [L49_3_eq, aIf_if, if_neg (by simp; omega), List.drop_eq_nil_of_le (by omega)]; rfl
  | succ q ih =>
    intro n p a hq hp hn
    obtain ⟨n, rfl⟩ : ∃ m, n = m + 1 := ⟨n - 1, by omega⟩
    have hlt : p < L.length := by omega
    rw [L49_3_eq, aIf_if, if_pos (by simp; omega), onGet_nat (by simpa using hlt), w64 (x := (p : Int) + 1) (by omega) (by omega)]
    simp only [List.getElem_map, poPV, PV.cells, List.drop_zero, List.take_succ_cons, List.take_zero, onCons_ok, onInt_ok, onNil_ok, aGd_if, aIf_if, beq_iff_eq]
    rw [if_pos (by simp), List.drop_eq_getElem_cons hlt, List.foldl_cons, show (p : Int) + 1 = ((p + 1 : Nat) : Int) by omega]
    have e : ∀ a, L49_3 N n a (L.map poPV) (L.length : Int) ((p + 1 : Nat) : Int) = some ((L.drop (p + 1)).foldl cashF a) := fun a => ih n (p + 1) a (by omega) (by omega) (by omega)
    simp only [cashF]
    by_cases h1 : L[p].2.2.1 = 1
    · rw [if_pos h1, if_pos h1, e]
    · rw [if_neg h1, if_neg h1]
      by_cases h2 : L[p].2.2.1 = 2
      · rw [if_pos h2, if_pos h2, e]
      · rw [if_neg h2, if_neg h2, e]
theorem F49_v {N : Nat} {L : List Po} (hL : L.length ≤ 1000000) (hN : L.length < N) : F49 N (L.map poPV) = some (L.foldl cashF 0) := by
  rw [F49_eq]
  have := L49_v (N := N) hL L.length N 0 0 (by omega) (by omega) hN
  simpa using this
theorem L50_v {N : Nat} {L : List Po} (hL : L.length ≤ 1000000) : ∀ (q n p : Nat) (a : Int), L.length - p = q → p ≤ L.length → q < n → L50_3 N n (L.map poPV) a (p : Int) = some ((L.drop p).foldl cashF a) := by
  intro q
  induction q with
  | zero =>
    intro n p a hq hp hn
    obtain ⟨n, rfl⟩ : ∃ m, n = m + 1 := ⟨n - 1, by omega⟩
    rw [L50_3_eq, aIf_if, if_neg (by simp; omega), List.drop_eq_nil_of_le (by omega)]; rfl
  | succ q ih =>
    intro n p a hq hp hn
    obtain ⟨n, rfl⟩ : ∃ m, n = m + 1 := ⟨n - 1, by omega⟩
    have hlt : p < L.length := by omega
    have hg : ∀ {k : PV → Option Int}, onGet (L.map poPV) (p : Int) k = k (poPV L[p]) := fun {k} => by rw [onGet_nat (by simpa using hlt)]; simp only [List.getElem_map]
    rw [L50_3_eq, aIf_if, if_pos (by simp; omega), w64 (x := (p : Int) + 1) (by omega) (by omega)]
    have c2 : (poPV L[p]).cells[2]? = some (.int .i64 L[p].2.2.1) := rfl
    have c3 : (poPV L[p]).cells[3]? = some (.int .i64 L[p].2.2.2) := rfl
    simp only [hg, c2, c3, onSome_ok, onInt_ok, aIf_if, beq_iff_eq]
    rw [List.drop_eq_getElem_cons hlt, List.foldl_cons, show (p : Int) + 1 = ((p + 1 : Nat) : Int) by omega]
    have e : ∀ a, L50_3 N n (L.map poPV) a ((p + 1 : Nat) : Int) = some ((L.drop (p + 1)).foldl cashF a) := fun a => ih n (p + 1) a (by omega) (by omega) (by omega)
    simp only [cashF]
    by_cases h1 : L[p].2.2.1 = 1
    · rw [if_pos h1, if_pos h1, if_neg (by omega), e]
    · rw [if_neg h1, if_neg h1]
      by_cases h2 : L[p].2.2.1 = 2
      · rw [if_pos h2, if_pos h2, e]
      · rw [if_neg h2, if_neg h2, e]
theorem F50_v {N : Nat} {L : List Po} (hL : L.length ≤ 1000000) (hN : L.length < N) : F50 N (L.map poPV) = some (L.foldl cashF 0) := by
  rw [F50_eq]
  have := L50_v (N := N) hL L.length N 0 0 (by omega) (by omega) hN
  simpa using this
/-- Sum of the payments, their number, number of the recoveries. -/
def forF (a : Int × Int × Int) (p : Po) : Int × Int × Int :=
  if p.2.2.1 = 1 then (IntKind.i64.wrap (a.1 + p.2.2.2), IntKind.i64.wrap (a.2.1 + 1), a.2.2) else if p.2.2.1 = 2 then (a.1, a.2.1, IntKind.i64.wrap (a.2.2 + 1)) else a
def kindR (due : Int) (a : Int × Int × Int) : Int := if a.2.1 = 0 then 4 else if 0 < a.2.2 then 3 else if due < a.1 then 1 else 2
def forP (h m due : Int) (L : List Po) : Ntc × Int := if (idR h m).2 ≠ 0 then ((0, 0, 0, 0, 0), (idR h m).2) else (((idR h m).1, h, m, kindR due (L.foldl forF (0, 0, 0)), L.foldl cashF 0), 0)
theorem L32_v {N : Nat} {L : List Po} (hL : L.length ≤ 1000000) (hN : L.length < N) {h m due id d1 d2 d3 d4 d5 : Int} : ∀ (q n p : Nat) (a : Int × Int × Int), L.length - p = q → p ≤ L.length → q < n →
    L32_6 N n h m due (L.map poPV) id a.1 a.2.1 a.2.2 (L.map poPV) (L.length : Int) (p : Int) d1 d2 d3 d4 d5 = some ((id, h, m, kindR due ((L.drop p).foldl forF a), L.foldl cashF 0), 0) := by
  intro q
  induction q generalizing d1 d2 d3 d4 d5 with
  | zero =>
    intro n p a hq hp hn
    obtain ⟨n, rfl⟩ : ∃ m, n = m + 1 := ⟨n - 1, by omega⟩
    rw [L32_6_eq, aIf_if, if_neg (by simp; omega), List.drop_eq_nil_of_le (by omega), List.foldl_nil, F49_v hL hN, onSome_ok]
    simp only [aGd_if, aIf_if, beq_iff_eq, decide_eq_true_eq, kindR]
    rw [if_pos (by simp)]
    by_cases h1 : a.2.1 = 0
    · rw [if_pos h1, if_pos h1]; simp
    rw [if_neg h1, if_neg h1]
    by_cases h2 : 0 < a.2.2
    · rw [if_pos h2, if_pos h2]; simp
    rw [if_neg h2, if_neg h2]
    by_cases h3 : due < a.1
    · rw [if_pos h3, if_pos h3]; simp
    · rw [if_neg h3, if_neg h3]; simp
  | succ q ih =>
    intro n p a hq hp hn
    obtain ⟨n, rfl⟩ : ∃ m, n = m + 1 := ⟨n - 1, by omega⟩
    have hlt : p < L.length := by omega
    rw [L32_6_eq, aIf_if, if_pos (by simp; omega), onGet_nat (by simpa using hlt), w64 (x := (p : Int) + 1) (by omega) (by omega)]
    have e : ∀ a : Int × Int × Int, L32_6 N n h m due (L.map poPV) id a.1 a.2.1 a.2.2 (L.map poPV) (L.length : Int) ((p + 1 : Nat) : Int) d1 d2 d3 d4 d5 = some ((id, h, m, kindR due ((L.drop (p + 1)).foldl forF a), L.foldl cashF 0), 0) := fun a => ih n (p + 1) a (by omega) (by omega) (by omega)
    simp only [List.getElem_map]
    have hc : (poPV L[p]).cells = [.int .i64 L[p].1, .int .i64 L[p].2.1, .int .i64 L[p].2.2.1, .int .i64 L[p].2.2.2] := rfl
    simp only [hc, List.drop_zero, List.take_succ_cons, List.take_zero, onCons_ok, onInt_ok, onNil_ok, aGd_if, aIf_if, beq_iff_eq]
    rw [if_pos (by simp), List.drop_eq_getElem_cons hlt, List.foldl_cons, show (p : Int) + 1 = ((p + 1 : Nat) : Int) by omega]
    by_cases h1 : L[p].2.2.1 = 1
    · rw [if_pos h1, show forF a L[p] = (IntKind.i64.wrap (a.1 + L[p].2.2.2), IntKind.i64.wrap (a.2.1 + 1), a.2.2) by unfold forF; rw [if_pos h1]]
      exact e (IntKind.i64.wrap (a.1 + L[p].2.2.2), IntKind.i64.wrap (a.2.1 + 1), a.2.2)
    · rw [if_neg h1]
      by_cases h2 : L[p].2.2.1 = 2
      · rw [if_pos h2, show forF a L[p] = (a.1, a.2.1, IntKind.i64.wrap (a.2.2 + 1)) by unfold forF; rw [if_neg h1, if_pos h2]]
        exact e (a.1, a.2.1, IntKind.i64.wrap (a.2.2 + 1))
      · rw [if_neg h2, show forF a L[p] = a by unfold forF; rw [if_neg h1, if_neg h2]]
        exact e a
theorem F32_v {N : Nat} {L : List Po} (hL : L.length ≤ 1000000) (hN : L.length < N) {h m due : Int} : F32 N (h, m, due, L.map poPV) = some (forP h m due L) := by
  rw [F32_eq, F29_v, onSome_ok, aIf_if, forP]
  by_cases he : (idR h m).2 = 0
  rotate_left
  · rw [if_pos (by simpa using he), if_pos he, aGd_if, if_pos (by simp)]
  rw [if_neg (by simp [he]), if_neg (by simp [he])]
  have := L32_v (N := N) hL hN (h := h) (m := m) (due := due) (id := (idR h m).1) (d1 := 0) (d2 := 0) (d3 := 0) (d4 := 0) (d5 := 0) L.length N 0 (0, 0, 0) (by omega) (by omega) hN
  simp only [List.drop_zero] at this
  rw [List.length_map]
  exact this
theorem L33_v {N : Nat} {L : List Po} (hL : L.length ≤ 1000000) {h m due id cs d1 d2 d3 d4 d5 : Int} : ∀ (q n p : Nat) (a : Int × Int × Int), L.length - p = q → p ≤ L.length → q < n →
    L33_7 N n due (L.map poPV) a.2.1 a.2.2 a.1 (p : Int) d1 d2 d3 d4 d5 id h m 2 cs = some ((id, h, m, kindR due ((L.drop p).foldl forF a), cs), 0) := by
  intro q
  induction q generalizing d1 d2 d3 d4 d5 with
  | zero =>
    intro n p a hq hp hn
    obtain ⟨n, rfl⟩ : ∃ m, n = m + 1 := ⟨n - 1, by omega⟩
    rw [L33_7_eq, aIf_if, if_neg (by simp; omega), List.drop_eq_nil_of_le (by omega), List.foldl_nil]
    simp only [aGd_if, aIf_if, beq_iff_eq, decide_eq_true_eq, kindR]
    by_cases h1 : a.2.1 = 0 <;> by_cases h2 : 0 < a.2.2 <;> by_cases h3 : due < a.1 <;> simp [h1, h2, h3]
  | succ q ih =>
    intro n p a hq hp hn
    obtain ⟨n, rfl⟩ : ∃ m, n = m + 1 := ⟨n - 1, by omega⟩
    have hlt : p < L.length := by omega
    have hg : ∀ {k : PV → Option (Ntc × Int)}, onGet (L.map poPV) (p : Int) k = k (poPV L[p]) := fun {k} => by rw [onGet_nat (by simpa using hlt)]; simp only [List.getElem_map]
    have e : ∀ a : Int × Int × Int, L33_7 N n due (L.map poPV) a.2.1 a.2.2 a.1 ((p + 1 : Nat) : Int) d1 d2 d3 d4 d5 id h m 2 cs = some ((id, h, m, kindR due ((L.drop (p + 1)).foldl forF a), cs), 0) := fun a => ih n (p + 1) a (by omega) (by omega) (by omega)
    rw [L33_7_eq, aIf_if, if_pos (by simp; omega), w64 (x := (p : Int) + 1) (by omega) (by omega)]
    have c2 : (poPV L[p]).cells[2]? = some (.int .i64 L[p].2.2.1) := rfl
    have c3 : (poPV L[p]).cells[3]? = some (.int .i64 L[p].2.2.2) := rfl
    simp only [hg, c2, c3, onSome_ok, onInt_ok, aIf_if, beq_iff_eq]
    rw [List.drop_eq_getElem_cons hlt, List.foldl_cons, show (p : Int) + 1 = ((p + 1 : Nat) : Int) by omega]
    by_cases h1 : L[p].2.2.1 = 1
    · rw [if_pos h1, if_neg (by omega), show forF a L[p] = (IntKind.i64.wrap (a.1 + L[p].2.2.2), IntKind.i64.wrap (a.2.1 + 1), a.2.2) by unfold forF; rw [if_pos h1]]
      exact e (IntKind.i64.wrap (a.1 + L[p].2.2.2), IntKind.i64.wrap (a.2.1 + 1), a.2.2)
    · rw [if_neg h1]
      by_cases h2 : L[p].2.2.1 = 2
      · rw [if_pos h2, show forF a L[p] = (a.1, a.2.1, IntKind.i64.wrap (a.2.2 + 1)) by unfold forF; rw [if_neg h1, if_pos h2]]
        exact e (a.1, a.2.1, IntKind.i64.wrap (a.2.2 + 1))
      · rw [if_neg h2, show forF a L[p] = a by unfold forF; rw [if_neg h1, if_neg h2]]
        exact e a
theorem F33_v {N : Nat} {L : List Po} (hL : L.length ≤ 1000000) (hN : L.length < N) {h m due : Int} : F33 N (h, m, due, L.map poPV) = some (forP h m due L) := by
  rw [F33_eq, F30_v, onSome_ok, aIf_if, forP]
  by_cases he : (idR h m).2 = 0
  rotate_left
  · rw [if_pos (by simpa using he), if_pos he, aGd_if, if_pos (by simp)]
  rw [if_neg (by simp [he]), if_neg (by simp [he]), F50_v hL hN, onSome_ok, aGd_if, if_pos (by simp)]
  have := L33_v (N := N) hL (h := h) (m := m) (due := due) (id := (idR h m).1) (cs := L.foldl cashF 0) (d1 := 0) (d2 := 0) (d3 := 0) (d4 := 0) (d5 := 0) L.length N 0 (0, 0, 0) (by omega) (by omega) hN
  simp only [List.drop_zero] at this
  exact this

/-! ## The laws -/
theorem awake45_ok : F31 200 () = some true := by kernel_rfl
theorem aw45 : (onSome (F31 200 PUnit.unit) fun y => some y) = some true := by rw [show F31 200 PUnit.unit = some true from awake45_ok]; rfl
theorem F9_true (h m : Int) : F9 400 (h, m) = some true := by
  rw [F9_eq, F29_v, onSome_ok, F30_v, onSome_ok, aw45]
  simp [aIf_if]
theorem F11_true (n : Ntc) : F11 400 n = some true := by
  obtain ⟨a, h, m, k, c⟩ := n
  rw [F11_eq, F34_v, onSome_ok, F35_v (by decide), onSome_ok, aw45]
  simp [aIf_if]
theorem F12_true (s : List UInt8) : F12 400 s = some true := by
  rw [F12_eq, aIf_if, aw45]
  by_cases hs : s.length ≤ 300
  rotate_left
  · rw [if_pos (by simp; omega)]
  rw [if_neg (by simp; omega), F36_v (by omega) (by decide) (by omega), onSome_ok, F37_v (by omega) (by decide) (by omega), onSome_ok, ← par_same]
  simp only [aGd_if, aIf_if]
  rw [if_pos (by simp), if_pos (by simp), if_neg (by simp), if_neg (by simp)]
  rcases parN_cases s with h | ⟨n, h, hv, hf⟩
  · rw [h]; rfl
  · rw [h, if_neg (by simp)]
    obtain ⟨a, b, m, k, c⟩ := n
    rw [F34_v, onSome_ok, hf, if_pos (by simp)]
theorem L10_true {h m due : Int} {L : List Po} (hL : L.length ≤ 200) : ∀ (q n p : Nat), L.length - p = q → p ≤ L.length → q < n → L10_4 400 n h m due (L.map poPV) (p : Int) = some true := by
  intro q
  induction q with
  | zero =>
    intro n p hq hp hn
    obtain ⟨n, rfl⟩ : ∃ m, n = m + 1 := ⟨n - 1, by omega⟩
    rw [L10_4_eq, aIf_if, if_neg (by simp; omega), F32_v (by omega) (by omega), onSome_ok, F33_v (by omega) (by omega), onSome_ok, aw45]
    simp [aGd_if, aIf_if]
  | succ q ih =>
    intro n p hq hp hn
    obtain ⟨n, rfl⟩ : ∃ m, n = m + 1 := ⟨n - 1, by omega⟩
    have hlt : p < L.length := by omega
    have hg : ∀ {k : PV → Option Bool}, onGet (L.map poPV) (p : Int) k = k (poPV L[p]) := fun {k} => by rw [onGet_nat (by simpa using hlt)]; simp only [List.getElem_map]
    rw [L10_4_eq, aIf_if, if_pos (by simp; omega), w64 (x := (p : Int) + 1) (by omega) (by omega), aw45]
    have c3 : (poPV L[p]).cells[3]? = some (.int .i64 L[p].2.2.2) := rfl
    simp only [hg, c3, onSome_ok, onInt_ok, aIf_if]
    rw [show (p : Int) + 1 = ((p + 1 : Nat) : Int) by omega, ih n (p + 1) (by omega) (by omega) (by omega)]
    split
    · rfl
    · split <;> rfl
theorem F10_true (h m due : Int) (L : List Po) : F10 400 (h, m, due, L.map poPV) = some true := by
  rw [F10_eq, aIf_if, aw45]
  by_cases hL : L.length ≤ 200
  rotate_left
  · rw [if_pos (by simp; omega)]
  rw [if_neg (by simp; omega)]
  exact L10_true hL L.length 400 0 (by omega) (by omega) (by omega)
theorem fmtN_len (n : Ntc) : (fmtN n).length ≤ 300 := by
  unfold fmtN
  split
  · have l1 := itoaF_len n.1
    have l2 := itoaF_len n.2.1
    have l3 := fmtM_len n.2.2.1
    have l4 := kinds_len n.2.2.2.1.toNat
    have l5 := fixS_len 2 (itoaF n.2.2.2.2)
    have l6 := itoaF_len n.2.2.2.2
    unfold wordsN
    rw [jw8_len]
    have : wNotice.length = 6 ∧ wHouse.length = 9 ∧ wMonth.length = 5 := ⟨rfl, rfl, rfl⟩
    omega
  · simp
theorem kindR_bd (due : Int) (a : Int × Int × Int) : 1 ≤ kindR due a ∧ kindR due a ≤ 4 := by
  unfold kindR
  split
  · omega
  split
  · omega
  split <;> omega
theorem F13_true (a b : Ntc) (L : List Po) : F13 400 (a, b, L.map poPV) = some true := by
  rw [F13_eq, aIf_if]
  simp only [aw45]
  by_cases hL : L.length ≤ 200
  rotate_left
  · rw [if_pos (by simp; omega)]
  rw [if_neg (by simp; omega), F29_v, onSome_ok, F29_v, onSome_ok]
  have rest : (onSome (F32 400 (a.2.1, a.2.2.1, a.2.2.2.2, L.map poPV)) fun y3 =>
      aGd (decide ((0 : Nat) + (5 : Nat) ≤ (5 : Nat))) (aIf (y3.2 != (idR a.2.1 a.2.2.1).2) (some false) (aIf (y3.2 != (0 : Int)) (some true) (aIf (decide (y3.1.2.2.2.2 < (0 : Int))) (some true) (aIf (decide ((1000000000000000 : Int) < y3.1.2.2.2.2)) (some true)
        (onSome (F34 400 (y3.1.1, y3.1.2.1, y3.1.2.2.1, y3.1.2.2.2.1, y3.1.2.2.2.2)) fun y7 => onSome (F36 400 y7) fun y8 => aGd (decide ((0 : Nat) + (5 : Nat) ≤ (5 : Nat)))
          (aIf (y8.2 == (0 : Int)) (aIf (y8.1.1 == y3.1.1 && (y8.1.2.1 == y3.1.2.1 && (y8.1.2.2.1 == y3.1.2.2.1 && (y8.1.2.2.2.1 == y3.1.2.2.2.1 && (y8.1.2.2.2.2 == y3.1.2.2.2.2 && true))))) (aIf (y3.1.1 == (idR a.2.1 a.2.2.1).1) (some true) (some false)) (some false)) (some false)))))))) = some true := by
    rw [F32_v (by omega) (by omega), onSome_ok]
    unfold forP
    by_cases he : (idR a.2.1 a.2.2.1).2 = 0
    rotate_left
    · rw [if_pos he]; simp [aGd_if, aIf_if, he]
    rw [if_neg (by simp [he])]
    simp only [aGd_if, aIf_if, he, decide_eq_true_eq]
    rw [if_pos (by simp), if_neg (by simp), if_neg (by simp)]
    by_cases h1 : L.foldl cashF 0 < 0
    · rw [if_pos h1]
    rw [if_neg h1]
    by_cases h2 : 1000000000000000 < L.foldl cashF 0
    · rw [if_pos h2]
    rw [if_neg h2]
    have hk := kindR_bd a.2.2.2.2 (L.foldl forF (0, 0, 0))
    have hv : validN ((idR a.2.1 a.2.2.1).1, a.2.1, a.2.2.1, kindR a.2.2.2.2 (L.foldl forF (0, 0, 0)), L.foldl cashF 0) = true := by
      unfold validN
      simp [he, hk]
      omega
    have hl := fmtN_len ((idR a.2.1 a.2.2.1).1, a.2.1, a.2.2.1, kindR a.2.2.2.2 (L.foldl forF (0, 0, 0)), L.foldl cashF 0)
    rw [F34_v, onSome_ok, F36_v (by omega) (by decide) (by omega), onSome_ok, parN_fmt hv]
    simp
  simp only [aIf_if] at rest ⊢
  by_cases h1 : (idR a.2.1 a.2.2.1).2 = 0
  rotate_left
  · rw [if_neg (by simpa using h1)]; exact rest
  rw [if_pos (by simpa using h1)]
  by_cases h2 : (idR b.2.1 b.2.2.1).2 = 0
  rotate_left
  · rw [if_neg (by simpa using h2)]; exact rest
  rw [if_pos (by simpa using h2)]
  by_cases h3 : (idR a.2.1 a.2.2.1).1 = (idR b.2.1 b.2.2.1).1
  rotate_left
  · rw [if_neg (by simpa using h3)]; exact rest
  have o1 := idR_ok h1
  have o2 := idR_ok h2
  rw [if_pos (by simpa using h3), if_neg (by simp; omega), if_neg (by simp; omega)]
  exact rest
end Go.Proofs.YtaapljpfhgahbaaDoor
