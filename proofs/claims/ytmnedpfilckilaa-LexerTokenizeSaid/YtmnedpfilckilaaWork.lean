/- Calendars of working days, as plain mathematics. No program is named here. -/
import Derived.WalkKit
set_option linter.unusedSimpArgs false
set_option linter.unusedVariables false
namespace Go.Proofs.Ytmnedpfilckilaa

def vdB (d : Int) : Bool := decide (0 ≤ d ∧ d ≤ 109572)
theorem vdB_true {d : Int} (h : vdB d = true) : 0 ≤ d ∧ d ≤ 109572 := by simpa [vdB] using h
theorem vdB_mk {d : Int} (h1 : 0 ≤ d) (h2 : d ≤ 109572) : vdB d = true := by simp [vdB, h1, h2]
theorem vdB_false {d : Int} (h : vdB d = false) : d < 0 ∨ 109572 < d := by
  simp [vdB] at h; omega
/-- valid dates in increasing order, the first greater than the one given -/
def incr (last : Int) : List Int → Bool
  | [] => true
  | x :: xs => vdB x && decide (last < x) && incr x xs
def calOk (we : Int) (hs : List Int) : Bool := decide (0 ≤ we) && decide (we ≤ 126) && decide (hs.length ≤ 64) && incr (-1) hs
/-- d is a working day (of a valid calendar) -/
def wkB (we : Int) (hs : List Int) (d : Int) : Bool := decide (we / 2 ^ (d % 7).toNat % 2 = 0) && !decide (d ∈ hs)
def isWkB (we : Int) (hs : List Int) (d : Int) : Bool := calOk we hs && vdB d && wkB we hs d

theorem incr_gt : ∀ (hs : List Int) (l : Int), incr l hs = true → (∀ x ∈ hs, l < x ∧ vdB x = true) ∧ hs.Pairwise (· < ·)
  | [], _, _ => by simp
  | x :: xs, l, h => by
    simp only [incr, Bool.and_eq_true, decide_eq_true_eq] at h
    have ih := incr_gt xs x h.2
    refine ⟨fun y hy => ?_, List.pairwise_cons.2 ⟨fun y hy => (ih.1 y hy).1, ih.2⟩⟩
    rcases List.mem_cons.1 hy with rfl | hy
    · exact ⟨h.1.2, h.1.1⟩
    · have := ih.1 y hy; exact ⟨by omega, this.2⟩
theorem calOk_true {we : Int} {hs : List Int} (h : calOk we hs = true) : 0 ≤ we ∧ we ≤ 126 ∧ hs.length ≤ 64 ∧ incr (-1) hs = true := by
  simp only [calOk, Bool.and_eq_true, decide_eq_true_eq] at h
  exact ⟨h.1.1.1, h.1.1.2, h.1.2, h.2⟩
theorem calOk_sorted {we : Int} {hs : List Int} (h : calOk we hs = true) : hs.Pairwise (· < ·) := (incr_gt hs _ (calOk_true h).2.2.2).2

theorem bits_and_one {x : Int} (h0 : 0 ≤ x) (h1 : x < 4611686018427387904) : bits .and .i64 x 1 = x % 2 := by
  have := bits_mask .i64 62 (by decide) (fun n h h' => by rw [IntKind.wrap_i64]; omega) 1 (by omega) x h0 (by simpa using h1)
  simpa using this
theorem shr_bd {x : Int} (k : Nat) (h0 : 0 ≤ x) (h1 : x ≤ 126) : 0 ≤ x / 2 ^ k ∧ x / 2 ^ k ≤ 126 := by
  have hp : (0 : Int) < 2 ^ k := by exact_mod_cast Nat.two_pow_pos k
  refine ⟨Int.ediv_nonneg h0 (Int.le_of_lt hp), ?_⟩
  have := Int.ediv_le_self (2 ^ k) h0
  omega

theorem countP_split {p : Int → Bool} {hs : List Int} {k : Nat} (hk : k ≤ hs.length) (h1 : ∀ i (h : i < hs.length), i < k → p hs[i] = true)
    (h2 : ∀ i (h : i < hs.length), k ≤ i → p hs[i] = false) : hs.countP p = k := by
  have e := List.take_append_drop k hs
  rw [← e, List.countP_append]
  have a1 : (hs.take k).countP p = (hs.take k).length := by
    rw [List.countP_eq_length]
    intro x hx
    obtain ⟨i, hi, rfl⟩ := List.getElem_of_mem hx
    rw [List.getElem_take]
    exact h1 i _ (by rw [List.length_take] at hi; omega)
  have a2 : (hs.drop k).countP p = 0 := by
    rw [List.countP_eq_zero]
    intro x hx
    obtain ⟨i, hi, rfl⟩ := List.getElem_of_mem hx
    rw [List.getElem_drop]
    simp [h2 (k + i) _ (by omega)]
  rw [a1, a2, List.length_take]; omega

/-- the first day from d on, among k days, that p accepts -/
def nextF (p : Int → Bool) : Nat → Int → Option Int
  | 0, _ => none
  | k + 1, d => if p d then some d else nextF p k (d + 1)
def optR : Option Int → Int × Int
  | some x => (x, 0)
  | none => (0, 6)
def nextR (we : Int) (hs : List Int) (d : Int) : Int × Int :=
  if calOk we hs = false then (0, 1) else if vdB d = false then (0, 3) else optR (nextF (wkB we hs) (109573 - d).toNat d)
/-- the n-th day from d on, among k days, that p accepts (n at least 1) -/
def addF (p : Int → Bool) : Nat → Int → Int → Option Int
  | 0, _, _ => none
  | k + 1, d, n => if p d then (if n = 1 then some d else addF p k (d + 1) (n - 1)) else addF p k (d + 1) n
def addR (we : Int) (hs : List Int) (d n : Int) : Int × Int :=
  if calOk we hs = false then (0, 1) else if vdB d = false then (0, 3) else if n < 0 then (0, 3) else if 365 < n then (0, 3) else
  if n = 0 then nextR we hs d else optR (addF (wkB we hs) (109572 - d).toNat (d + 1) n)
/-- how many of the k days from d on p accepts -/
def cntF (p : Int → Bool) : Nat → Int → Int
  | 0, _ => 0
  | k + 1, d => (if p d then 1 else 0) + cntF p k (d + 1)
def rngB (a b : Int) : Bool := decide (0 ≤ a) && decide (a ≤ b) && decide (b ≤ 109573)
def cntR (we : Int) (hs : List Int) (a b : Int) : Int :=
  if calOk we hs = false then 0 else if rngB a b = false then 0 else cntF (wkB we hs) (b - a).toNat a

theorem addF_spec {p : Int → Bool} : ∀ (k : Nat) (d n x : Int), 1 ≤ n → addF p k d n = some x → d ≤ x ∧ x < d + k ∧ p x = true ∧ cntF p (x - d + 1).toNat d = n
  | 0, _, _, _, _, h => by simp [addF] at h
  | k + 1, d, n, x, hn, h => by
    simp only [addF] at h
    cases hp : p d
    · rw [hp] at h
      simp only [Bool.false_eq_true, if_false] at h
      obtain ⟨h1, h2, h3, h4⟩ := addF_spec k (d + 1) n x hn h
      refine ⟨by omega, by omega, h3, ?_⟩
      rw [show (x - d + 1).toNat = (x - (d + 1) + 1).toNat + 1 by omega]
      simp only [cntF, hp]
      simp [h4]
    · rw [hp] at h
      simp only [if_true] at h
      by_cases h1 : n = 1
      · rw [if_pos h1] at h
        simp only [Option.some.injEq] at h
        subst h
        refine ⟨by omega, by omega, hp, ?_⟩
        rw [show (d - d + 1).toNat = 0 + 1 by omega]
        simp only [cntF, hp]
        simp [h1]
      · rw [if_neg h1] at h
        obtain ⟨h1, h2, h3, h4⟩ := addF_spec k (d + 1) (n - 1) x (by omega) h
        refine ⟨by omega, by omega, h3, ?_⟩
        rw [show (x - d + 1).toNat = (x - (d + 1) + 1).toNat + 1 by omega]
        simp only [cntF, hp]
        rw [h4]; simp only [if_true]; omega
theorem nextF_spec {p : Int → Bool} : ∀ (k : Nat) (d x : Int), nextF p k d = some x → d ≤ x ∧ x < d + k ∧ p x = true
  | 0, _, _, h => by simp [nextF] at h
  | k + 1, d, x, h => by
    simp only [nextF] at h
    cases hp : p d
    · rw [hp] at h
      simp only [Bool.false_eq_true, if_false] at h
      obtain ⟨h1, h2, h3⟩ := nextF_spec k (d + 1) x h
      exact ⟨by omega, by omega, h3⟩
    · rw [hp] at h
      simp only [if_true, Option.some.injEq] at h
      subst h
      exact ⟨by omega, by omega, hp⟩
theorem cntF_add {p : Int → Bool} : ∀ (a b : Nat) (d : Int), cntF p (a + b) d = cntF p a d + cntF p b (d + a)
  | 0, b, d => by simp [cntF]
  | a + 1, b, d => by
    rw [show a + 1 + b = (a + b) + 1 by omega]
    simp only [cntF]
    rw [cntF_add a b (d + 1), show d + 1 + (a : Int) = d + ((a + 1 : Nat) : Int) by omega]
    omega
theorem cntF_bd {p : Int → Bool} : ∀ (k : Nat) (d : Int), 0 ≤ cntF p k d ∧ cntF p k d ≤ k
  | 0, _ => by simp [cntF]
  | k + 1, d => by
    have := cntF_bd (p := p) k (d + 1)
    simp only [cntF]
    split <;> omega
theorem cntR_bd (we : Int) (hs : List Int) (a b : Int) : 0 ≤ cntR we hs a b ∧ cntR we hs a b ≤ 109573 := by
  unfold cntR
  split
  · omega
  · split
    · omega
    · rename_i h
      have h : rngB a b = true := by simpa using h
      have : 0 ≤ a ∧ a ≤ b ∧ b ≤ 109573 := by simpa [rngB, and_assoc] using h
      have := cntF_bd (p := wkB we hs) (b - a).toNat a
      omega
/-- What P6.5 says. -/
theorem addR_count {we : Int} {hs : List Int} {d n : Int} (hn : 1 ≤ n) (he : (addR we hs d n).2 = 0) :
    0 ≤ d ∧ d < (addR we hs d n).1 ∧ (addR we hs d n).1 ≤ 109572 ∧ isWkB we hs (addR we hs d n).1 = true ∧ cntR we hs (d + 1) ((addR we hs d n).1 + 1) = n := by
  unfold addR at *
  cases hok : calOk we hs
  · simp [hok] at he
  cases hd : vdB d
  · simp [hok, hd] at he
  obtain ⟨d1, d2⟩ := vdB_true hd
  by_cases h1 : n < 0
  · simp [hok, hd, h1] at he
  by_cases h2 : 365 < n
  · simp [hok, hd, h1, h2] at he
  have h3 : ¬ n = 0 := by omega
  simp only [hok, hd, h1, h2, h3, if_false, Bool.true_eq_false] at he ⊢
  cases ha : addF (wkB we hs) (109572 - d).toNat (d + 1) n with
  | none => simp [ha, optR] at he
  | some x =>
    obtain ⟨a1, a2, a3, a4⟩ := addF_spec _ _ _ _ hn ha
    simp only [optR]
    refine ⟨d1, by omega, by omega, ?_, ?_⟩
    · simp only [isWkB, hok, a3, vdB_mk (show 0 ≤ x by omega) (show x ≤ 109572 by omega)]; rfl
    · have hr : rngB (d + 1) (x + 1) = true := by simp [rngB]; omega
      simp only [cntR, hok, hr, if_false, Bool.true_eq_false]
      rw [show (x + 1 - (d + 1)).toNat = (x - (d + 1) + 1).toNat by omega]
      exact a4
/-- What P6.6 says of counts. -/
theorem cntR_add {we : Int} {hs : List Int} {a b c : Int} (h0 : 0 ≤ a) (h1 : a ≤ b) (h2 : b ≤ c) (h3 : c ≤ 109573) : cntR we hs a b + cntR we hs b c = cntR we hs a c := by
  have r1 : rngB a b = true := by simp [rngB]; omega
  have r2 : rngB b c = true := by simp [rngB]; omega
  have r3 : rngB a c = true := by simp [rngB]; omega
  unfold cntR
  cases hok : calOk we hs
  · simp
  simp only [r1, r2, r3, if_false, Bool.true_eq_false]
  rw [show (c - a).toNat = (b - a).toNat + (c - b).toNat by omega, cntF_add, show a + ((b - a).toNat : Int) = b by omega]
theorem nextR_same {we : Int} {hs : List Int} {d : Int} (he : (nextR we hs d).2 = 0) :
    nextR we hs (nextR we hs d).1 = ((nextR we hs d).1, 0) ∧ isWkB we hs (nextR we hs d).1 = true := by
  cases hok : calOk we hs
  · simp [nextR, hok] at he
  cases hd : vdB d
  · simp [nextR, hok, hd] at he
  obtain ⟨d1, d2⟩ := vdB_true hd
  have e : nextR we hs d = optR (nextF (wkB we hs) (109573 - d).toNat d) := by simp [nextR, hok, hd]
  rw [e] at he ⊢
  cases ha : nextF (wkB we hs) (109573 - d).toNat d with
  | none => simp [ha, optR] at he
  | some x =>
    obtain ⟨a1, a2, a3⟩ := nextF_spec _ _ _ ha
    have hx : vdB x = true := vdB_mk (by omega) (by omega)
    simp only [optR]
    refine ⟨?_, by simp only [isWkB, hok, hx, a3]; rfl⟩
    simp only [nextR, hok, hx, if_false, Bool.true_eq_false]
    rw [show (109573 - x).toNat = (109573 - (x + 1)).toNat + 1 by omega]
    simp only [nextF, a3, if_true, optR]

end Go.Proofs.Ytmnedpfilckilaa
