/- The Gregorian calendar from 1900 to 2199, as plain mathematics. No program is named here. -/
import Derived.Test.YtmnedpfilckilaaWork
set_option linter.unusedSimpArgs false
set_option linter.unusedVariables false
namespace Go.Proofs.Ytmnedpfilckilaa

def leapB (y : Int) : Bool := decide (y % 4 = 0) && (decide (y % 100 ≠ 0) || decide (y % 400 = 0))
def diy (y : Int) : Int := if leapB y then 366 else 365
def dim (y m : Int) : Int :=
  if m = 2 then (if leapB y then 29 else 28) else if m = 4 ∨ m = 6 ∨ m = 9 ∨ m = 11 then 30 else if m = 1 ∨ m = 3 ∨ m = 5 ∨ m = 7 ∨ m = 8 ∨ m = 10 ∨ m = 12 then 31 else 0
/-- days from the first of 1900 to the first of year y -/
def dby (y : Int) : Int := 365 * (y - 1900) + ((y - 1) / 4 - (y - 1) / 100 + (y - 1) / 400) - 460
/-- days of year y ahead of month m -/
def cum (y m : Int) : Int :=
  let l := if leapB y then 1 else 0
  if m ≤ 1 then 0 else if m = 2 then 31 else if m = 3 then 59 + l else if m = 4 then 90 + l else if m = 5 then 120 + l else if m = 6 then 151 + l else if m = 7 then 181 + l else
  if m = 8 then 212 + l else if m = 9 then 243 + l else if m = 10 then 273 + l else if m = 11 then 304 + l else if m = 12 then 334 + l else 365 + l
theorem tmod0 (y k : Int) (hk : 0 < k) : (y.tmod k = 0) ↔ (y % k = 0) := by
  rw [← Int.dvd_iff_tmod_eq_zero, ← Int.dvd_iff_emod_eq_zero]
theorem tmod_beq (y k : Int) (hk : 0 < k) : (y.tmod k == 0) = decide (y % k = 0) := by
  rw [Bool.eq_iff_iff]; simp [tmod0 y k hk]
theorem dby_succ (y : Int) : dby (y + 1) = dby y + diy y := by
  unfold dby diy leapB
  by_cases h4 : y % 4 = 0 <;> by_cases h100 : y % 100 = 0 <;> by_cases h400 : y % 400 = 0 <;> simp [h4, h100, h400] <;> omega
theorem diy_bd (y : Int) : 365 ≤ diy y ∧ diy y ≤ 366 := by unfold diy; split <;> omega
theorem dby_1900 : dby 1900 = 0 := by decide
theorem dby_2200 : dby 2200 = 109573 := by decide
theorem dby_mono_nat (y : Int) (k : Nat) : dby y ≤ dby (y + k) := by
  induction k with
  | zero => simp
  | succ k ih =>
    have := dby_succ (y + k)
    have := diy_bd (y + k)
    rw [show y + ((k + 1 : Nat) : Int) = y + k + 1 by omega]; omega
theorem dby_mono {a b : Int} (h : a ≤ b) : dby a ≤ dby b := by
  have := dby_mono_nat a (b - a).toNat
  rwa [show a + ((b - a).toNat : Int) = b by omega] at this
theorem cum_succ {y m : Int} (h1 : 1 ≤ m) (h2 : m ≤ 12) : cum y (m + 1) = cum y m + dim y m := by
  have : m = 1 ∨ m = 2 ∨ m = 3 ∨ m = 4 ∨ m = 5 ∨ m = 6 ∨ m = 7 ∨ m = 8 ∨ m = 9 ∨ m = 10 ∨ m = 11 ∨ m = 12 := by omega
  rcases this with rfl | rfl | rfl | rfl | rfl | rfl | rfl | rfl | rfl | rfl | rfl | rfl <;> simp [cum, dim] <;> (cases leapB y <;> simp)
theorem cum_1 (y : Int) : cum y 1 = 0 := by simp [cum]
theorem cum_13 (y : Int) : cum y 13 = diy y := by unfold cum diy; cases leapB y <;> simp
theorem dim_bd {y m : Int} (h1 : 1 ≤ m) (h2 : m ≤ 12) : 28 ≤ dim y m ∧ dim y m ≤ 31 := by
  unfold dim; split
  · split <;> omega
  · split
    · omega
    · split <;> omega
theorem dim_out {y m : Int} (h : m < 1 ∨ 12 < m) : dim y m = 0 := by
  unfold dim
  rw [if_neg (by omega), if_neg (by omega), if_neg (by omega)]
theorem dim_nn (y m : Int) : 0 ≤ dim y m ∧ dim y m ≤ 31 := by
  by_cases h : 1 ≤ m ∧ m ≤ 12
  · have := dim_bd (y := y) h.1 h.2; omega
  · rw [dim_out (by omega)]; omega
theorem cum_mono_nat (y m : Int) (k : Nat) (h1 : 1 ≤ m) (h2 : m + k ≤ 13) : cum y m ≤ cum y (m + k) := by
  induction k with
  | zero => simp
  | succ k ih =>
    have := ih (by omega)
    have h := cum_succ (y := y) (m := m + k) (by omega) (by omega)
    have := dim_nn y (m + k)
    rw [show m + ((k + 1 : Nat) : Int) = m + k + 1 by omega]; omega
theorem cum_mono {y a b : Int} (h1 : 1 ≤ a) (h : a ≤ b) (h2 : b ≤ 13) : cum y a ≤ cum y b := by
  have := cum_mono_nat y a (b - a).toNat h1 (by omega)
  rwa [show a + ((b - a).toNat : Int) = b by omega] at this
/-- the number of a date -/
def num (y m d : Int) : Int := dby y + cum y m + d - 1
def ymdB (y m d : Int) : Bool := decide (1900 ≤ y) && decide (y ≤ 2199) && decide (1 ≤ d) && decide (d ≤ dim y m)
theorem ymd_true {y m d : Int} (h : ymdB y m d = true) : 1900 ≤ y ∧ y ≤ 2199 ∧ 1 ≤ m ∧ m ≤ 12 ∧ 1 ≤ d ∧ d ≤ dim y m := by
  simp only [ymdB, Bool.and_eq_true, decide_eq_true_eq] at h
  have : ¬ (m < 1 ∨ 12 < m) := fun hm => by have := dim_out (y := y) hm; omega
  omega
theorem num_bd {y m d : Int} (h : ymdB y m d = true) : 0 ≤ num y m d ∧ num y m d ≤ 109572 ∧ dby y ≤ num y m d ∧ num y m d < dby (y + 1) := by
  obtain ⟨h1, h2, h3, h4, h5, h6⟩ := ymd_true h
  have a := cum_succ (y := y) h3 h4
  have b := cum_mono (y := y) (a := m + 1) (b := 13) (by omega) (by omega) (by omega)
  have c := cum_mono (y := y) (a := 1) (b := m) (by omega) h3 (by omega)
  have d := dby_succ y
  have e := dby_mono (a := 1900) (b := y) h1
  have f := dby_mono (a := y + 1) (b := 2200) (by omega)
  rw [cum_1] at c; rw [cum_13] at b; rw [dby_1900] at e; rw [dby_2200] at f
  unfold num; omega
theorem num_inj {y m d y' m' d' : Int} (h : ymdB y m d = true) (h' : ymdB y' m' d' = true) (he : num y m d = num y' m' d') : y = y' ∧ m = m' ∧ d = d' := by
  have n1 := num_bd h
  have n2 := num_bd h'
  obtain ⟨h1, h2, h3, h4, h5, h6⟩ := ymd_true h
  obtain ⟨g1, g2, g3, g4, g5, g6⟩ := ymd_true h'
  have hy : y = y' := by
    by_cases a : y < y'
    · have := dby_mono (a := y + 1) (b := y') (by omega); omega
    · by_cases b : y' < y
      · have := dby_mono (a := y' + 1) (b := y) (by omega); omega
      · omega
  subst hy
  have a := cum_succ (y := y) h3 h4
  have a' := cum_succ (y := y) g3 g4
  unfold num at he
  have hm : m = m' := by
    by_cases b : m < m'
    · have := cum_mono (y := y) (a := m + 1) (b := m') (by omega) (by omega) (by omega); omega
    · by_cases c : m' < m
      · have := cum_mono (y := y) (a := m' + 1) (b := m) (by omega) (by omega) (by omega); omega
      · omega
  subst hm
  exact ⟨rfl, rfl, by omega⟩
/-- search for the year and the month -/
def yearF : Nat → Int → Int → Int
  | 0, y, _ => y
  | k + 1, y, n => if n < dby (y + 1) then y else yearF k (y + 1) n
def monF (y : Int) : Nat → Int → Int → Int
  | 0, m, _ => m
  | k + 1, m, r => if r < cum y (m + 1) then m else monF y k (m + 1) r
def toY (n : Int) : Int := yearF 300 1900 n
def toM (n : Int) : Int := monF (toY n) 12 1 (n - dby (toY n))
def toD (n : Int) : Int := n - dby (toY n) - cum (toY n) (toM n) + 1
theorem yearF_spec : ∀ (k : Nat) (y n : Int), dby y ≤ n → n < dby (y + k) → y ≤ yearF k y n ∧ yearF k y n < y + k ∧ dby (yearF k y n) ≤ n ∧ n < dby (yearF k y n + 1)
  | 0, y, n, h1, h2 => by simp at h2; omega
  | k + 1, y, n, h1, h2 => by
    simp only [yearF]
    split
    · exact ⟨by omega, by omega, h1, by assumption⟩
    · have := yearF_spec k (y + 1) n (by omega) (by rw [show y + 1 + (k : Int) = y + ((k + 1 : Nat) : Int) by omega]; exact h2)
      omega
theorem monF_spec (y : Int) : ∀ (k : Nat) (m r : Int), cum y m ≤ r → r < cum y (m + k) → m ≤ monF y k m r ∧ monF y k m r < m + k ∧ cum y (monF y k m r) ≤ r ∧ r < cum y (monF y k m r + 1)
  | 0, m, n, h1, h2 => by simp at h2; omega
  | k + 1, m, n, h1, h2 => by
    simp only [monF]
    split
    · exact ⟨by omega, by omega, h1, by assumption⟩
    · have := monF_spec y k (m + 1) n (by omega) (by rw [show m + 1 + (k : Int) = m + ((k + 1 : Nat) : Int) by omega]; exact h2)
      omega
theorem to_spec {n : Int} (hv : vdB n = true) : ymdB (toY n) (toM n) (toD n) = true ∧ num (toY n) (toM n) (toD n) = n := by
  obtain ⟨h0, h1⟩ := vdB_true hv
  have a := yearF_spec 300 1900 n (by rw [dby_1900]; exact h0) (by rw [show (1900 : Int) + (300 : Nat) = 2200 by rfl, dby_2200]; omega)
  have hy : toY n = yearF 300 1900 n := rfl
  rw [← hy] at a
  obtain ⟨a1, a2, a3, a4⟩ := a
  have b := monF_spec (toY n) 12 1 (n - dby (toY n)) (by rw [cum_1]; omega) (by
    rw [show (1 : Int) + (12 : Nat) = 13 by rfl, cum_13]; have := dby_succ (toY n); omega)
  have hm : toM n = monF (toY n) 12 1 (n - dby (toY n)) := rfl
  rw [← hm] at b
  obtain ⟨b1, b2, b3, b4⟩ := b
  have c := cum_succ (y := toY n) (m := toM n) b1 (by omega)
  have hd : toD n = n - dby (toY n) - cum (toY n) (toM n) + 1 := rfl
  refine ⟨?_, by unfold num; omega⟩
  simp only [ymdB, Bool.and_eq_true, decide_eq_true_eq]
  omega
theorem to_of {y m d n : Int} (h : ymdB y m d = true) (hn : num y m d = n) : toY n = y ∧ toM n = m ∧ toD n = d := by
  have hb := num_bd h
  have hv : vdB n = true := vdB_mk (by omega) (by omega)
  obtain ⟨t1, t2⟩ := to_spec hv
  exact num_inj t1 h (by omega)
def fromR (y m d : Int) : Int × Int := if ymdB y m d then (num y m d, 0) else (0, 3)
def toR (n : Int) : Int × Int × Int := if vdB n then (toY n, toM n, toD n) else (0, 0, 0)
def wdR (n : Int) : Int := if vdB n then n % 7 else -1
/-- the year and the month of date a, k months on: their number -/
def addK (a k : Int) : Int := 12 * toY a + toM a - 1 + k
def addMR (a k : Int) : Int × Int :=
  if vdB a = false then (0, 3) else if k < -3600 then (0, 3) else if 3600 < k then (0, 3) else
  fromR ((addK a k) / 12) (addK a k % 12 + 1) (min (toD a) (dim ((addK a k) / 12) (addK a k % 12 + 1)))

theorem toY_uniq {n y : Int} (hv : vdB n = true) (h1 : dby y ≤ n) (h2 : n < dby (y + 1)) : y = toY n := by
  obtain ⟨t1, t2⟩ := to_spec hv
  have b := num_bd t1
  by_cases a : y < toY n
  · have := dby_mono (a := y + 1) (b := toY n) (by omega); omega
  · by_cases c : toY n < y
    · have := dby_mono (a := toY n + 1) (b := y) (by omega); omega
    · omega
theorem toM_uniq {n m : Int} (hv : vdB n = true) (h0 : 1 ≤ m) (h3 : m ≤ 12) (h1 : cum (toY n) m ≤ n - dby (toY n)) (h2 : n - dby (toY n) < cum (toY n) (m + 1)) : m = toM n := by
  obtain ⟨t1, t2⟩ := to_spec hv
  obtain ⟨g1, g2, g3, g4, g5, g6⟩ := ymd_true t1
  have c := cum_succ (y := toY n) g3 g4
  unfold num at t2
  by_cases a : m < toM n
  · have := cum_mono (y := toY n) (a := m + 1) (b := toM n) (by omega) (by omega) (by omega); omega
  · by_cases e : toM n < m
    · have := cum_mono (y := toY n) (a := toM n + 1) (b := m) (by omega) (by omega) (by omega); omega
    · omega

/-- date a, n years on -/
def annv (a n : Int) : Int := num (toY a + n) (toM a) (min (toD a) (dim (toY a + n) (toM a)))
theorem addMR_ok {a n : Int} (hv : vdB a = true) (h0 : 0 ≤ n) (h1 : toY a + n ≤ 2199) : addMR a (12 * n) = (annv a n, 0) ∧ toY (annv a n) = toY a + n ∧ vdB (annv a n) = true := by
  obtain ⟨t1, t2⟩ := to_spec hv
  obtain ⟨g1, g2, g3, g4, g5, g6⟩ := ymd_true t1
  have d1 := dim_bd (y := toY a + n) g3 g4
  have hb : ymdB (toY a + n) (toM a) (min (toD a) (dim (toY a + n) (toM a))) = true := by
    simp only [ymdB, Bool.and_eq_true, decide_eq_true_eq]; omega
  refine ⟨?_, ?_, ?_⟩
  · have e1 : addK a (12 * n) / 12 = toY a + n := by unfold addK; omega
    have e2 : addK a (12 * n) % 12 + 1 = toM a := by unfold addK; omega
    unfold addMR
    rw [if_neg (by simp [hv]), if_neg (by omega), if_neg (by omega), e1, e2]
    simp [fromR, hb, annv]
  · exact (to_of hb rfl).1
  · have := num_bd hb
    exact vdB_mk (by unfold annv; omega) (by unfold annv; omega)
theorem addMR_late {a n : Int} (hv : vdB a = true) (h0 : 0 ≤ n) (h1 : 2199 < toY a + n) : (addMR a (12 * n)).2 = 3 := by
  unfold addMR
  rw [if_neg (by simp [hv]), if_neg (by omega)]
  split
  · rfl
  · have e1 : addK a (12 * n) / 12 = toY a + n := by
      obtain ⟨t1, t2⟩ := to_spec hv
      obtain ⟨g1, g2, g3, g4, g5, g6⟩ := ymd_true t1
      unfold addK; omega
    rw [e1]
    have hb : ymdB (toY a + n) (addK a (12 * n) % 12 + 1) (min (toD a) (dim (toY a + n) (addK a (12 * n) % 12 + 1))) = false := by
      simp only [ymdB, Bool.and_eq_false_iff, decide_eq_false_iff_not]; omega
    simp [fromR, hb]
theorem annv_0 {a : Int} (hv : vdB a = true) : annv a 0 = a := by
  obtain ⟨t1, t2⟩ := to_spec hv
  obtain ⟨g1, g2, g3, g4, g5, g6⟩ := ymd_true t1
  unfold annv
  rw [show toY a + 0 = toY a by omega, show min (toD a) (dim (toY a) (toM a)) = toD a by omega]
  exact t2
theorem lt_of_toY {a b : Int} (ha : vdB a = true) (hb : vdB b = true) (h : toY a < toY b) : a < b := by
  obtain ⟨t1, t2⟩ := to_spec ha
  obtain ⟨s1, s2⟩ := to_spec hb
  have n1 := num_bd t1
  have n2 := num_bd s1
  have := dby_mono (a := toY a + 1) (b := toY b) (by omega)
  omega
theorem toY_mono {a b : Int} (ha : vdB a = true) (hb : vdB b = true) (h : a ≤ b) : toY a ≤ toY b := by
  by_cases hc : toY b < toY a
  · have := lt_of_toY hb ha hc; omega
  · omega
theorem toY_bd {a : Int} (ha : vdB a = true) : 1900 ≤ toY a ∧ toY a ≤ 2199 ∧ 1 ≤ toM a ∧ toM a ≤ 12 ∧ 1 ≤ toD a ∧ toD a ≤ dim (toY a) (toM a) := ymd_true (to_spec ha).1
def ybR (a b : Int) : Int :=
  if vdB a = false then 0 else if vdB b = false then 0 else if b < a then 0 else
  if b < annv a (toY b - toY a) then toY b - toY a - 1 else toY b - toY a
theorem ybR_bd {a b : Int} : 0 ≤ ybR a b ∧ ybR a b ≤ 299 := by
  unfold ybR
  cases ha : vdB a
  · simp
  cases hb : vdB b
  · simp
  rw [if_neg (by simp), if_neg (by simp)]
  split
  · omega
  · have h := toY_mono ha hb (by omega)
    have h1 := toY_bd ha
    have h2 := toY_bd hb
    split
    · rename_i hgt
      by_cases e : toY b = toY a
      · rw [e, Int.sub_self, annv_0 ha] at hgt; omega
      · omega
    · omega
/-- the reference's search ends at the same number -/
theorem ybR_of {a b n : Int} (ha : vdB a = true) (hb : vdB b = true) (h0 : 0 ≤ n) (h1 : n = 0 ∨ (toY a + n ≤ 2199 ∧ annv a n ≤ b))
    (h2 : 2199 < toY a + (n + 1) ∨ b < annv a (n + 1)) : ybR a b = n := by
  have b1 := toY_bd ha
  have b2 := toY_bd hb
  unfold ybR
  rw [if_neg (by simp [ha]), if_neg (by simp [hb])]
  by_cases hlt : b < a
  · rw [if_pos hlt]
    rcases h1 with h1 | ⟨h1, h3⟩
    · exact h1.symm
    · by_cases e : n = 0
      · exact e.symm
      · obtain ⟨-, f1, f2⟩ := addMR_ok ha h0 h1
        have := lt_of_toY ha f2 (by omega)
        omega
  · rw [if_neg hlt]
    have hle : annv a n ≤ b ∧ toY a + n ≤ 2199 := by
      rcases h1 with h1 | h1
      · subst h1; rw [annv_0 ha]; omega
      · exact ⟨h1.2, h1.1⟩
    obtain ⟨-, f1, f2⟩ := addMR_ok ha h0 hle.2
    have c1 := toY_mono f2 hb hle.1
    rw [f1] at c1
    by_cases e : toY b = toY a + n
    · rw [show toY b - toY a = n by omega, if_neg (by omega)]
    · have hn1 : toY a + (n + 1) ≤ 2199 := by omega
      obtain ⟨-, g1, g2⟩ := addMR_ok ha (n := n + 1) (by omega) hn1
      have hgt : b < annv a (n + 1) := by omega
      have c2 := toY_mono hb g2 (by omega)
      rw [g1] at c2
      rw [show toY b - toY a = n + 1 by omega, if_pos hgt]; omega
/-- What P4.7 says of anniversaries. -/
theorem ybR_spec {a b : Int} (ha : vdB a = true) (hb : vdB b = true) (hle : a ≤ b) :
    toY a + ybR a b ≤ 2199 ∧ annv a (ybR a b) ≤ b ∧ (2199 < toY a + (ybR a b + 1) ∨ b < annv a (ybR a b + 1)) := by
  have b1 := toY_bd ha
  have b2 := toY_bd hb
  have h := toY_mono ha hb hle
  unfold ybR
  rw [if_neg (by simp [ha]), if_neg (by simp [hb]), if_neg (by omega)]
  split
  · rename_i hgt
    by_cases e : toY b = toY a
    · rw [e, Int.sub_self, annv_0 ha] at hgt; omega
    · obtain ⟨-, f1, f2⟩ := addMR_ok ha (n := toY b - toY a - 1) (by omega) (by omega)
      have := lt_of_toY f2 hb (by omega)
      refine ⟨by omega, by omega, .inr ?_⟩
      rwa [show toY b - toY a - 1 + 1 = toY b - toY a by omega]
  · refine ⟨by omega, by omega, ?_⟩
    by_cases e : 2199 < toY a + (toY b - toY a + 1)
    · exact .inl e
    · obtain ⟨-, f1, f2⟩ := addMR_ok ha (n := toY b - toY a + 1) (by omega) (by omega)
      exact .inr (lt_of_toY hb f2 (by omega))

end Go.Proofs.Ytmnedpfilckilaa
