/- Months from January 1900 to December 2199, as plain mathematics. No program is named here. -/
import Derived.Test.YtfhlignhdnhmlaaDoorDates
set_option linter.unusedSimpArgs false
set_option linter.unusedVariables false
namespace Go.Proofs.YtfhlignhdnhmlaaDoor

def mvB (m : Int) : Bool := decide (0 ≤ m ∧ m ≤ 3599)
theorem mvB_true {m : Int} (h : mvB m = true) : 0 ≤ m ∧ m ≤ 3599 := by simpa [mvB] using h
theorem mvB_false {m : Int} (h : mvB m = false) : m < 0 ∨ 3599 < m := by simp [mvB] at h; omega
def mFrom (m : Int) : Int := num (1900 + m / 12) (m % 12 + 1) 1
def mLen (m : Int) : Int := dim (1900 + m / 12) (m % 12 + 1)
def fdR (d : Int) : Int := if vdB d then 12 * (toY d - 1900) + toM d - 1 else -1
def rgR (m : Int) : Int × Int × Int := if mvB m then (mFrom m, mFrom m + mLen m, 0) else (0, 0, 3)
def dysR (m : Int) : Int := if mvB m then mLen m else 0
theorem rngB_true {a b : Int} (h : rngB a b = true) : 0 ≤ a ∧ a ≤ b ∧ b ≤ 109573 := by simp [rngB] at h; omega
def ovR (m a b : Int) : Int := if mvB m = false then 0 else if rngB a b = false then 0 else max 0 (min (mFrom m + mLen m) b - max (mFrom m) a)
/-- the last working day ahead of day k -/
def payF (we : Int) (hs : List Int) : Nat → Int × Int
  | 0 => (0, 6)
  | k + 1 => if isWkB we hs k then ((k : Int), 0) else payF we hs k
theorem payF_step {we : Int} {hs : List Int} {k : Int} (h : 0 ≤ k) : payF we hs (k + 1).toNat = if isWkB we hs k then (k, 0) else payF we hs k.toNat := by
  obtain ⟨n, rfl⟩ := Int.eq_ofNat_of_zero_le h
  rw [show ((n : Int) + 1).toNat = n + 1 by omega]
  simp [payF]
def payR (we : Int) (hs : List Int) (m day : Int) : Int × Int :=
  if calOk we hs = false then (0, 1) else if day < 1 then (0, 1) else if 31 < day then (0, 1) else if mvB m = false then (0, 3) else payF we hs (mFrom m + min day (mLen m)).toNat

theorem m_ymd {m : Int} (h : mvB m = true) : ymdB (1900 + m / 12) (m % 12 + 1) 1 = true ∧ 28 ≤ mLen m ∧ mLen m ≤ 31 := by
  obtain ⟨h0, h1⟩ := mvB_true h
  have d := dim_bd (y := 1900 + m / 12) (m := m % 12 + 1) (by omega) (by omega)
  refine ⟨?_, d⟩
  simp only [ymdB, Bool.and_eq_true, decide_eq_true_eq]; omega
theorem m_bd {m : Int} (h : mvB m = true) : 0 ≤ mFrom m ∧ mFrom m + mLen m ≤ 109573 := by
  obtain ⟨hy, h1, h2⟩ := m_ymd h
  have hb : ymdB (1900 + m / 12) (m % 12 + 1) (mLen m) = true := by
    simp only [ymdB, Bool.and_eq_true, decide_eq_true_eq] at hy ⊢
    unfold mLen at *; omega
  have a := num_bd hy
  have b := num_bd hb
  unfold mFrom num at *; omega
/-- a date lies in the range of its month, and of no other -/
theorem fd_iff {d m : Int} (hv : vdB d = true) (hm : mvB m = true) : fdR d = m ↔ mFrom m ≤ d ∧ d < mFrom m + mLen m := by
  obtain ⟨t1, t2⟩ := to_spec hv
  obtain ⟨g1, g2, g3, g4, g5, g6⟩ := ymd_true t1
  have e : fdR d = 12 * (toY d - 1900) + toM d - 1 := by simp [fdR, hv]
  rw [e]
  constructor
  · intro h
    have hy : 1900 + m / 12 = toY d := by omega
    have hmm : m % 12 + 1 = toM d := by omega
    unfold mFrom mLen
    rw [hy, hmm]
    unfold num at *; omega
  · intro ⟨h1, h2⟩
    have hb : ymdB (1900 + m / 12) (m % 12 + 1) (d - mFrom m + 1) = true := by
      obtain ⟨hy, -, -⟩ := m_ymd hm
      simp only [ymdB, Bool.and_eq_true, decide_eq_true_eq] at hy ⊢
      unfold mLen at *; omega
    obtain ⟨a, b, -⟩ := to_of hb (n := d) (by unfold mFrom num at *; omega)
    omega
theorem fd_mv {d : Int} (hv : vdB d = true) : mvB (fdR d) = true := by
  obtain ⟨t1, t2⟩ := to_spec hv
  obtain ⟨g1, g2, g3, g4, g5, g6⟩ := ymd_true t1
  have e : fdR d = 12 * (toY d - 1900) + toM d - 1 := by simp [fdR, hv]
  simp only [mvB, decide_eq_true_eq]; omega
theorem m_next {m : Int} (h : mvB m = true) (h1 : m < 3599) : mFrom (m + 1) = mFrom m + mLen m := by
  obtain ⟨h0, -⟩ := mvB_true h
  unfold mFrom mLen num
  by_cases e : m % 12 = 11
  · have a := dby_succ (1900 + m / 12)
    have b := cum_succ (y := 1900 + m / 12) (m := 12) (by omega) (by omega)
    have c := cum_13 (1900 + m / 12)
    rw [show 1900 + (m + 1) / 12 = 1900 + m / 12 + 1 by omega, show (m + 1) % 12 + 1 = 1 by omega, cum_1, e, show (11 : Int) + 1 = 12 by rfl]
    rw [show (12 : Int) + 1 = 13 by rfl] at b
    omega
  · have b := cum_succ (y := 1900 + m / 12) (m := m % 12 + 1) (by omega) (by omega)
    rw [show (m + 1) / 12 = m / 12 by omega, show (m + 1) % 12 + 1 = m % 12 + 1 + 1 by omega]
    omega
theorem m_first : mFrom 0 = 0 := by decide
theorem m_last : mFrom 3599 + mLen 3599 = 109573 := by decide
theorem ov_sum {m a b c : Int} (h0 : 0 ≤ a) (h1 : a ≤ c) (h2 : c ≤ b) (h3 : b ≤ 109573) : ovR m a b = ovR m a c + ovR m c b ∧ 0 ≤ ovR m a c ∧ 0 ≤ ovR m c b := by
  have e1 : rngB a b = true := by simp [rngB]; omega
  have e2 : rngB a c = true := by simp [rngB]; omega
  have e3 : rngB c b = true := by simp [rngB]; omega
  unfold ovR
  rw [e1, e2, e3]
  cases hm : mvB m
  · simp
  · have := (m_ymd hm).2
    simp only [Bool.true_eq_false, if_false]; omega

end Go.Proofs.YtfhlignhdnhmlaaDoor
