/- Plain laws of numtext: lines. -/
import Derived.Test.YtflpiekacionaaaGreatDoorNumA
set_option linter.unusedSimpArgs false
set_option linter.unusedVariables false
namespace Go.Proofs.YtflpiekacionaaaGreatDoor
open Go.RowKit

theorem L30_step {N n : Nat} {a : List UInt8} {st : Int} {p : Nat} {out : List PV} (hN : a.length ≤ 65536) (hp : p < a.length) (h0 : 0 ≤ st) (h1 : st ≤ p) (ho : out.length ≤ p) :
    L30_6 N (n + 1) a st p out =
      if a[p].toNat = 10 then L30_6 N n a ((p + 1 : Nat) : Int) ((p + 1 : Nat) : Int) (out ++ [.str ((a.take p).drop st.toNat)])
      else if a[p].toNat = 9 ∨ (32 ≤ a[p].toNat ∧ a[p].toNat ≤ 126) then L30_6 N n a st ((p + 1 : Nat) : Int) out else some ([], 2) := by
  have e1 : IntKind.i64.wrap ((p : Int) + 1) = ((p + 1 : Nat) : Int) := by rw [w64] <;> omega
  have e3 : ((p : Int) ≤ (a.length : Int)) := by omega
  have e4 : (out.length + 1) * 17 ≤ 140737488355328 := by omega
  rw [L30_6_eq]
  simp only [aIf_if, aGd_if, onGet_nat hp, e1, Int.ofNat_eq_natCast, Int.toNat_natCast]
  rw [if_pos (by simpa using hp)]
  generalize a[p].toNat = k
  by_cases h2 : k = 10
  · subst h2; simp [e3, e4, h0, h1]
  · by_cases h3 : k = 9
    · subst h3; simp
    · have g2 : ¬ ((k : Int) = 10) := by omega
      have g3 : ¬ ((k : Int) = 9) := by omega
      by_cases h4 : k < 32
      · have g4 : (k : Int) < 32 := by omega
        have g5 : ¬ (32 ≤ k) := by omega
        simp [h2, h3, g2, g3, g4, g5]
      · have g4 : ¬ (k : Int) < 32 := by omega
        have g5 : 32 ≤ k := by omega
        by_cases h6 : k ≤ 126
        · have g6 : ¬ (126 : Int) < k := by omega
          simp [h2, h3, g2, g3, g4, g5, h6, g6]
        · have g6 : (126 : Int) < k := by omega
          simp [h2, h3, g2, g3, g4, g5, h6, g6]
theorem L30_end {N n : Nat} {a : List UInt8} {st : Int} {out : List PV} (h1 : st ≤ a.length) :
    L30_6 N (n + 1) a st a.length out = some (if st = a.length then (out, 0) else ([], 2)) := by
  rw [L30_6_eq]
  simp only [aIf_if, aGd_if, Int.ofNat_eq_natCast]
  by_cases h : st = a.length
  · subst h; simp
  · have : st < a.length := by omega
    simp [h, this]
theorem L24_step {N n : Nat} {a : List UInt8} {st : Int} {p : Nat} {out : List PV} (hN : a.length ≤ 65536) (hp : p < a.length) (h0 : 0 ≤ st) (h1 : st ≤ p) (ho : out.length ≤ p) :
    L24_6 N (n + 1) a st a p out =
      if (dec a p).1 = 10 then L24_6 N n a ((p + 1 : Nat) : Int) a (p + (dec a p).2) (out ++ [.str ((a.take p).drop st.toNat)])
      else if (dec a p).1 = 9 ∨ (32 ≤ (dec a p).1 ∧ (dec a p).1 ≤ 126) then L24_6 N n a st a (p + (dec a p).2) out else some ([], 2) := by
  have e1 : IntKind.i64.wrap ((p : Int) + 1) = ((p + 1 : Nat) : Int) := by rw [w64] <;> omega
  have e3 : ((p : Int) ≤ (a.length : Int)) := by omega
  have e4 : (out.length + 1) * 17 ≤ 140737488355328 := by omega
  rw [L24_6_eq]
  simp only [aIf_if, aGd_if, e1, Int.ofNat_eq_natCast, Int.toNat_natCast]
  rw [if_pos (by simpa using hp)]
  change (if ((dec a p).1 : Int) == 10 then (if _ then (if _ then (if _ then (if _ then L24_6 N n a _ a (p + (dec a p).2) _ else _) else _) else _) else _)
    else (if ((dec a p).1 : Int) != 9 then (if decide (((dec a p).1 : Int) < 32) = true then _ else (if decide (126 < ((dec a p).1 : Int)) = true then _ else L24_6 N n a st a (p + (dec a p).2) out)) else L24_6 N n a st a (p + (dec a p).2) out)) = _
  generalize (dec a p).1 = k
  generalize p + (dec a p).2 = q
  by_cases h2 : k = 10
  · subst h2; simp [e3, e4, h0, h1]
  · by_cases h3 : k = 9
    · subst h3; simp
    · have g2 : ¬ ((k : Int) = 10) := by omega
      have g3 : ¬ ((k : Int) = 9) := by omega
      by_cases h4 : k < 32
      · have g4 : (k : Int) < 32 := by omega
        have g5 : ¬ (32 ≤ k) := by omega
        simp [h2, h3, g2, g3, g4, g5]
      · have g4 : ¬ (k : Int) < 32 := by omega
        have g5 : 32 ≤ k := by omega
        by_cases h6 : k ≤ 126
        · have g6 : ¬ (126 : Int) < k := by omega
          simp [h2, h3, g2, g3, g4, g5, h6, g6]
        · have g6 : (126 : Int) < k := by omega
          simp [h2, h3, g2, g3, g4, g5, h6, g6]
theorem L24_end {N n : Nat} {a : List UInt8} {st : Int} {out : List PV} :
    L24_6 N (n + 1) a st a a.length out = some (if st = a.length then (out, 0) else ([], 2)) := by
  rw [L24_6_eq]
  simp only [aIf_if, aGd_if, Int.ofNat_eq_natCast]
  by_cases h : st = a.length
  · subst h; simp
  · simp [h]
/-- Both loops return the same lines. -/
theorem lines_same {N : Nat} {a : List UInt8} (hN : a.length ≤ 65536) : ∀ (k n m : Nat) (st : Int) (p : Nat) (out : List PV), a.length - p = k → p ≤ a.length → k < n → k < m → 0 ≤ st → st ≤ p → out.length ≤ p → (∀ x ∈ out, ∃ l, x = .str l) →
    ∃ r, L24_6 N n a st a p out = some r ∧ L30_6 N m a st p out = some r ∧ r.1.length ≤ a.length ∧ ∀ x ∈ r.1, ∃ l, x = .str l := by
  intro k
  induction k using Nat.strongRecOn with
  | _ k ih =>
  intro n m st p out hk hp hn hm h0 h1 ho hs
  obtain ⟨n, rfl⟩ : ∃ n', n = n' + 1 := ⟨n - 1, by omega⟩
  obtain ⟨m, rfl⟩ : ∃ m', m = m' + 1 := ⟨m - 1, by omega⟩
  rcases Nat.eq_or_lt_of_le hp with rfl | hlt
  · rw [L24_end, L30_end h1]
    refine ⟨_, rfl, rfl, ?_, ?_⟩
    · split
      · exact ho
      · simp
    · split
      · exact hs
      · simp
  · rw [L24_step hN hlt h0 h1 ho, L30_step hN hlt h0 h1 ho]
    have app : ∀ x ∈ out ++ [PV.str ((a.take p).drop st.toNat)], ∃ l, x = .str l := fun x hx => by
      rcases List.mem_append.1 hx with hx | hx
      · exact hs x hx
      · simp at hx; exact ⟨_, hx⟩
    rcases Nat.lt_or_ge a[p].toNat 128 with hb | hb
    · have hd : dec a p = (a[p].toNat, 1) := dec_low hlt hb
      rw [hd]
      dsimp only
      by_cases h2 : a[p].toNat = 10
      · rw [if_pos h2, if_pos h2]
        exact ih (a.length - (p + 1)) (by omega) n m _ (p + 1) _ rfl (by omega) (by omega) (by omega) (by omega) (by omega) (by simp; omega) app
      · rw [if_neg h2, if_neg h2]
        by_cases h3 : a[p].toNat = 9 ∨ (32 ≤ a[p].toNat ∧ a[p].toNat ≤ 126)
        · rw [if_pos h3, if_pos h3]
          exact ih (a.length - (p + 1)) (by omega) n m _ (p + 1) _ rfl (by omega) (by omega) (by omega) h0 (by omega) (by omega) hs
        · rw [if_neg h3, if_neg h3]
          exact ⟨_, rfl, rfl, by simp, by simp⟩
    · obtain ⟨g1, -⟩ := dec_high hlt hb
      change 128 ≤ (dec a p).1 at g1
      rw [if_neg (by omega), if_neg (by omega), if_neg (by omega), if_neg (by omega)]
      exact ⟨_, rfl, rfl, by simp, by simp⟩
end Go.Proofs.YtflpiekacionaaaGreatDoor
