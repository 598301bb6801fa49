/- Plain laws of numtext: words and lines. -/
import Derived.Test.YtmnedpfilckilaaDoorRd
import Derived.Test.YtmnedpfilckilaaDoorRune
set_option linter.unusedSimpArgs false
set_option linter.unusedVariables false
namespace Go.Proofs.YtmnedpfilckilaaDoor
open Go.RowKit

theorem awake_ok : F9 40 () = some true := by kernel_rfl

theorem b_eq {b : UInt8} {n : Nat} : (Int.ofNat b.toNat == (n : Int)) = decide (b.toNat = n) := by
  by_cases h : b.toNat = n
  · simp [h]
  · have : ¬ ((b.toNat : Int) = n) := by omega
    simp [h, this]

/-- One step of the reference's Fields. -/
theorem L20_step {N n : Nat} {a : List UInt8} {st : Int} {p : Nat} {out : List PV} (hN : a.length ≤ 5000) (hp : p < a.length) (h0 : -1 ≤ st) (h1 : st ≤ p) (ho : out.length ≤ p) :
    L20_4 N (n + 1) a st p out =
      if a[p].toNat = 32 ∨ a[p].toNat = 9 then (if 0 ≤ st then L20_4 N n a (-1) ((p + 1 : Nat) : Int) (out ++ [.str ((a.take p).drop st.toNat)]) else L20_4 N n a st ((p + 1 : Nat) : Int) out)
      else L20_4 N n a (if st < 0 then (p : Int) else st) ((p + 1 : Nat) : Int) out := by
  have e1 : IntKind.i64.wrap ((p : Int) + 1) = ((p + 1 : Nat) : Int) := by rw [w64] <;> omega
  have e2 : ¬ ((p : Int) = (a.length : Int)) := by omega
  have e3 : ((p : Int) ≤ (a.length : Int)) := by omega
  have e4 : (out.length + 1) * 17 ≤ 140737488355328 := by omega
  rw [L20_4_eq]
  simp only [aIf_if, aGd_if, onGet_nat hp, e1, Int.ofNat_eq_natCast, Int.toNat_natCast]
  by_cases h2 : a[p].toNat = 32
  · by_cases h3 : 0 ≤ st
    · simp [h2, h3, e2, e3, e4, h1]
    · simp [h2, h3, e2, e3, e4, h1]
  · by_cases h4 : a[p].toNat = 9
    · by_cases h3 : 0 ≤ st
      · simp [h2, h4, h3, e2, e3, e4, h1]
      · simp [h2, h4, h3, e2, e3, e4, h1]
    · have h5 : ¬ ((a[p].toNat : Int) = 32) := by omega
      have h6 : ¬ ((a[p].toNat : Int) = 9) := by omega
      by_cases h3 : st < 0
      · simp [h2, h4, h3, h5, h6, e2, e3, e4, h1]
      · simp [h2, h4, h3, h5, h6, e2, e3, e4, h1]
/-- Its end. -/
theorem L20_end {N n : Nat} {a : List UInt8} {st : Int} {out : List PV} (hN : a.length ≤ 5000) (h0 : -1 ≤ st) (h1 : st ≤ a.length) (ho : out.length ≤ a.length) :
    L20_4 N (n + 2) a st a.length out = some (if 0 ≤ st then out ++ [.str (a.drop st.toNat)] else out) := by
  have e1 : IntKind.i64.wrap ((a.length : Int) + 1) = ((a.length + 1 : Nat) : Int) := by rw [w64] <;> omega
  have e4 : (out.length + 1) * 17 ≤ 140737488355328 := by omega
  have last : ∀ st out, L20_4 N (n + 1) a st ((a.length + 1 : Nat) : Int) out = some out := fun st out => by
    rw [L20_4_eq]
    have : ¬ (((a.length + 1 : Nat) : Int) ≤ (a.length : Int)) := by omega
    simp only [aIf_if, Int.ofNat_eq_natCast]
    simp [this]
    omega
  rw [L20_4_eq]
  simp only [aIf_if, aGd_if, e1, Int.ofNat_eq_natCast, Int.toNat_natCast, last]
  by_cases h3 : 0 ≤ st
  · simp [h3, e4, h1]
  · simp [h3]

/-- Bytes of a rune that is not ASCII. -/
theorem L20_skip {N : Nat} {a : List UInt8} {out : List PV} (hN : a.length ≤ 5000) : ∀ (w n : Nat) (st : Int) (p : Nat), p + w ≤ a.length → -1 ≤ st → st ≤ p → out.length ≤ p →
    (∀ j (hj : j < a.length), p ≤ j → j < p + w → 128 ≤ a[j].toNat) → 1 ≤ w →
    L20_4 N (n + w) a st p out = L20_4 N n a (if st < 0 then (p : Int) else st) ((p + w : Nat) : Int) out
  | 0, n, st, p, _, _, _, _, _, h => by omega
  | w + 1, n, st, p, h1, h2, h3, h4, h5, _ => by
    have hb := h5 p (by omega) (by omega) (by omega)
    have hs := L20_step (N := N) (n := n + w) (out := out) hN (show p < a.length by omega) h2 h3 h4
    rw [if_neg (by omega)] at hs
    rw [show n + (w + 1) = n + w + 1 by omega, hs]
    rcases Nat.eq_zero_or_pos w with rfl | hw
    · rfl
    · have ih := L20_skip (N := N) (out := out) hN w n (if st < 0 then (p : Int) else st) (p + 1) (by omega) (by split <;> omega) (by split <;> omega) (by omega) (fun j hj g1 g2 => h5 j hj (by omega) (by omega)) hw
      rw [ih]
      have : (if (if st < 0 then (p : Int) else st) < 0 then ((p + 1 : Nat) : Int) else (if st < 0 then (p : Int) else st)) = if st < 0 then (p : Int) else st := by
        have h9 : ¬ ((p : Int) < 0) := by omega
        by_cases h : st < 0
        · rw [if_pos h, if_neg h9]
        · rw [if_neg h, if_neg h]
      rw [this, show p + 1 + w = p + (w + 1) by omega]

/-- One step of Fields. -/
theorem L19_step {N n : Nat} {a : List UInt8} {st : Int} {p : Nat} {out : List PV} (hN : a.length ≤ 5000) (hp : p < a.length) (h0 : -1 ≤ st) (h1 : st ≤ p) (ho : out.length ≤ p) :
    L19_4 N (n + 1) a st a p out =
      if (dec a p).1 = 32 ∨ (dec a p).1 = 9 then (if 0 ≤ st then L19_4 N n a (-1) a (p + (dec a p).2) (out ++ [.str ((a.take p).drop st.toNat)]) else L19_4 N n a (-1) a (p + (dec a p).2) out)
      else L19_4 N n a (if st < 0 then (p : Int) else st) a (p + (dec a p).2) out := by
  have e3 : ((p : Int) ≤ (a.length : Int)) := by omega
  have e4 : (out.length + 1) * 17 ≤ 140737488355328 := by omega
  rw [L19_4_eq]
  simp only [aIf_if, aGd_if, Int.ofNat_eq_natCast, Int.toNat_natCast]
  show (if decide (p < a.length) = true then (if ((dec a p).1 : Int) == 32 then _ else _) else _) = _
  rw [if_pos (by simpa using hp)]
  by_cases h2 : (dec a p).1 = 32
  · by_cases h3 : 0 ≤ st
    · simp [h2, h3, e3, e4, h1]; rfl
    · simp [h2, h3, e3, e4, h1]; rfl
  · by_cases h4 : (dec a p).1 = 9
    · have h2' : ¬ (((dec a p).1 : Int) = 32) := by omega
      have h4' : (((dec a p).1 : Int) = 9) := by omega
      show (if ((dec a p).1 : Int) == 32 then _ else (if ((dec a p).1 : Int) == 9 then _ else _)) = _
      by_cases h3 : 0 ≤ st
      · simp [h2, h4, h3, e3, e4, h1]; rfl
      · simp [h2, h4, h3, e3, e4, h1]; rfl
    · have h2' : ¬ (((dec a p).1 : Int) = 32) := by omega
      have h4' : ¬ (((dec a p).1 : Int) = 9) := by omega
      show (if ((dec a p).1 : Int) == 32 then _ else (if ((dec a p).1 : Int) == 9 then _ else _)) = _
      by_cases h3 : st < 0
      · simp [h2, h4, h2', h4', h3, e3, e4, h1]; rfl
      · simp [h2, h4, h2', h4', h3, e3, e4, h1]; rfl
theorem L19_end {N n : Nat} {a : List UInt8} {st : Int} {out : List PV} (hN : a.length ≤ 5000) (h0 : -1 ≤ st) (h1 : st ≤ a.length) (ho : out.length ≤ a.length) :
    L19_4 N (n + 1) a st a a.length out = some (if 0 ≤ st then out ++ [.str (a.drop st.toNat)] else out) := by
  have e4 : (out.length + 1) * 17 ≤ 140737488355328 := by omega
  rw [L19_4_eq]
  simp only [aIf_if, aGd_if, Int.ofNat_eq_natCast]
  by_cases h3 : 0 ≤ st
  · simp [h3, e4, h1]
  · simp [h3]

/-- Both loops return the same words, all of them strings. -/
theorem words_same {N : Nat} {a : List UInt8} (hN : a.length ≤ 5000) : ∀ (k n m : Nat) (st : Int) (p : Nat) (out : List PV), a.length - p = k → p ≤ a.length → k < n → k + 2 ≤ m → -1 ≤ st → st ≤ p → out.length ≤ p → (∀ x ∈ out, ∃ l, x = .str l) →
    ∃ r, L19_4 N n a st a p out = some r ∧ L20_4 N m a st p out = some r ∧ r.length ≤ a.length + 1 ∧ ∀ x ∈ r, ∃ l, x = .str l := by
  intro k
  induction k using Nat.strongRecOn with
  | _ k ih =>
  intro n m st p out hk hp hn hm h0 h1 ho hs
  rcases Nat.eq_or_lt_of_le hp with rfl | hlt
  · obtain ⟨n, rfl⟩ : ∃ n', n = n' + 1 := ⟨n - 1, by omega⟩
    obtain ⟨m, rfl⟩ : ∃ m', m = m' + 2 := ⟨m - 2, by omega⟩
    rw [L19_end hN h0 h1 ho, L20_end hN h0 h1 ho]
    refine ⟨_, rfl, rfl, ?_, ?_⟩
    · split <;> (try simp only [List.length_append, List.length_singleton]) <;> omega
    · split
      · intro x hx
        rcases List.mem_append.1 hx with hx | hx
        · exact hs x hx
        · simp at hx; exact ⟨_, hx⟩
      · exact hs
  · obtain ⟨n, rfl⟩ : ∃ n', n = n' + 1 := ⟨n - 1, by omega⟩
    rw [L19_step hN hlt h0 h1 ho]
    have app : ∀ x ∈ out ++ [PV.str ((a.take p).drop st.toNat)], ∃ l, x = .str l := fun x hx => by
      rcases List.mem_append.1 hx with hx | hx
      · exact hs x hx
      · simp at hx; exact ⟨_, hx⟩
    rcases Nat.lt_or_ge a[p].toNat 128 with hb | hb
    · have hd : dec a p = (a[p].toNat, 1) := dec_low hlt hb
      rw [hd]
      obtain ⟨m, rfl⟩ : ∃ m', m = m' + 1 := ⟨m - 1, by omega⟩
      rw [L20_step hN hlt h0 h1 ho]
      dsimp only
      by_cases h2 : a[p].toNat = 32 ∨ a[p].toNat = 9
      · rw [if_pos h2, if_pos h2]
        by_cases h3 : 0 ≤ st
        · rw [if_pos h3, if_pos h3]
          exact ih (a.length - (p + 1)) (by omega) n m (-1) (p + 1) _ rfl (by omega) (by omega) (by omega) (by omega) (by omega) (by simp; omega) app
        · rw [if_neg h3, if_neg h3]
          obtain rfl : st = -1 := by omega
          exact ih (a.length - (p + 1)) (by omega) n m (-1) (p + 1) _ rfl (by omega) (by omega) (by omega) (by omega) (by omega) (by omega) hs
      · rw [if_neg h2, if_neg h2]
        exact ih (a.length - (p + 1)) (by omega) n m _ (p + 1) _ rfl (by omega) (by omega) (by omega) (by split <;> omega) (by split <;> omega) (by omega) hs
    · obtain ⟨g1, g2, g3, g4, g5⟩ := dec_high hlt hb
      change 128 ≤ (dec a p).1 at g1
      change 1 ≤ (dec a p).2 at g2
      change p + (dec a p).2 ≤ _ at g4
      change ∀ j (hj : j < a.length), p ≤ j → j < p + (dec a p).2 → 128 ≤ a[j].toNat at g5
      rw [if_neg (by omega)]
      obtain ⟨m, rfl⟩ : ∃ m', m = m' + (dec a p).2 := ⟨m - (dec a p).2, by omega⟩
      rw [L20_skip hN _ m st p g4 h0 h1 ho g5 g2]
      exact ih (a.length - (p + (dec a p).2)) (by omega) n m _ (p + (dec a p).2) _ rfl (by omega) (by omega) (by omega) (by split <;> omega) (by split <;> omega) (by omega) hs

/-- Two equal lists of strings. -/
theorem L18_same {N : Nat} {xs : List PV} (hx : xs.length ≤ 1000000) (hs : ∀ x ∈ xs, ∃ l, x = .str l) : ∀ (k n p : Nat), xs.length - p = k → p ≤ xs.length → k < n → L18_4 N n xs xs p = some true
  | 0, n + 1, p, h1, h2, h3 => by
    obtain rfl : p = xs.length := by omega
    rw [L18_4_eq]
    simp [aIf_if]
  | k + 1, n + 1, p, h1, h2, h3 => by
    have hp : p < xs.length := by omega
    obtain ⟨l, hl⟩ := hs _ (List.getElem_mem hp)
    have e1 : IntKind.i64.wrap ((p : Int) + 1) = ((p + 1 : Nat) : Int) := by rw [w64] <;> omega
    rw [L18_4_eq]
    simp only [aIf_if, Int.ofNat_eq_natCast, onGet_nat hp, hl, onStr_ok, e1]
    rw [if_pos (by simpa using hp)]
    have ih := L18_same (N := N) hx hs k n (p + 1) (by omega) (by omega) (by omega)
    simpa [hp] using ih
theorem F18_same {N : Nat} {xs : List PV} (hx : xs.length ≤ 1000000) (hN : xs.length < N) (hs : ∀ x ∈ xs, ∃ l, x = .str l) : F18 N (xs, xs) = some true := by
  rw [F18_eq]
  simp only [aIf_if]
  have := L18_same (N := N) hx hs xs.length N 0 (by omega) (by omega) hN
  simpa using this

/-- The law of Fields. -/
theorem F5_true (a : List UInt8) : F5 6000 a = some true := by
  rw [F5_eq]
  simp only [aIf_if, onSome_id, Int.ofNat_eq_natCast]
  by_cases h : (5000 : Int) < a.length
  · rw [if_pos (by simpa using h), awake_ok]
  · rw [if_neg (by simpa using h), F19_eq, F20_eq]
    obtain ⟨r, h1, h2, h3, h4⟩ := words_same (N := 6000) (a := a) (by omega) a.length 6000 6000 (-1) 0 [] (by omega) (by omega) (by omega) (by omega) (by omega) (by omega) (by simp) (by simp)
    simp only [Int.natCast_zero] at h2
    rw [h1, onSome_ok, h2, onSome_ok, F18_same (by omega) (by omega) h4, onSome_ok, if_pos rfl, awake_ok]
end Go.Proofs.YtmnedpfilckilaaDoor
