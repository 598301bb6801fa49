/- strings.IndexAny at a quote and a newline, for every text; plainly. -/
import Derived.Test.YtmnedpfilckilaaLexA
set_option linter.unusedSimpArgs false
set_option linter.unusedVariables false
namespace Go.Proofs.Ytmnedpfilckilaa
open Go.RowKit
set_option maxRecDepth 100000

def qn : List UInt8 := [34, 10]
theorem enc_spec {n : Nat} (h : 128 ≤ n) : ∃ l b, (Utf8.encode (Int.ofNat n)).data.toList = l ++ [b] ∧ 1 ≤ l.length ∧ l.length ≤ 3 ∧ 128 ≤ b.toNat := by
  unfold Utf8.encode
  dsimp only
  have hc : 128 ≤ (if Utf8.valid (Int.ofNat n) = true then (Int.ofNat n).toNat else Utf8.runeError) := by
    split
    · show 128 ≤ n; exact h
    · show 128 ≤ 65533; omega
  generalize (if Utf8.valid (Int.ofNat n) = true then (Int.ofNat n).toNat else Utf8.runeError) = c at hc
  rw [if_neg (by omega)]
  have hb : 128 ≤ (UInt8.ofNat (128 + c % 64)).toNat := by
    rw [UInt8.toNat_ofNat']; omega
  split
  · exact ⟨[_], _, rfl, by simp, by simp, hb⟩
  · split
    · exact ⟨[_, _], _, rfl, by simp, by simp, hb⟩
    · exact ⟨[_, _, _], _, rfl, by simp, by simp, hb⟩
theorem ib_qn (c : UInt8) : Lib.indexByte qn c = if c = 34 then 0 else if c = 10 then 1 else -1 := by
  by_cases h : c = 34
  · subst h; rfl
  · by_cases h2 : c = 10
    · subst h2; rfl
    · have e1 : ((34 : UInt8) == c) = false := by simpa using fun e => h e.symm
      have e2 : ((10 : UInt8) == c) = false := by simpa using fun e => h2 e.symm
      simp [qn, Lib.indexByte, e1, e2, h, h2]
theorem L65_38_v {N : Nat} {n : Nat} (hn : 3 < n) : L65_38 N n qn 0 = some (-1) := by
  obtain ⟨n, rfl⟩ : ∃ m, n = m + 3 := ⟨n - 3, by omega⟩
  rw [L65_38_eq, aIf_if, if_pos (by decide), aIf_if, if_neg (by decide)]
  show L65_38 N (n + 2) qn 1 = _
  rw [L65_38_eq, aIf_if, if_pos (by decide), aIf_if, if_neg (by decide)]
  show L65_38 N (n + 1) qn 2 = _
  rw [L65_38_eq, aIf_if, if_neg (by decide)]
theorem L65_5_v {N n : Nat} {e l : List UInt8} {b : UInt8} (he : e = l ++ [b]) (h1 : 1 ≤ l.length) (h2 : l.length ≤ 3) (hb : 128 ≤ b.toNat) : L65_5 N (n + 1) qn e (l.length : Int) (l.length : Int) = some (-1) := by
  rw [L65_5_eq, aIf_if]
  by_cases h : l.length = 1
  · have e1 : e[1]'(by rw [he]; simp; omega) = b := by
      have : e[l.length]? = some b := by rw [he]; simp
      rw [h] at this
      exact (List.getElem?_eq_some_iff.1 this).2
    rw [if_pos (by rw [h]; decide), h, show ((1 : Nat) : Int) = ((1 : Nat) : Int) from rfl, onGet_nat (by decide), onGet_nat (by rw [he]; simp; omega), e1]
    have hne : (Int.ofNat (qn[1]'(by decide)).toNat != Int.ofNat b.toNat) = true := by
      have : (qn[1]'(by decide)).toNat = 10 := rfl
      rw [this]
      simp; omega
    rw [aIf_if, if_pos hne, aGd_if, if_pos (by decide), aGd_if, if_pos (by decide), onGet_nat (by rw [he]; simp; omega)]
    show onSome (F79 N ([], _)) _ = _
    rfl
  · rw [if_neg (by simp [qn]; omega)]
theorem F65_hi {N n : Nat} (hN : 10 < N) (h : 128 ≤ n) (h2 : n ≤ 2147483647) : F65 N (qn, Int.ofNat n) = some (-1) := by
  rw [F65_eq, aIf_if, if_pos (by simp), aIf_if, if_neg (by simp; omega), aIf_if]
  split
  · exact L65_38_v (by omega)
  · have tot : ∃ b, F80 N (Int.ofNat n) = some b := by
      rw [F80_eq]
      simp only [aIf_if]
      (repeat' split) <;> exact ⟨_, rfl⟩
    obtain ⟨v, hv⟩ := tot
    rw [hv, onSome_ok, aIf_if]
    split
    · rfl
    · obtain ⟨l, b, he, h3, h4, h5⟩ := enc_spec h
      have hlen : (Utf8.encode (Int.ofNat n)).data.toList.length = l.length + 1 := by
        have := congrArg List.length he
        simpa using this
      have e3 : IntKind.wrap IntKind.i64 (Int.ofNat (l.length + 1) - 1) = (l.length : Int) := by
        rw [w64] <;> simp <;> omega
      rw [hlen, e3]
      obtain ⟨m, rfl⟩ : ∃ m, N = m + 1 := ⟨N - 1, by omega⟩
      have := L65_5_v (N := m + 1) (n := m) he h3 h4 h5
      exact this
theorem F65_lo {N n : Nat} (h : n < 128) : F65 N (qn, Int.ofNat n) = some (Lib.indexByte qn (UInt8.ofNat n)) := by
  rw [F65_eq, aIf_if, if_pos (by simp), aIf_if, if_pos (by simp; omega)]
  have e : IntKind.wrap IntKind.u8 (Int.ofNat n) = (n : Int) := by
    simp [IntKind.wrap, IntKind.bits, IntKind.signed]; omega
  rw [e]
  show onSome (some (Lib.indexByte qn (n : Int).toNat.toUInt8)) _ = _
  simp [onSome_ok]
/-- The place of the first quote or newline from p on. -/
def ia (s : List UInt8) (p : Nat) : Int := if Lib.indexAny (s.drop p) qn = -1 then -1 else (p : Int) + Lib.indexAny (s.drop p) qn
theorem ia_end {s : List UInt8} {p : Nat} (h : s.length ≤ p) : ia s p = -1 := by
  unfold ia
  rw [List.drop_eq_nil_of_le h]; rfl
theorem ia_step {s : List UInt8} {p : Nat} (h : p < s.length) (h1 : s[p] ≠ 34) (h2 : s[p] ≠ 10) : ia s p = ia s (p + 1) := by
  unfold ia
  rw [List.drop_eq_getElem_cons h, Lib.indexAny]
  have hc : qn.contains s[p] = false := by simp [qn, h1, h2]
  have hge := Lib.indexAny_ge qn (s.drop (p + 1))
  rw [hc, if_neg (show ¬ false = true by simp)]
  generalize Lib.indexAny (s.drop (p + 1)) qn = x at hge ⊢
  by_cases e : x = -1
  · subst e; rfl
  · have e' : ¬ (x == -1) = true := by simpa using e
    rw [if_neg e', if_neg (show ¬ x + 1 = -1 by omega), if_neg e]
    omega
theorem ia_hit {s : List UInt8} {p : Nat} (h : p < s.length) (h1 : s[p] = 34 ∨ s[p] = 10) : ia s p = p := by
  unfold ia
  rw [List.drop_eq_getElem_cons h, Lib.indexAny]
  have hc : qn.contains s[p] = true := by rcases h1 with e | e <;> simp [qn, e]
  rw [hc]
  simp
theorem ia_skip {s : List UInt8} {p : Nat} : ∀ (m : Nat), p + m ≤ s.length → (∀ j (hj : j < s.length), p ≤ j → j < p + m → 128 ≤ s[j].toNat) → ia s p = ia s (p + m)
  | 0, _, _ => rfl
  | m + 1, hm, hall => by
    rw [ia_skip m (by omega) (fun j hj h1 h2 => hall j hj h1 (by omega))]
    have hlt : p + m < s.length := by omega
    have hb := hall (p + m) hlt (by omega) (by omega)
    exact ia_step hlt (fun e => by rw [e] at hb; exact absurd hb (by decide)) (fun e => by rw [e] at hb; exact absurd hb (by decide))
theorem L48b_v {N : Nat} (hN : 10 < N) {s : List UInt8} : ∀ (k n p : Nat), s.length - p = k → p ≤ s.length → k < n → L48b_18 N n qn s p = some (ia s p) := by
  intro k
  induction k using Nat.strongRecOn with
  | _ k ih =>
  intro n p hk hp hn
  obtain ⟨n, rfl⟩ : ∃ m, n = m + 1 := ⟨n - 1, by omega⟩
  rw [L48b_18_eq, aIf_if]
  by_cases hlt : p < s.length
  · rw [if_pos (by simpa using hlt)]
    rcases Nat.lt_or_ge s[p].toNat 128 with hb | hb
    · have hd : Utf8.decode { data := List.toArray s } p = (s[p].toNat, 1) := dec_low hlt hb
      rw [hd]
      dsimp only
      rw [F65_lo hb, onSome_ok, show UInt8.ofNat s[p].toNat = s[p] by simp, ib_qn, aIf_if]
      by_cases h1 : s[p] = 34
      · rw [if_pos (by simp [h1]), ia_hit hlt (.inl h1)]; rfl
      · by_cases h2 : s[p] = 10
        · rw [if_pos (by simp [h1, h2]), ia_hit hlt (.inr h2)]; rfl
        · rw [if_neg (by simp [h1, h2]), ia_step hlt h1 h2]
          exact ih (s.length - (p + 1)) (by omega) n (p + 1) rfl (by omega) (by omega)
    · obtain ⟨g1, g2, g3, g4, g5⟩ := dec_high hlt hb
      rw [F65_hi hN g1 g3, onSome_ok, aIf_if, if_neg (by decide), ia_skip _ g4 g5]
      exact ih (s.length - (p + (Utf8.decode { data := List.toArray s } p).2)) (by omega) n _ rfl g4 (by omega)
  · rw [if_neg (by simpa using hlt), ia_end (by omega)]
theorem F48_v {N : Nat} (hN : 10 < N) {s : List UInt8} (hs : s.length ≤ 1000000) (hsN : s.length < N) : F48 N (s, [34, 10]) = some (Lib.indexAny s qn) := by
  unfold F48 long8
  dsimp only
  by_cases h : 8 < s.length
  · rw [show decide (8 < s.length) = true by simpa using h]
    show F48a N (s, [34, 10]) = _
    unfold F48a
    rw [aGd_if, if_pos (by simp), aGd_if, if_pos (by simpa using h), aGd_if, if_pos (by simp; omega)]
    rfl
  · rw [show decide (8 < s.length) = false by simpa using h]
    show F48b N (s, [34, 10]) = _
    rw [F48b_eq, aIf_if, if_neg (by decide), aIf_if, if_neg (by decide), F66_eq, onSome_ok, aIf_if, if_neg (by simp; omega)]
    have := L48b_v hN (s := s) s.length N 0 (by omega) (by omega) (by omega)
    rw [show ([34, 10] : List UInt8) = qn from rfl, this]
    unfold ia
    rw [List.drop_zero]
    by_cases e : Lib.indexAny s qn = -1 <;> simp [e]
end Go.Proofs.Ytmnedpfilckilaa
