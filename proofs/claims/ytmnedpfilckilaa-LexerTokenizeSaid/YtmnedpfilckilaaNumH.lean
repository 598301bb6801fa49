/- Plain laws of numtext: what is accepted is canonical. -/
import Derived.Test.YtmnedpfilckilaaNumG
import Derived.Test.YtmnedpfilckilaaNumB
set_option linter.unusedSimpArgs false
set_option linter.unusedVariables false
namespace Go.Proofs.Ytmnedpfilckilaa
open Go.RowKit

theorem conv_ok {v : Nat} {neg : Bool} (h : (conv v neg).2 = 0) : v ≤ 4611686018427387904 ∧ (conv v neg).1 = nbr neg v := by
  unfold conv at h ⊢
  by_cases hv : v ≤ 4611686018427387904
  · rw [if_pos hv] at h ⊢; exact ⟨hv, rfl⟩
  · rw [if_neg hv] at h; simp at h
theorem isNum_pos {t : List UInt8} (h : isNum t = true) (h1 : t ≠ [48]) : 0 < vl 0 t ∧ t ≠ [] ∧ t.head? ≠ some 48 := by
  have hall := isNum_all h
  simp only [isNum, Bool.and_eq_true, Bool.or_eq_true, beq_iff_eq, bne_iff_ne] at h
  rcases h.2 with h2 | ⟨h2, h3⟩
  · exact absurd h2 h1
  · refine ⟨?_, h2, h3⟩
    cases t with
    | nil => exact absurd rfl h2
    | cons b t =>
      simp only [List.all_cons, Bool.and_eq_true, dg_iff] at hall
      have := vl_mono t (0 * 10 + (b.toNat - 48))
      have : b.toNat ≠ 48 := fun e => h3 (by
        have : b = 48 := UInt8.toNat_inj.1 (by simpa using e)
        simp [this])
      rw [vl_cons]; omega
theorem decF_num {t : List UInt8} (h : isNum t = true) (hv : vl 0 t < 10 ^ 20) : decF 20 (vl 0 t) = t := by
  by_cases h1 : t = [48]
  · subst h1; decide
  · obtain ⟨_, h2, h3⟩ := isNum_pos h h1
    exact decF_back 20 t (isNum_all h) h2 h3 hv
theorem canon_int {s : List UInt8} (h : (parseS s).2 = 0) : itoaF (parseS s).1 = s ∧ -9223372036854775808 ≤ (parseS s).1 ∧ (parseS s).1 ≤ 9223372036854775807 := by
  have hs := put_sgn s
  unfold parseS at h ⊢
  generalize sgn s = r at *
  obtain ⟨t, neg⟩ := r
  dsimp only at *
  by_cases h1 : isNum t = true
  · rw [if_pos h1] at h ⊢
    by_cases h2 : neg = true ∧ t = [48]
    · rw [if_pos h2] at h; simp at h
    · rw [if_neg h2] at h ⊢
      obtain ⟨hv, e⟩ := conv_ok h
      rw [e]
      have hp : neg = true → 0 < vl 0 t := fun hn => (isNum_pos h1 fun ht => h2 ⟨hn, ht⟩).1
      rw [itoaF_num hp, decF_num h1 (by omega), hs]
      refine ⟨rfl, ?_, ?_⟩ <;> (unfold nbr; split <;> omega)
  · rw [if_neg h1] at h; simp at h
theorem vl_inj : ∀ (l m : List UInt8) (v u : Nat), l.length = m.length → l.all dg = true → m.all dg = true → vl v l = vl u m → v = u ∧ l = m
  | [], [], v, u, _, _, _, h => ⟨h, rfl⟩
  | [], _ :: _, _, _, h, _, _, _ => by simp at h
  | _ :: _, [], _, _, h, _, _, _ => by simp at h
  | b :: l, c :: m, v, u, hl, h1, h2, h => by
    simp only [List.all_cons, Bool.and_eq_true, dg_iff] at h1 h2
    simp only [vl_cons] at h
    obtain ⟨h3, h4⟩ := vl_inj l m _ _ (by simpa using hl) h1.2 h2.2 h
    have h5 : b = c := UInt8.toNat_inj.1 (by omega)
    exact ⟨by omega, by rw [h4, h5]⟩
theorem decF_short : ∀ (k u j : Nat), u < 10 ^ j → 0 < j → (decF k u).length ≤ j
  | 0, u, j, _, _ => by simp [decF]
  | k + 1, u, j, h, hj => by
    rw [decF]
    by_cases h1 : u < 10
    · rw [decide_eq_true h1]; simp; omega
    · rw [decide_eq_false h1]
      obtain ⟨j, rfl⟩ : ∃ i, j = i + 1 := ⟨j - 1, by omega⟩
      have hj0 : 0 < j := by
        rcases Nat.eq_zero_or_pos j with rfl | h0
        · simp at h; omega
        · exact h0
      have := decF_short k (u / 10) j (by rw [Nat.pow_succ] at h; omega) hj0
      simp; exact this
theorem canon_fix {s : List UInt8} {K : Nat} (hK : 1 ≤ K) (h : (parseT K (sgn s).1 (sgn s).2).2 = 0) :
    fixS K (itoaF (parseT K (sgn s).1 (sgn s).2).1) = s ∧ -9223372036854775808 ≤ (parseT K (sgn s).1 (sgn s).2).1 ∧ (parseT K (sgn s).1 (sgn s).2).1 ≤ 9223372036854775807 := by
  have hs := put_sgn s
  generalize sgn s = r at *
  obtain ⟨t, neg⟩ := r
  dsimp only at *
  unfold parseT at h ⊢
  by_cases c1 : t.length < K + 2
  · rw [if_pos c1] at h; simp at h
  rw [if_neg c1] at h ⊢
  obtain ⟨p, hp⟩ : ∃ p, t.length = p + K + 1 := ⟨t.length - K - 1, by omega⟩
  have e5 : t.length - K - 1 = p := by omega
  have e6 : t.length - K = p + 1 := by omega
  simp only [e5, e6, Nat.add_sub_cancel] at h ⊢
  by_cases c2 : t[p]? ≠ some 46
  · rw [if_pos c2] at h; simp at h
  rw [if_neg c2] at h ⊢
  by_cases c3 : isNum (t.take p) = false
  · rw [if_pos c3] at h; simp at h
  rw [if_neg c3] at h ⊢
  by_cases c4 : (t.drop (p + 1)).all dg = false
  · rw [if_pos c4] at h; simp at h
  rw [if_neg c4] at h ⊢
  by_cases c5 : neg = true ∧ vl 0 (t.take p ++ t.drop (p + 1)) = 0
  · rw [if_pos c5] at h; simp at h
  rw [if_neg c5] at h ⊢
  have hna : isNum (t.take p) = true := by simpa using c3
  have hnb : (t.drop (p + 1)).all dg = true := by simpa using c4
  have hdot : t.take p ++ [46] ++ t.drop (p + 1) = t := by
    have h1 : p < t.length := by omega
    have h2 : t[p] = 46 := by
      have := Decidable.not_not.1 c2
      rw [List.getElem?_eq_getElem h1] at this
      exact Option.some.inj this
    have h3 := List.take_append_drop p t
    rw [drop_cons h1, h2] at h3
    rw [List.append_assoc]
    exact h3
  have la : (t.take p).length = p := by rw [List.length_take]; omega
  have lb : (t.drop (p + 1)).length = K := by rw [List.length_drop]; omega
  generalize t.take p = a at *
  generalize t.drop (p + 1) = b at *
  obtain ⟨hv, e⟩ := conv_ok h
  have hpos : neg = true → 0 < vl 0 (a ++ b) := fun hn => Nat.pos_of_ne_zero fun h0 => c5 ⟨hn, h0⟩
  have hall : (a ++ b).all dg = true := by rw [List.all_append, isNum_all hna, hnb]; rfl
  have hpad : pad K (decF 20 (vl 0 (a ++ b))) = a ++ b := by
    by_cases ha : a = [48]
    · have hvb : vl 0 (a ++ b) = vl 0 b := by rw [ha, vl_append]; rfl
      have hlt := vl_high b 0 hnb
      have hd := decF_short 20 (vl 0 b) K (by rw [lb] at hlt; simpa using hlt) (by omega)
      have hl1 : (pad K (decF 20 (vl 0 (a ++ b)))).length = (a ++ b).length := by
        rw [pad_len, hvb, List.length_append, lb, ha]; simp; omega
      have hval := vl_pad K (decF 20 (vl 0 (a ++ b)))
      rw [decF_vl 20 _ (by omega)] at hval
      exact (vl_inj _ _ 0 0 hl1 (pad_all (decF_all _ _)) hall hval).2
    · obtain ⟨_, h2, h3⟩ := isNum_pos hna ha
      have hb1 : decF 20 (vl 0 (a ++ b)) = a ++ b := decF_back 20 (a ++ b) hall (by simp [h2]) (by rw [head_app h2]; exact h3) (by omega)
      have hp0 : 0 < p := by rw [← la]; exact List.length_pos_iff.2 h2
      rw [hb1]
      unfold pad
      rw [show K + 1 - (a ++ b).length = 0 by rw [List.length_append, la, lb]; omega]; rfl
  rw [e]
  refine ⟨?_, ?_, ?_⟩
  · unfold fixS
    rw [if_neg (by omega), itoaF_num hpos, sgn_put (.inr (dg_head (decF_all _ _)))]
    dsimp only
    rw [hpad]
    have hlw : (a ++ b).length - K = a.length := by rw [List.length_append, lb]; omega
    unfold fixU
    rw [hlw, List.take_left, List.drop_left, hdot]
    exact hs
  · unfold nbr; split <;> omega
  · unfold nbr; split <;> omega

/-! ## Lines -/
/-- The text of lines. -/
def flat : List PV → List UInt8
  | [] => []
  | .str l :: xs => l ++ [10] ++ flat xs
  | _ :: xs => flat xs
theorem flat_append : ∀ (xs ys : List PV), flat (xs ++ ys) = flat xs ++ flat ys
  | [], ys => rfl
  | x :: xs, ys => by cases x <;> simp [flat, flat_append xs ys]
end Go.Proofs.Ytmnedpfilckilaa
