/- Plain laws of numtext: parsing inverts formatting. -/
import Derived.Test.YtmnedpfilckilaaNumF
set_option linter.unusedSimpArgs false
set_option linter.unusedVariables false
namespace Go.Proofs.Ytmnedpfilckilaa
open Go.RowKit

/-- A sign put ahead. -/
def put (neg : Bool) (t : List UInt8) : List UInt8 := (if neg = true then [45] else []) ++ t
theorem sgn_put {neg : Bool} {t : List UInt8} (h : neg = true ∨ t.head? ≠ some 45) : sgn (put neg t) = (t, neg) := by
  cases neg with
  | true => simp [put, sgn]
  | false =>
    have h : t.head? ≠ some 45 := by simpa using h
    cases t with
    | nil => rfl
    | cons b t => simp at h; simp [put, sgn, h]
theorem put_sgn (l : List UInt8) : put (sgn l).2 (sgn l).1 = l := by
  cases l with
  | nil => rfl
  | cons b t =>
    by_cases h : b = 45
    · subst h; simp [sgn, put]
    · simp [sgn, put, h]
theorem dg_head {t : List UInt8} (h : t.all dg = true) : t.head? ≠ some 45 := by
  cases t with
  | nil => simp
  | cons b t =>
    simp only [List.all_cons, Bool.and_eq_true, dg_iff] at h
    intro e
    have : b = 45 := by simpa using e
    subst this
    exact absurd h.1.1 (by decide)
/-- The number with sign neg and absolute value v. -/
def nbr (neg : Bool) (v : Nat) : Int := if neg = true then -(v : Int) else v
theorem itoaF_num {neg : Bool} {v : Nat} (h : neg = true → 0 < v) : itoaF (nbr neg v) = put neg (decF 20 v) := by
  cases neg with
  | true => exact itoaF_neg (h rfl)
  | false => exact itoaF_nat v
theorem num_of (n : Int) : ∃ neg v, n = nbr neg v ∧ (neg = true → 0 < v) := by
  by_cases h : n < 0
  · exact ⟨true, n.natAbs, by simp [nbr]; omega, fun _ => by omega⟩
  · exact ⟨false, n.natAbs, by simp [nbr]; omega, by simp⟩
theorem decF_zero {v : Nat} (h : decF 20 v = [48]) (hv : v < 10 ^ 20) : v = 0 := by
  have := decF_vl 20 v hv
  rw [h] at this
  simpa using this.symm
theorem parse_itoa {neg : Bool} {v : Nat} (h : neg = true → 0 < v) (hv : v < 10 ^ 20) : parseS (put neg (decF 20 v)) = conv v neg := by
  unfold parseS
  rw [sgn_put (.inr (dg_head (decF_all _ _)))]
  dsimp only
  rw [if_pos (decF_isNum (by omega) hv), decF_vl 20 v hv, if_neg]
  rintro ⟨h1, h2⟩
  have := decF_zero h2 hv
  have := h h1
  omega
theorem vl_zeros : ∀ (j v : Nat), vl v (List.replicate j 48) = v * 10 ^ j
  | 0, v => by simp
  | j + 1, v => by
    rw [List.replicate_succ, vl_cons, vl_zeros j]
    rw [show (48 : UInt8).toNat - 48 = 0 from rfl, Nat.pow_succ, Nat.add_zero, Nat.mul_assoc, Nat.mul_comm 10]
theorem vl_pad (K : Nat) (t : List UInt8) : vl 0 (pad K t) = vl 0 t := by
  unfold pad; rw [vl_append, vl_zeros, Nat.zero_mul]
theorem pad_all {K : Nat} {t : List UInt8} (h : t.all dg = true) : (pad K t).all dg = true := by
  unfold pad; rw [List.all_append, h, Bool.and_true, List.all_eq_true]
  intro x hx
  rw [(List.mem_replicate.1 hx).2]; rfl
theorem pad_front {K v : Nat} (hv : v < 10 ^ 20) (hK : 1 ≤ K) : isNum ((pad K (decF 20 v)).take ((pad K (decF 20 v)).length - K)) = true := by
  have hl := pad_len K (decF 20 v)
  have hall : ((pad K (decF 20 v)).take ((pad K (decF 20 v)).length - K)).all dg = true :=
    List.all_eq_true.2 fun x hx => List.all_eq_true.1 (pad_all (decF_all 20 v)) x (List.mem_of_mem_take hx)
  have hne : (pad K (decF 20 v)).take ((pad K (decF 20 v)).length - K) ≠ [] := fun e => by
    have := congrArg List.length e
    rw [List.length_take] at this; simp at this; omega
  simp only [isNum, hall, Bool.true_and, Bool.or_eq_true, Bool.and_eq_true, beq_iff_eq, bne_iff_ne]
  rcases Nat.lt_or_ge K (decF 20 v).length with h | h
  · have hpt : pad K (decF 20 v) = decF 20 v := by unfold pad; rw [show K + 1 - (decF 20 v).length = 0 by omega]; rfl
    right
    refine ⟨hne, ?_⟩
    rw [hpt]
    have hv0 : 0 < v := by
      rcases Nat.eq_zero_or_pos v with rfl | h0
      · have : (decF 20 0).length = 1 := by simp [decF]
        omega
      · exact h0
    have := decF_head 20 v hv hv0
    rw [List.head?_take]
    split
    · simp
    · exact this
  · left
    have : pad K (decF 20 v) = 48 :: (List.replicate (K - (decF 20 v).length) 48 ++ decF 20 v) := by
      unfold pad
      rw [show K + 1 - (decF 20 v).length = K - (decF 20 v).length + 1 by omega, List.replicate_succ]; rfl
    rw [this]
    have hlen : (48 :: (List.replicate (K - (decF 20 v).length) (48 : UInt8) ++ decF 20 v)).length - K = 1 := by
      simp; omega
    rw [hlen]; rfl
/-- A dot between two parts. -/
theorem parseT_dot {K : Nat} {a b : List UInt8} {neg : Bool} (ha : a ≠ []) (hb : b.length = K) (h1 : isNum a = true) (h2 : b.all dg = true) (h3 : neg = true → 0 < vl 0 (a ++ b)) : parseT K (a ++ [46] ++ b) neg = conv (vl 0 (a ++ b)) neg := by
  have hl : (a ++ [46] ++ b).length = a.length + 1 + K := by simp [hb]; omega
  have hap : 0 < a.length := List.length_pos_iff.2 ha
  unfold parseT
  rw [hl, if_neg (by omega)]
  have e1 : a.length + 1 + K - K - 1 = a.length := by omega
  have e2 : a.length + 1 + K - K = a.length + 1 := by omega
  have e3 : (a ++ [46] ++ b)[a.length]? = some 46 := by simp
  have e4 : (a ++ [46] ++ b).take a.length = a := by simp
  have e5 : (a ++ [46] ++ b).drop (a.length + 1) = b := by simp [List.drop_append]
  simp only [e1, e2, Nat.add_sub_cancel, e3, e4, e5, h1, h2]
  rw [if_neg (by simp), if_neg (by simp), if_neg (by simp), if_neg]
  rintro ⟨h5, h6⟩
  have := h3 h5
  omega
theorem parse_fix {K : Nat} {neg : Bool} {v : Nat} (hK : 1 ≤ K) (h : neg = true → 0 < v) (hv : v < 10 ^ 20) :
    parseT K (sgn (fixS K (put neg (decF 20 v)))).1 (sgn (fixS K (put neg (decF 20 v)))).2 = conv v neg := by
  unfold fixS
  rw [if_neg (by omega), sgn_put (.inr (dg_head (decF_all _ _)))]
  dsimp only
  have hl := pad_len K (decF 20 v)
  have hf := pad_front (K := K) hv hK
  have hall := pad_all (K := K) (decF_all 20 v)
  have hval := vl_pad K (decF 20 v)
  rw [decF_vl 20 v hv] at hval
  generalize pad K (decF 20 v) = u at hl hf hall hval
  have e1 : fixU K u neg = put neg (u.take (u.length - K) ++ [46] ++ u.drop (u.length - K)) := rfl
  have hne : u.take (u.length - K) ≠ [] := fun e => by
    have := congrArg List.length e
    rw [List.length_take] at this; simp at this; omega
  have hh : (u.take (u.length - K) ++ [46] ++ u.drop (u.length - K)).head? ≠ some 45 := by
    rw [List.append_assoc, head_app hne]
    exact dg_head (isNum_all hf)
  rw [e1, sgn_put (.inr hh)]
  dsimp only
  have hcat : u.take (u.length - K) ++ u.drop (u.length - K) = u := List.take_append_drop _ _
  rw [parseT_dot hne (by rw [List.length_drop]; omega) hf (List.all_eq_true.2 fun x hx => List.all_eq_true.1 hall x (List.mem_of_mem_drop hx)) (fun hn => by rw [hcat, hval]; exact h hn), hcat, hval]
theorem fixS_len (K : Nat) (l : List UInt8) : (fixS K l).length ≤ l.length + K + 3 := by
  unfold fixS
  have := pad_len K (sgn l).1
  have := sgn_len l
  split
  · omega
  · simp only [fixU]
    generalize pad K (sgn l).1 = u at *
    split <;> simp <;> omega
/-- Parsing a formatted number. -/
theorem parse_format {n : Int} {a1 : Int} (h0 : -9223372036854775808 ≤ n) (h1 : n ≤ 9223372036854775807) :
    ∃ neg v, n = nbr neg v ∧ (neg = true → 0 < v) ∧ parseS (itoaF n) = conv v neg ∧ (if clampN a1 = 0 then parseS (fixS (clampN a1) (itoaF n)) else parseT (clampN a1) (sgn (fixS (clampN a1) (itoaF n))).1 (sgn (fixS (clampN a1) (itoaF n))).2) = conv v neg := by
  obtain ⟨neg, v, rfl, hp⟩ := num_of n
  have hv : v < 10 ^ 20 := by
    unfold nbr at h0 h1
    split at h0 <;> simp_all <;> omega
  refine ⟨neg, v, rfl, hp, ?_, ?_⟩
  · rw [itoaF_num hp, parse_itoa hp hv]
  · rw [itoaF_num hp]
    split
    · rename_i h; rw [h]; exact parse_itoa hp hv
    · exact parse_fix (by omega) hp hv
end Go.Proofs.Ytmnedpfilckilaa
