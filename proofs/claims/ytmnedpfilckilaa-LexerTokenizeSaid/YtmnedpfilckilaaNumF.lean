/- Plain laws of numtext: fixed-point numbers formatted. -/
import Derived.Test.YtmnedpfilckilaaNumE
import Derived.Lib.Repeat
set_option linter.unusedSimpArgs false
set_option linter.unusedVariables false
namespace Go.Proofs.Ytmnedpfilckilaa
open Go.RowKit

def pad (K : Nat) (t : List UInt8) : List UInt8 := List.replicate (K + 1 - t.length) 48 ++ t
def fixU (K : Nat) (u : List UInt8) (neg : Bool) : List UInt8 := (if neg = true then [45] else []) ++ (u.take (u.length - K) ++ [46] ++ u.drop (u.length - K))
/-- What FormatFixed answers. -/
def fixS (K : Nat) (l : List UInt8) : List UInt8 := if K = 0 then l else fixU K (pad K (sgn l).1) (sgn l).2
theorem rep_zero : ∀ n, Lib.repeatL [48] n = List.replicate n 48
  | 0 => rfl
  | n + 1 => by rw [Lib.repeatL, rep_zero n, List.replicate_succ]; rfl
theorem pad_len (K : Nat) (t : List UInt8) : (pad K t).length = max (K + 1) t.length := by
  simp [pad]; omega
theorem itoaF_len (n : Int) : (itoaF n).length ≤ 21 := by
  unfold itoaF
  have h1 := decF_len 20 n.natAbs
  have h2 := decF_len 20 n.toNat
  split
  · simp; omega
  · omega
theorem fmt_tail {K : Nat} {u : List UInt8} {neg : Bool} (h1 : K < u.length) (h2 : u.length ≤ 1000) :
    (aGd (decide ((0 : Int) ≤ IntKind.wrap IntKind.i64 (Int.ofNat (List.length u) - K)))
    (aGd (decide (IntKind.wrap IntKind.i64 (Int.ofNat (List.length u) - K) ≤ Int.ofNat (List.length u)))
      (aGd
        (decide
          (List.length (List.drop (0 : Nat) (List.take (Int.toNat (IntKind.wrap IntKind.i64 (Int.ofNat (List.length u) - K))) u)) + (1 : Nat) ≤ (9223372036854775807 : Nat)))
        (aGd (decide ((0 : Int) ≤ IntKind.wrap IntKind.i64 (Int.ofNat (List.length u) - K)))
          (aGd (decide (IntKind.wrap IntKind.i64 (Int.ofNat (List.length u) - K) ≤ Int.ofNat (List.length u)))
            (aGd
              (decide
                (List.length (List.drop (0 : Nat) (List.take (Int.toNat (IntKind.wrap IntKind.i64 (Int.ofNat (List.length u) - K))) u) ++ [(46 : UInt8)]) +
                    List.length (List.drop (Int.toNat (IntKind.wrap IntKind.i64 (Int.ofNat (List.length u) - K))) (List.take (List.length u) u)) ≤
                  (9223372036854775807 : Nat)))
              (aIf neg
                (aGd
                  (decide
                    ((1 : Nat) +
                        List.length
                          (List.drop (0 : Nat) (List.take (Int.toNat (IntKind.wrap IntKind.i64 (Int.ofNat (List.length u) - K))) u) ++ [(46 : UInt8)] ++
                            List.drop (Int.toNat (IntKind.wrap IntKind.i64 (Int.ofNat (List.length u) - K))) (List.take (List.length u) u)) ≤
                      (9223372036854775807 : Nat)))
                  (some
                    ((45 : UInt8) ::
                      List.append []
                        (List.drop (0 : Nat) (List.take (Int.toNat (IntKind.wrap IntKind.i64 (Int.ofNat (List.length u) - K))) u) ++ [(46 : UInt8)] ++
                          List.drop (Int.toNat (IntKind.wrap IntKind.i64 (Int.ofNat (List.length u) - K))) (List.take (List.length u) u)))))
                (some
                  (List.drop (0 : Nat) (List.take (Int.toNat (IntKind.wrap IntKind.i64 (Int.ofNat (List.length u) - K))) u) ++ [(46 : UInt8)] ++
                    List.drop (Int.toNat (IntKind.wrap IntKind.i64 (Int.ofNat (List.length u) - K))) (List.take (List.length u) u))))))))))
      = some (fixU K u neg) := by
  obtain ⟨q, hq⟩ : ∃ q, u.length = q + K := ⟨u.length - K, by omega⟩
  have e1 : IntKind.i64.wrap ((u.length : Int) - K) = (q : Int) := by rw [w64] <;> omega
  have e2 : u.length - K = q := by omega
  have g1 : (0 : Int) ≤ q := by omega
  have g2 : (q : Int) ≤ (u.length : Int) := by omega
  have f1 : (u.take q).length + 1 ≤ 9223372036854775807 := by rw [List.length_take]; omega
  have f2 : (u.take q ++ [46]).length + (u.drop q).length ≤ 9223372036854775807 := by rw [List.length_append, List.length_take, List.length_drop]; simp; omega
  have f3 : 1 + (u.take q ++ [46] ++ u.drop q).length ≤ 9223372036854775807 := by rw [List.length_append, List.length_append, List.length_take, List.length_drop]; simp; omega
  simp only [aGd_if, aIf_if, Int.ofNat_eq_natCast, e1, Int.toNat_natCast, List.drop_zero, List.take_length, decide_eq_true_eq, g1, g2, f1, f2, f3, if_true, fixU, e2]
  cases neg <;> simp
end Go.Proofs.Ytmnedpfilckilaa
