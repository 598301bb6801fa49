/- The lexer's reference, plainly: strings and symbols at a place. -/
import Derived.Test.YtmnedpfilckilaaLexW
set_option linter.unusedSimpArgs false
set_option linter.unusedVariables false
namespace Go.Proofs.Ytmnedpfilckilaa
open Go.RowKit
set_option maxRecDepth 100000

def q2 (b : UInt8) : Bool := !(decide (b.toNat = 34)) && !(decide (b.toNat = 10))
theorem indexAny_qn : ∀ (l : List UInt8), Lib.indexAny l qn = if (l.takeWhile q2).length = l.length then -1 else ((l.takeWhile q2).length : Int)
  | [] => rfl
  | b :: l => by
    have hm : (b ∈ qn) ↔ (b.toNat = 34 ∨ b.toNat = 10) := by
      constructor
      · intro h
        rcases List.mem_cons.1 h with rfl | h
        · exact .inl rfl
        · rcases List.mem_cons.1 h with rfl | h
          · exact .inr rfl
          · exact absurd h (by simp)
      · rintro (h | h)
        · obtain rfl : b = 34 := UInt8.toNat_inj.1 h
          decide
        · obtain rfl : b = 10 := UInt8.toNat_inj.1 h
          decide
    have ih := indexAny_qn l
    have hw := tw_len (p := q2) l
    rw [Lib.indexAny, List.takeWhile_cons]
    unfold q2 at ih hw ⊢
    by_cases h34 : b.toNat = 34
    · rw [if_pos (by simpa using hm.2 (.inl h34))]
      simp [h34]
    · by_cases h10 : b.toNat = 10
      · rw [if_pos (by simpa using hm.2 (.inr h10))]
        simp [h10]
      · rw [if_neg (by simp only [List.contains_iff_mem]; intro h; rcases hm.1 h with h | h <;> contradiction), ih]
        simp only [h34, h10, decide_false, Bool.not_false, Bool.and_self, if_true, List.length_cons]
        by_cases h : (l.takeWhile fun b => !(decide (b.toNat = 34)) && !(decide (b.toNat = 10))).length = l.length
        · simp [h]
        · have h2 : ¬ (l.takeWhile fun b => !(decide (b.toNat = 34)) && !(decide (b.toNat = 10))).length + 1 = l.length + 1 := by omega
          rw [if_neg h, if_neg h2, if_neg (by first | (simp; done) | (simp; omega))]
          omega
/-- The program's string of J bytes. -/
def quoJ (u : List UInt8) (J : Nat) : TokT × Int :=
  if J = u.tail.length then (z4, 5) else if (u.getD (J + 1) 0).toNat = 10 then (z4, 5)
  else if (u.tail.take J).all prn = false then (z4, 2) else if 64 < J then (z4, 4) else ((6, u.tail.take J, 0, 0), 0)
theorem quoP_J (u : List UInt8) : quoP u = quoJ u (u.tail.takeWhile q2).length := by
  have hw := tw_len (p := q2) u.tail
  unfold quoP quoJ
  rw [indexAny_qn]
  by_cases h : (u.tail.takeWhile q2).length = u.tail.length
  · rw [if_pos h, if_pos (by decide), if_pos h]
  · rw [if_neg h, if_neg (by omega), if_neg h, Int.toNat_natCast]
theorem quo_all {N : Nat} {s : List UInt8} {i J : Nat} (hs : s.length ≤ 100000) (hJ : i + 1 + J < s.length) : ∀ (d n a : Nat), a + d = J → d < n →
    ∃ y, L38_7 N n s (i : Int) ((i + 1 + J : Nat) : Int) ((i + 1 + a : Nat) : Int) 0 [] 0 0 = some y ∧
      AtI i y (if ((s.drop (i + 1 + a)).take d).all prn = false then (z4, (2 : Int)) else if 64 < J then (z4, 4) else ((6, (s.drop (i + 1)).take J, 0, 0), 0)).1 (((if ((s.drop (i + 1 + a)).take d).all prn = false then (z4, (2 : Int)) else if 64 < J then (z4, 4) else ((6, (s.drop (i + 1)).take J, 0, 0), 0)).1.2.1.length : Int) + 2) (if ((s.drop (i + 1 + a)).take d).all prn = false then (z4, (2 : Int)) else if 64 < J then (z4, 4) else ((6, (s.drop (i + 1)).take J, 0, 0), 0)).2
  | 0, 0, a, _, h => by omega
  | d + 1, 0, a, _, h => by omega
  | 0, n + 1, a, ha, hn => by
    obtain rfl : a = J := by omega
    have e0 : IntKind.wrap IntKind.i64 (((i + 1 + a : Nat) : Int) - (i : Int)) = ((a + 1 : Nat) : Int) := by rw [w64] <;> omega
    have e1 : IntKind.wrap IntKind.i64 (((a + 1 : Nat) : Int) - 1) = (a : Int) := by rw [w64] <;> omega
    have e2 : IntKind.wrap IntKind.i64 ((i : Int) + 1) = ((i + 1 : Nat) : Int) := by rw [w64] <;> omega
    have e3 : IntKind.wrap IntKind.i64 (((i + 1 + a : Nat) : Int) + 1) = ((i + 1 + a + 1 : Nat) : Int) := by rw [w64] <;> omega
    have hl : ((s.drop (i + 1)).take a).length = a := by simp; omega
    rw [L38_7_eq, aIf_if, if_neg (by simp), e0, e1, e2, e3, aIf_if]
    rw [List.take_zero, List.all_nil]
    simp only [if_neg (show ¬ true = false by simp)]
    by_cases h : 64 < a
    · rw [if_pos (by simp; omega), if_pos h]
      exact ⟨_, rfl, rfl, fun e => by cases e⟩
    · rw [if_neg (by simp; omega), if_neg h, aGd_if, if_pos (by simp; omega), aGd_if, if_pos (by simp; omega), aGd_if, if_pos (by simp; omega), aGd_if, if_pos (by simp; omega), aGd04, Int.toNat_natCast, Int.toNat_natCast, sub_take]
      refine ⟨_, rfl, rfl, fun _ => ⟨rfl, ?_⟩⟩
      dsimp only
      rw [hl]
      omega
  | d + 1, n + 1, a, ha, hn => by
    have hlt : i + 1 + a < s.length := by omega
    have e1 : IntKind.wrap IntKind.i64 (((i + 1 + a : Nat) : Int) + 1) = ((i + 1 + (a + 1) : Nat) : Int) := by rw [w64] <;> omega
    obtain ⟨y, ih1, ih2⟩ := quo_all (N := N) hs hJ d n (a + 1) (by omega) (by omega)
    rw [L38_7_eq, aIf_if, if_pos (by simp; omega), onGet_nat hlt, onGet_nat hlt, aIf_if, aIf_if, e1, ih1, List.drop_eq_getElem_cons hlt, List.take_succ_cons, List.all_cons]
    by_cases h1 : s[i + 1 + a].toNat < 32
    · have : prn s[i + 1 + a] = false := by unfold prn; simp; omega
      rw [if_pos (by simp; omega), this, Bool.false_and, if_pos rfl]
      exact ⟨_, rfl, rfl, fun e => by cases e⟩
    · rw [if_neg (by simp; omega)]
      by_cases h2 : 126 < s[i + 1 + a].toNat
      · have : prn s[i + 1 + a] = false := by unfold prn; simp; omega
        rw [if_pos (by simp; omega), this, Bool.false_and, if_pos rfl]
        exact ⟨_, rfl, rfl, fun e => by cases e⟩
      · have : prn s[i + 1 + a] = true := by unfold prn; simp; omega
        rw [if_neg (by simp; omega), this, Bool.true_and]
        exact ⟨y, rfl, ih2⟩
theorem quo_end {N : Nat} {s : List UInt8} {i J : Nat} (hs : s.length ≤ 100000) (hsN : s.length < N) (hi : i < s.length) (hJ : i + 1 + J ≤ s.length) :
    ∃ y, (aIf (((i + 1 + J : Nat) : Int) == Int.ofNat s.length) (aGd (decide (0 + 4 ≤ 4)) (some ((((0 : Int), [], (0 : Int), (0 : Int)) : TokT), (0 : Int), (5 : Int))))
      (onGet s ((i + 1 + J : Nat) : Int) fun z => aIf (Int.ofNat z.toNat == 10) (aGd (decide (0 + 4 ≤ 4)) (some ((((0 : Int), [], (0 : Int), (0 : Int)) : TokT), (0 : Int), (5 : Int))))
        (L38_7 N N s (i : Int) ((i + 1 + J : Nat) : Int) (IntKind.wrap IntKind.i64 ((i : Int) + 1)) 0 [] 0 0))) = some y ∧
      AtI i y (quoJ (s.drop i) J).1 (((quoJ (s.drop i) J).1.2.1.length : Int) + 2) (quoJ (s.drop i) J).2 := by
  have e0 : (s.drop i).tail = s.drop (i + 1) := by rw [List.drop_eq_getElem_cons hi, List.tail_cons]
  have e2 : IntKind.wrap IntKind.i64 ((i : Int) + 1) = ((i + 1 + 0 : Nat) : Int) := by rw [w64] <;> omega
  unfold quoJ
  rw [e0, aIf_if]
  by_cases h : i + 1 + J = s.length
  · rw [if_pos (by simp; omega), if_pos (by simp; omega)]
    exact ⟨_, rfl, rfl, fun e => by cases e⟩
  · have hlt : i + 1 + J < s.length := by omega
    have t10 : (Int.ofNat s[i + 1 + J].toNat == 10) = decide (s[i + 1 + J].toNat = 10) := beqN (m := 10)
    have hg : (s.drop i).getD (J + 1) 0 = s[i + 1 + J] := by
      rw [getD_drop (by omega)]
      congr 1; omega
    rw [if_neg (by simp; omega), if_neg (by simp; omega), onGet_nat hlt, t10, hg, aIf_if]
    by_cases h10 : s[i + 1 + J].toNat = 10
    · rw [if_pos (by simpa using h10), if_pos h10]
      exact ⟨_, rfl, rfl, fun e => by cases e⟩
    · rw [if_neg (by simpa using h10), if_neg h10, e2]
      exact quo_all (N := N) hs hlt J N 0 (by omega) (by omega)
theorem L38_v {N : Nat} {s : List UInt8} {i : Nat} (hs : s.length ≤ 100000) (hsN : s.length < N) (hi : i < s.length) : ∀ (n q : Nat), i + 1 + q ≤ s.length → s.length - (i + 1 + q) < n →
    ∃ y, L38_2 N n s (i : Int) ((i + 1 + q : Nat) : Int) 0 [] 0 0 = some y ∧
      AtI i y (quoJ (s.drop i) (q + ((s.drop (i + 1 + q)).takeWhile q2).length)).1 (((quoJ (s.drop i) (q + ((s.drop (i + 1 + q)).takeWhile q2).length)).1.2.1.length : Int) + 2) (quoJ (s.drop i) (q + ((s.drop (i + 1 + q)).takeWhile q2).length)).2
  | 0, q, _, h => by omega
  | n + 1, q, hq, hn => by
    rw [L38_2_eq]
    by_cases hlt : i + 1 + q < s.length
    · have e1 : IntKind.wrap IntKind.i64 (((i + 1 + q : Nat) : Int) + 1) = ((i + 1 + (q + 1) : Nat) : Int) := by rw [w64] <;> omega
      have t34 : (Int.ofNat s[i + 1 + q].toNat != 34) = !decide (s[i + 1 + q].toNat = 34) := by rw [bne, show (34 : Int) = ((34 : Nat) : Int) from rfl, beqN]
      have t10 : (Int.ofNat s[i + 1 + q].toNat != 10) = !decide (s[i + 1 + q].toNat = 10) := by rw [bne, show (10 : Int) = ((10 : Nat) : Int) from rfl, beqN]
      have end_ := quo_end (N := N) hs hsN hi (J := q) (by omega)
      rw [aIf_if, if_pos (by simp; omega), onGet_nat hlt, t34, onGet_nat hlt, t10, e1, List.drop_eq_getElem_cons hlt, List.takeWhile_cons]
      unfold q2
      by_cases h34 : s[i + 1 + q].toNat = 34
      · simp only [h34, decide_true, Bool.not_true, Bool.false_and, Bool.false_eq_true, if_false, List.length_nil, Nat.add_zero, aIf_f]
        exact end_
      · by_cases h10 : s[i + 1 + q].toNat = 10
        · simp only [h34, h10, decide_true, decide_false, Bool.not_true, Bool.not_false, Bool.and_false, Bool.true_and, Bool.false_eq_true, if_false, List.length_nil, Nat.add_zero, aIf_f, aIf_t]
          exact end_
        · have ih := L38_v (N := N) hs hsN hi n (q + 1) (by omega) (by omega)
          unfold q2 at ih
          simp only [h34, h10, decide_false, Bool.not_false, Bool.and_self, if_true, aIf_t, List.length_cons]
          rw [show q + (((s.drop (i + 1 + q + 1)).takeWhile fun b => !(decide (b.toNat = 34)) && !(decide (b.toNat = 10))).length + 1) = q + 1 + ((s.drop (i + 1 + (q + 1))).takeWhile fun b => !(decide (b.toNat = 34)) && !(decide (b.toNat = 10))).length by rw [Nat.add_assoc (i + 1) q 1]; omega]
          exact ih
    · have e : s.drop (i + 1 + q) = [] := List.drop_eq_nil_of_le (by omega)
      rw [aIf_if, if_neg (by simp; omega), e]
      exact quo_end hs hsN hi hq
theorem F38_v {N : Nat} {s : List UInt8} {i : Nat} (hs : s.length ≤ 100000) (hsN : s.length < N) (hi : i < s.length) :
    ∃ y, F38 N (s, (i : Int)) = some y ∧ AtI i y (quoP (s.drop i)).1 (((quoP (s.drop i)).1.2.1.length : Int) + 2) (quoP (s.drop i)).2 := by
  have e2 : IntKind.wrap IntKind.i64 ((i : Int) + 1) = ((i + 1 + 0 : Nat) : Int) := by rw [w64] <;> omega
  have e0 : (s.drop i).tail = s.drop (i + 1) := by rw [List.drop_eq_getElem_cons hi, List.tail_cons]
  have := L38_v (N := N) hs hsN hi N 0 (by omega) (by omega)
  rw [F38_eq, e2, quoP_J, e0]
  simpa only [Nat.zero_add, Nat.add_zero] using this

/-! ## Symbols -/
theorem sym_end {s : List UInt8} {i q : Nat} {x : Int} (hq : i + q ≤ s.length) (hx : x = ((i + q : Nat) : Int)) :
    aGd (decide ((0 : Int) ≤ x)) (aGd (decide (x ≤ Int.ofNat s.length)) (aGd (decide ((0 : Int) ≤ (i : Int))) (aGd (decide ((i : Int) ≤ Int.ofNat (Int.toNat x))) (some ((((7 : Int), List.drop (Int.toNat (i : Int)) (List.take (Int.toNat x) s), (0 : Int), (i : Int)) : TokT), x, (0 : Int))))))
      = some ((7, (s.drop i).take q, 0, (i : Int)), x, 0) := by
  subst hx
  rw [aGd_if, if_pos (by simp; omega), aGd_if, if_pos (by simp; omega), aGd_if, if_pos (by simp), aGd_if, if_pos (by simp; omega), Int.toNat_natCast, Int.toNat_natCast, sub_take]
theorem sym_at1 {s : List UInt8} {i : Nat} (hi : i < s.length) (h : symP (s.drop i) = ((7, (s.drop i).take 1, 0, 0), 0)) :
    AtI i ((7, (s.drop i).take 1, 0, (i : Int)), ((i + 1 : Nat) : Int), 0) (symP (s.drop i)).1 ((symP (s.drop i)).1.2.1.length : Int) (symP (s.drop i)).2 := by
  have hl : ((s.drop i).take 1).length = 1 := by simp; omega
  rw [h]
  refine ⟨rfl, fun _ => ⟨rfl, ?_⟩⟩
  dsimp only
  rw [hl]; exact Int.natCast_add i 1
theorem sym_at2 {s : List UInt8} {i : Nat} (hi : i + 1 < s.length) (h : symP (s.drop i) = ((7, (s.drop i).take 2, 0, 0), 0)) :
    AtI i ((7, (s.drop i).take 2, 0, (i : Int)), ((i + 2 : Nat) : Int), 0) (symP (s.drop i)).1 ((symP (s.drop i)).1.2.1.length : Int) (symP (s.drop i)).2 := by
  have hl : ((s.drop i).take 2).length = 2 := by simp; omega
  rw [h]
  refine ⟨rfl, fun _ => ⟨rfl, ?_⟩⟩
  dsimp only
  rw [hl]; exact Int.natCast_add i 2
theorem sym_at0 {s : List UInt8} {i : Nat} (h : symP (s.drop i) = (z4, 2)) :
    AtI i (z4, 0, 2) (symP (s.drop i)).1 ((symP (s.drop i)).1.2.1.length : Int) (symP (s.drop i)).2 := by
  rw [h]
  exact ⟨rfl, fun e => by cases e⟩
theorem F39_v {N : Nat} {s : List UInt8} {i : Nat} (hs : s.length ≤ 100000) (hi : i < s.length) :
    ∃ y, F39 N (s, (i : Int)) = some y ∧ AtI i y (symP (s.drop i)).1 ((symP (s.drop i)).1.2.1.length : Int) (symP (s.drop i)).2 := by
  have e1 : IntKind.wrap IntKind.i64 ((i : Int) + 1) = ((i + 1 : Nat) : Int) := by rw [w64] <;> omega
  have e2 : IntKind.wrap IntKind.i64 ((i : Int) + 2) = ((i + 2 : Nat) : Int) := by rw [w64] <;> omega
  have t60 : (Int.ofNat s[i].toNat == 60) = decide (s[i].toNat = 60) := beqN (m := 60)
  have t61 : (Int.ofNat s[i].toNat == 61) = decide (s[i].toNat = 61) := beqN (m := 61)
  have t33 : (Int.ofNat s[i].toNat == 33) = decide (s[i].toNat = 33) := beqN (m := 33)
  have t40 : (Int.ofNat s[i].toNat == 40) = decide (s[i].toNat = 40) := beqN (m := 40)
  have t41 : (Int.ofNat s[i].toNat == 41) = decide (s[i].toNat = 41) := beqN (m := 41)
  have t44 : (Int.ofNat s[i].toNat == 44) = decide (s[i].toNat = 44) := beqN (m := 44)
  have t58 : (Int.ofNat s[i].toNat == 58) = decide (s[i].toNat = 58) := beqN (m := 58)
  have t43 : (Int.ofNat s[i].toNat == 43) = decide (s[i].toNat = 43) := beqN (m := 43)
  have t45 : (Int.ofNat s[i].toNat == 45) = decide (s[i].toNat = 45) := beqN (m := 45)
  have t42 : (Int.ofNat s[i].toNat == 42) = decide (s[i].toNat = 42) := beqN (m := 42)
  have hc := List.drop_eq_getElem_cons hi
  have f1 := sym_end (s := s) (i := i) (q := 1) (x := ((i + 1 : Nat) : Int)) (by omega) rfl
  have base : symP (s.drop i) = if s[i].toNat = 33 then (if ((s.drop (i + 1)).headD 0).toNat = 61 then ((7, (s.drop i).take 2, 0, 0), 0) else (z4, 2))
    else if s[i].toNat = 60 ∨ s[i].toNat = 61 then (if ((s.drop (i + 1)).headD 0).toNat = 61 then ((7, (s.drop i).take 2, 0, 0), 0) else ((7, (s.drop i).take 1, 0, 0), 0))
    else if s[i].toNat = 40 ∨ s[i].toNat = 41 ∨ s[i].toNat = 44 ∨ s[i].toNat = 58 ∨ s[i].toNat = 43 ∨ s[i].toNat = 45 ∨ s[i].toNat = 42 then ((7, (s.drop i).take 1, 0, 0), 0)
    else (z4, 2) := by rw [hc]; rfl
  rw [F39_eq, onGet_nat hi]
  by_cases hlt : i + 1 < s.length
  · have f2 := sym_end (s := s) (i := i) (q := 2) (x := ((i + 2 : Nat) : Int)) (by omega) rfl
    have hh : (s.drop (i + 1)).headD 0 = s[i + 1] := by rw [List.drop_eq_getElem_cons hlt]; rfl
    have s61 : (Int.ofNat s[i + 1].toNat == 61) = decide (s[i + 1].toNat = 61) := beqN (m := 61)
    have hd : decide (((i + 1 : Nat) : Int) < Int.ofNat s.length) = true := by simp; omega
    rw [hh] at base
    simp only [aGd04]
    simp only [e1, e2, f1, f2, t60, t61, t33, t40, t41, t44, t58, t43, t45, t42, onGet_nat hlt, s61, hd, aIf_t, aGd04]
    by_cases h33 : s[i].toNat = 33
    · by_cases hx : s[i + 1].toNat = 61
      · have hp : symP (s.drop i) = ((7, (s.drop i).take 2, 0, 0), 0) := by rw [base]; simp [h33, hx]
        exact ⟨_, by simp [h33, hx, aIf_if], sym_at2 hlt hp⟩
      · have hp : symP (s.drop i) = (z4, 2) := by rw [base]; simp [h33, hx]
        exact ⟨(z4, 0, 2), by simp [h33, hx, aIf_if, z4], sym_at0 hp⟩
    by_cases h60 : s[i].toNat = 60
    · by_cases hx : s[i + 1].toNat = 61
      · have hp : symP (s.drop i) = ((7, (s.drop i).take 2, 0, 0), 0) := by rw [base]; simp [h60, hx]
        exact ⟨_, by simp [h60, hx, aIf_if], sym_at2 hlt hp⟩
      · have hp : symP (s.drop i) = ((7, (s.drop i).take 1, 0, 0), 0) := by rw [base]; simp [h60, hx]
        exact ⟨_, by simp [h60, hx, aIf_if], sym_at1 hi hp⟩
    by_cases h61 : s[i].toNat = 61
    · by_cases hx : s[i + 1].toNat = 61
      · have hp : symP (s.drop i) = ((7, (s.drop i).take 2, 0, 0), 0) := by rw [base]; simp [h61, hx]
        exact ⟨_, by simp [h61, hx, aIf_if], sym_at2 hlt hp⟩
      · have hp : symP (s.drop i) = ((7, (s.drop i).take 1, 0, 0), 0) := by rw [base]; simp [h61, hx]
        exact ⟨_, by simp [h61, hx, aIf_if], sym_at1 hi hp⟩
    by_cases h40 : s[i].toNat = 40
    · have hp : symP (s.drop i) = ((7, (s.drop i).take 1, 0, 0), 0) := by rw [base]; simp [h40]
      by_cases hx : s[i + 1].toNat = 61
      · exact ⟨_, by simp [h40, hx, aIf_if], sym_at1 hi hp⟩
      · exact ⟨_, by simp [h40, hx, aIf_if], sym_at1 hi hp⟩
    by_cases h41 : s[i].toNat = 41
    · have hp : symP (s.drop i) = ((7, (s.drop i).take 1, 0, 0), 0) := by rw [base]; simp [h41]
      by_cases hx : s[i + 1].toNat = 61
      · exact ⟨_, by simp [h41, hx, aIf_if], sym_at1 hi hp⟩
      · exact ⟨_, by simp [h41, hx, aIf_if], sym_at1 hi hp⟩
    by_cases h44 : s[i].toNat = 44
    · have hp : symP (s.drop i) = ((7, (s.drop i).take 1, 0, 0), 0) := by rw [base]; simp [h44]
      by_cases hx : s[i + 1].toNat = 61
      · exact ⟨_, by simp [h44, hx, aIf_if], sym_at1 hi hp⟩
      · exact ⟨_, by simp [h44, hx, aIf_if], sym_at1 hi hp⟩
    by_cases h58 : s[i].toNat = 58
    · have hp : symP (s.drop i) = ((7, (s.drop i).take 1, 0, 0), 0) := by rw [base]; simp [h58]
      by_cases hx : s[i + 1].toNat = 61
      · exact ⟨_, by simp [h58, hx, aIf_if], sym_at1 hi hp⟩
      · exact ⟨_, by simp [h58, hx, aIf_if], sym_at1 hi hp⟩
    by_cases h43 : s[i].toNat = 43
    · have hp : symP (s.drop i) = ((7, (s.drop i).take 1, 0, 0), 0) := by rw [base]; simp [h43]
      by_cases hx : s[i + 1].toNat = 61
      · exact ⟨_, by simp [h43, hx, aIf_if], sym_at1 hi hp⟩
      · exact ⟨_, by simp [h43, hx, aIf_if], sym_at1 hi hp⟩
    by_cases h45 : s[i].toNat = 45
    · have hp : symP (s.drop i) = ((7, (s.drop i).take 1, 0, 0), 0) := by rw [base]; simp [h45]
      by_cases hx : s[i + 1].toNat = 61
      · exact ⟨_, by simp [h45, hx, aIf_if], sym_at1 hi hp⟩
      · exact ⟨_, by simp [h45, hx, aIf_if], sym_at1 hi hp⟩
    by_cases h42 : s[i].toNat = 42
    · have hp : symP (s.drop i) = ((7, (s.drop i).take 1, 0, 0), 0) := by rw [base]; simp [h42]
      by_cases hx : s[i + 1].toNat = 61
      · exact ⟨_, by simp [h42, hx, aIf_if], sym_at1 hi hp⟩
      · exact ⟨_, by simp [h42, hx, aIf_if], sym_at1 hi hp⟩
    · have hp : symP (s.drop i) = (z4, 2) := by rw [base]; simp [h33, h60, h61, h40, h41, h44, h58, h43, h45, h42]
      refine ⟨(z4, 0, 2), ?_, sym_at0 hp⟩
      by_cases hx : s[i + 1].toNat = 61 <;> simp [h33, h60, h61, h40, h41, h44, h58, h43, h45, h42, hx, aIf_if, z4]
  · have hd : decide (((i + 1 : Nat) : Int) < Int.ofNat s.length) = false := by simp; omega
    have hh : (s.drop (i + 1)).headD 0 = 0 := by rw [List.drop_eq_nil_of_le (by omega)]; rfl
    rw [hh] at base
    simp only [aGd04]
    simp only [e1, f1, t60, t61, t33, t40, t41, t44, t58, t43, t45, t42, hd, aIf_f, aGd04]
    by_cases h33 : s[i].toNat = 33
    · have hp : symP (s.drop i) = (z4, 2) := by rw [base]; simp [h33]
      exact ⟨(z4, 0, 2), by simp [h33, aIf_if, z4], sym_at0 hp⟩
    by_cases h60 : s[i].toNat = 60
    · have hp : symP (s.drop i) = ((7, (s.drop i).take 1, 0, 0), 0) := by rw [base]; simp [h60]
      exact ⟨_, by simp [h60, aIf_if], sym_at1 hi hp⟩
    by_cases h61 : s[i].toNat = 61
    · have hp : symP (s.drop i) = ((7, (s.drop i).take 1, 0, 0), 0) := by rw [base]; simp [h61]
      exact ⟨_, by simp [h61, aIf_if], sym_at1 hi hp⟩
    by_cases h40 : s[i].toNat = 40
    · have hp : symP (s.drop i) = ((7, (s.drop i).take 1, 0, 0), 0) := by rw [base]; simp [h40]
      exact ⟨_, by simp [h40, aIf_if], sym_at1 hi hp⟩
    by_cases h41 : s[i].toNat = 41
    · have hp : symP (s.drop i) = ((7, (s.drop i).take 1, 0, 0), 0) := by rw [base]; simp [h41]
      exact ⟨_, by simp [h41, aIf_if], sym_at1 hi hp⟩
    by_cases h44 : s[i].toNat = 44
    · have hp : symP (s.drop i) = ((7, (s.drop i).take 1, 0, 0), 0) := by rw [base]; simp [h44]
      exact ⟨_, by simp [h44, aIf_if], sym_at1 hi hp⟩
    by_cases h58 : s[i].toNat = 58
    · have hp : symP (s.drop i) = ((7, (s.drop i).take 1, 0, 0), 0) := by rw [base]; simp [h58]
      exact ⟨_, by simp [h58, aIf_if], sym_at1 hi hp⟩
    by_cases h43 : s[i].toNat = 43
    · have hp : symP (s.drop i) = ((7, (s.drop i).take 1, 0, 0), 0) := by rw [base]; simp [h43]
      exact ⟨_, by simp [h43, aIf_if], sym_at1 hi hp⟩
    by_cases h45 : s[i].toNat = 45
    · have hp : symP (s.drop i) = ((7, (s.drop i).take 1, 0, 0), 0) := by rw [base]; simp [h45]
      exact ⟨_, by simp [h45, aIf_if], sym_at1 hi hp⟩
    by_cases h42 : s[i].toNat = 42
    · have hp : symP (s.drop i) = ((7, (s.drop i).take 1, 0, 0), 0) := by rw [base]; simp [h42]
      exact ⟨_, by simp [h42, aIf_if], sym_at1 hi hp⟩
    · have hp : symP (s.drop i) = (z4, 2) := by rw [base]; simp [h33, h60, h61, h40, h41, h44, h58, h43, h45, h42]
      refine ⟨(z4, 0, 2), ?_, sym_at0 hp⟩
      simp [h33, h60, h61, h40, h41, h44, h58, h43, h45, h42, aIf_if, z4]
end Go.Proofs.Ytmnedpfilckilaa
